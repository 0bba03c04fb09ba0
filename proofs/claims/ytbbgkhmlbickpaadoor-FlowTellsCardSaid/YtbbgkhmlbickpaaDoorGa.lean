/- Part Ga of the proof: laws used by the law of this claim. -/
import Derived.OrdersHeld
import Derived.KernelRfl
import Derived.Tactics
import Derived.Tactics2
import Derived.BigQuiet
import Derived.Below
import Derived.WalkKit
import Derived.WalkSpells
import Derived.WalkLawsBesides
import Derived.Maps.AppendAt
import Derived.Deep.AppendLies
import Derived.Laws.CopyOwn
import Derived.Laws.BytesArg
import Derived.Laws.BitsAllLaws
import Derived.ChangeKeysEq
import Derived.Laws.StructEq
import Derived.Deep.MidRow
import Derived.Laws.Rows
import Derived.ProofKit
import Derived.OpenShut
import Derived.ChangeOld
import Derived.JoinedCond
import Derived.SizedLaws
import Derived.Lib.LaidTab
import Derived.Lib.ItoaNum
set_option linter.all false
namespace Go.Mix
open Go Go.RowKit

section
variable {P : Program} {ops : Array Oper} {md : Region.Mode}

end

/-- A class of worlds, as a type: so that the walk's simp meets 'u.w' and no premise. -/
def Cls (S : World → Prop) : Type := {w : World // S w}
def Cls.w {S : World → Prop} (u : Cls S) : World := u.1
theorem Cls.is {S : World → Prop} (u : Cls S) : S u.w := u.2
/-- Worlds in which all below block B is as in w0. -/
def SB (B : Nat) (w0 w : World) : Prop := Below B w0 w ∧ B ≤ w.heap.size
abbrev SBW (B : Nat) (w0 : World) : Type := Cls (SB B w0)
theorem SB.refl {B : Nat} {w0 : World} (h : B ≤ w0.heap.size) : SB B w0 w0 := ⟨Below.refl _ _, h⟩
theorem SB.step {B : Nat} {w0 w w' : World} (h : SB B w0 w) (h' : Below w.heap.size w w') : SB B w0 w' := ⟨h.1.trans (h'.mono h.2), Nat.le_trans h.2 h'.size⟩
theorem SB.low {B : Nat} {w0 w w' : World} (h : SB B w0 w) (h' : Below B w w') : SB B w0 w' := ⟨h.1.trans h', Nat.le_trans h.2 h'.size⟩
theorem SB.alloc {B : Nat} {w0 w : World} (h : SB B w0 w) (o : Obj) : SB B w0 (w.alloc o) := h.low ((Below.refl _ _).alloc h.2 o)
theorem Cls.sb {B : Nat} {w0 : World} (u : SBW B w0) : SB B w0 u.w := u.2
theorem Cls.cell {B : Nat} {w0 : World} (u : SBW B w0) {b o : Nat} {v : Value} (h : w0.cell? ⟨b, o, none⟩ = some v) (hb : b < B) : u.w.cell? ⟨b, o, none⟩ = some v := (u.sb.1.cell (p := ⟨b, o, none⟩) hb).trans h
end Go.Mix

namespace Go.Bas
open Go Go.RowKit Go.Mix

theorem hid {p : Prop} (h : p) : Hid p := h
/-- a walk stands where its arm leaves this -/
def Stop (p : Prop) : Prop := p
theorem Stop.on {p : Prop} (h : p) : Stop p := h

/-! ### bytes in memory -/
def bv (u : UInt8) : Value := .int .u8 (u.toNat : Int)
def gt (l : List UInt8) (i : Nat) : Int := ((l.getD i 0).toNat : Int)
theorem gt_of_lt {l : List UInt8} {i : Nat} (h : i < l.length) : gt l i = (l[i].toNat : Int) := by
  unfold gt; rw [List.getD_eq_getElem?_getD, List.getElem?_eq_getElem h]; rfl
theorem gt_drop (l : List UInt8) (k i : Nat) : gt (l.drop k) i = gt l (k + i) := by
  unfold gt; simp [List.getD_eq_getElem?_getD, List.getElem?_drop]
theorem gt_take {l : List UInt8} {k i : Nat} (h : i < k) : gt (l.take k) i = gt l i := by
  unfold gt; simp [List.getD_eq_getElem?_getD, h]
theorem bv_getElem? {l : List UInt8} {j : Nat} (h : j < l.length) : (l.map bv)[j]? = some (.int .u8 (gt l j)) := by
  rw [gt_of_lt h]; simp [h, bv]
theorem bv_one (l : List UInt8) : ∀ u ∈ l.map bv, u.oneCell' = true := by
  intro u hu; obtain ⟨x, _, rfl⟩ := List.mem_map.1 hu; rfl

theorem add_lit0 (b off j : Nat) : (⟨b, off, none⟩ : Addr).add j = ⟨b, off + j, none⟩ := by unfold Addr.add; split <;> simp_all

/-- The slice value '.slice A n c' reads as the bytes l. -/
structure Bs (w : World) (A : Option Addr) (n c : Nat) (l : List UInt8) : Prop where
  len : n = l.length
  cap : n ≤ c
  most : c ≤ 9223372036854775807
  rd : l ≠ [] → ∃ b off, A = some ⟨b, off, none⟩ ∧ b < w.heap.size ∧ ∀ j, j < l.length → w.cell? ⟨b, off + j, none⟩ = some (.int .u8 (gt l j))

/-- .. and the call may append to it: it lies in a row of its own, from block base on. -/
def Own (w : World) (base : Nat) (T : TypeId) (A : Option Addr) (n c : Nat) (l : List UInt8) : Prop := n = l.length ∧ w.ownsRow base T 1 (.slice A n c) n (l.map bv)

section
variable {w w' : World} {A : Option Addr} {n c : Nat} {l : List UInt8} {base : Nat} {T : TypeId}

theorem Bs.nil (w : World) (c : Nat) (A : Option Addr) (h : c ≤ 9223372036854775807) : Bs w A 0 c [] := ⟨rfl, Nat.zero_le _, h, fun h => absurd rfl h⟩
theorem Bs.keep (h : Bs w A n c l) (hs : w.heap.size ≤ w'.heap.size) (hk : ∀ p : Addr, p.block < w.heap.size → w'.cell? p = w.cell? p) : Bs w' A n c l :=
  ⟨h.len, h.cap, h.most, fun hl => by
    obtain ⟨b, off, rfl, hb, hc⟩ := h.rd hl
    exact ⟨b, off, rfl, by omega, fun j hj => (hk _ hb).trans (hc j hj)⟩⟩
theorem Bs.step (h : Bs w A n c l) (hb : Below w.heap.size w w') : Bs w' A n c l := h.keep hb.size fun _ hp => hb.cell hp
theorem Bs.alloc (h : Bs w A n c l) (o : Obj) : Bs (w.alloc o) A n c l := h.step ((Below.refl _ _).alloc (Nat.le_refl _) o)
theorem Bs.at_ (h : Bs w A n c l) (hl : 0 < l.length) : ∃ b off, A = some ⟨b, off, none⟩ ∧ b < w.heap.size ∧ ∀ j, j < l.length → w.cell? ⟨b, off + j, none⟩ = some (.int .u8 (gt l j)) :=
  h.rd (by intro e; subst e; simp at hl)
/-- a piece of it -/
theorem Bs.cut {b off i m c' : Nat} (h : Bs w (some ⟨b, off, none⟩) n c l) (hi : i + m ≤ l.length) (h1 : m ≤ c') (h2 : c' ≤ 9223372036854775807) : Bs w (some ⟨b, off + i, none⟩) m c' ((l.drop i).take m) := by
  have hlen : ((l.drop i).take m).length = m := by simp; omega
  refine ⟨by omega, by omega, h2, fun hne => ?_⟩
  have hn : 0 < m := by
    rcases Nat.eq_zero_or_pos m with h0 | h0
    · subst h0; simp at hne
    · exact h0
  obtain ⟨b', off', e, hb, hc⟩ := h.at_ (by omega)
  injection e with e; injection e with e1 e2; subst e1; subst e2
  refine ⟨b, off + i, rfl, hb, fun j hj => ?_⟩
  rw [hlen] at hj
  rw [Nat.add_assoc, hc _ (by omega), gt_take hj, gt_drop]

/-- from place i on -/
theorem Bs.tail {b off i : Nat} (h : Bs w (some ⟨b, off, none⟩) n c l) (hi : i ≤ n) : Bs w (some ⟨b, off + i, none⟩) (n - i) (c - i) (l.drop i) := by
  have h1 := h.len
  have h2 := h.cap
  have h3 := h.most
  have := h.cut (i := i) (m := n - i) (c' := c - i) (by omega) (by omega) (by omega)
  rwa [List.take_of_length_le (by simp; omega)] at this
theorem Own.len (h : Own w base T A n c l) : n = l.length := h.1
theorem Own.bs (h : Own w base T A n c l) : Bs w A n c l := by
  obtain ⟨rfl, h⟩ := h
  rcases h.2 with ⟨e, h0⟩ | ⟨g, cap, cur, e, hb, hg, hn, hm, hs, ht⟩
  · have : l = [] := List.eq_nil_of_length_eq_zero h0
    subst this
    injection e with e1 e2 e3
    subst e3
    exact Bs.nil _ _ _ (by omega)
  · injection e with e1 e2 e3
    subst e1; subst e3
    refine ⟨rfl, hn, by simpa [maxLen] using hm, fun hl => ⟨g, 0, rfl, (Array.getElem?_eq_some_iff.1 hg).1, fun j hj => ?_⟩⟩
    have := World.ownsRow.cells h (g := g) rfl j _ (bv_getElem? hj)
    rwa [add_lit0] at this
theorem Own.mono {base' : Nat} (h : Own w base T A n c l) (hb : base' ≤ base) : Own w base' T A n c l := by
  refine ⟨h.1, h.2.1, h.2.2.imp id ?_⟩
  rintro ⟨g, cap, cur, e, hg, r⟩
  exact ⟨g, cap, cur, e, by omega, r⟩
theorem grown_of_below (hb : Below w.heap.size w w') (row : Option Nat) : w.grownBy w' row := ⟨hb.os, hb.tape, hb.output, hb.size, fun k hk _ => hb.block k hk⟩
theorem Own.step (h : Own w base T A n c l) (hb : Below w.heap.size w w') : Own w' base T A n c l :=
  ⟨h.1, World.ownsRow.kept h.2 (grown_of_below hb none) (by cases hv : Value.ownBlock (.slice A n c) <;> simp)⟩
theorem Own.alloc (h : Own w base T A n c l) (o : Obj) : Own (w.alloc o) base T A n c l := h.step ((Below.refl _ _).alloc (Nat.le_refl _) o)
theorem Own.nil (w : World) (base : Nat) (T : TypeId) : Own w base T none 0 0 [] := ⟨rfl, World.ownsRow_nil w base T 1⟩
/-- a row that the call has just made whole -/
theorem Own.made (w : World) (T : TypeId) (l : List UInt8) (cs : Array Value) (hcs : cs.toList = l.map bv) (hl : l.length ≤ 9223372036854775807) (hb : base ≤ w.heap.size) :
    Own (w.alloc (.cells cs T)) base T (some ⟨w.heap.size, 0, none⟩) l.length l.length l := by
  have hs : cs.size = l.length := by rw [← Array.length_toList, hcs, List.length_map]
  have := World.ownsRow_lit (e := T) (size := 1) w cs l.length hb (by simpa [maxLen] using hl) (by omega)
  rw [hcs] at this
  exact ⟨rfl, this⟩
/-- where it lies -/
theorem Own.at_ (h : Own w base T A n c l) (hn : 0 < n) : ∃ g, A = some ⟨g, 0, none⟩ ∧ base ≤ g ∧ g < w.heap.size := by
  obtain ⟨g, cap, hv, h1, h2⟩ := World.ownsRow.form h.2 hn
  injection hv with e1
  exact ⟨g, e1, h1, h2⟩
theorem Own.cell {g j : Nat} (h : Own w base T (some ⟨g, 0, none⟩) n c l) (hj : j < n) : w.cell? ⟨g, j, none⟩ = some (.int .u8 (gt l j)) := by
  rw [World.ownsRow.cellAt h.2 j (by omega)]
  exact bv_getElem? (by rw [← h.1]; exact hj)
theorem Own.free {g j : Nat} (h : Own w base T (some ⟨g, 0, none⟩) n c l) : w.frozen? ⟨g, j, none⟩ = false := World.ownsRow.frozenAt h.2 j
theorem Own.block (h : Own w base T A n c l) : ∀ k, (Value.slice A n c).ownBlock = some k → base ≤ k ∧ k < w.heap.size := World.ownsRow.lt h.2
/-- another slice stays while an own row grows, if it lies elsewhere -/
theorem Bs.grown {A2 : Option Addr} {n2 c2 : Nat} {l2 : List UInt8} {row : Option Nat} (h : Bs w A2 n2 c2 l2) (hg : w.grownBy w' row) (hne : ∀ b off, A2 = some ⟨b, off, none⟩ → some b ≠ row) : Bs w' A2 n2 c2 l2 :=
  ⟨h.len, h.cap, h.most, fun hl => by
    obtain ⟨b, off, rfl, hb, hc⟩ := h.rd hl
    exact ⟨b, off, rfl, Nat.lt_of_lt_of_le hb hg.size, fun j hj => hg.cell (hc j hj) (hne b off rfl)⟩⟩
/-- what lies below block B stays while all below B stays -/
theorem Bs.below {B : Nat} {w0 : World} (h : Bs w0 A n c l) (hB : w0.heap.size ≤ B) (hb0 : Below B w0 w) : Bs w A n c l :=
  h.keep hb0.size fun _ hp => hb0.cell (by omega)
end

section
variable {P : Program}
end

/-! ### bytes into a string -/
def sb (l : List UInt8) : ByteArray := ⟨l.toArray⟩
abbrev str (l : List UInt8) : Value := .string (sb l)
section
variable {P : Program}
/-! ### arrays and structs in memory -/
/-! ### append -/
end

/-! ### make, copy -/
section
variable {P : Program}
end

section
variable {P : Program}
end

/-! ### bits of int -/
end Go.Bas

namespace Go.Bas
open Go Go.RowKit Go.Mix

def flatFields (P : Program) (g : TypeId → Option (List IntKind)) : Nat → List Field → Option (List IntKind)
  | _, [] => some []
  | off, f :: fs => match g f.type with
    | some ks => if f.name ≠ "_" ∧ f.offset = off ∧ P.cellsOf f.type = ks.length then (flatFields P g (off + ks.length) fs).map (ks ++ ·) else none
    | none => none
def flat (P : Program) : Nat → TypeId → Option (List IntKind)
  | 0, _ => none
  | d + 1, t => match P.underlying t with
    | some (.int k) => some [k]
    | some (.struct fs) => if P.stoodInHeld t then none else flatFields P (flat P d) 0 fs.toList
    | some (.array n e) => match flat P d e with
      | some ks => if P.cellsOf e = ks.length then some (List.replicate n ks).flatten else none
      | none => none
    | _ => none
section
variable {P : Program}
end
end Go.Bas

namespace Go.Bas
open Go Go.RowKit Go.Mix

section
variable {P : Program}
variable {ops : Array Oper}
end
end Go.Bas

namespace Go.Mix
open Go Go.RowKit
theorem SB.set {B : Nat} {w0 w : World} (h : SB B w0 w) {p : Addr} (hp : B ≤ p.block) (v : Value) : SB B w0 (w.setCell p v) := h.low ((Below.refl B w).setCell hp v)
end Go.Mix
namespace Go.Bas
open Go Go.RowKit Go.Mix

/-- the block g is a row of its own, whole: the cells cs, none frozen -/
def Blk (w : World) (g : Nat) (T : TypeId) (cs : List Value) : Prop := w.heap[g]? = some (.cells cs.toArray T (0, 0))

section
variable {w w' : World} {g : Nat} {T : TypeId} {cs : List Value}
theorem Blk.lt (h : Blk w g T cs) : g < w.heap.size := (Array.getElem?_eq_some_iff.1 h).1
theorem Blk.cell (h : Blk w g T cs) {j : Nat} {v : Value} (hj : cs[j]? = some v) : w.cell? ⟨g, j, none⟩ = some v := by
  rw [cell_of_row w g j _ T _ h]; simpa using hj
theorem Blk.free (h : Blk w g T cs) (j : Nat) : w.frozen? ⟨g, j, none⟩ = false := frozen_of_row w g j _ T h
theorem Blk.new (w : World) (T : TypeId) (cs : List Value) : Blk (w.alloc (.cells cs.toArray T)) w.heap.size T cs := heap_alloc_new w _
theorem Blk.alloc (h : Blk w g T cs) (o : Obj) : Blk (w.alloc o) g T cs := by unfold Blk; rw [heap_alloc_old w o h.lt]; exact h
theorem Blk.step (h : Blk w g T cs) (hb : Below w.heap.size w w') : Blk w' g T cs := by unfold Blk; rw [hb.block g h.lt]; exact h
theorem Blk.below {B : Nat} (h : Blk w g T cs) (hg : g < B) (hb : Below B w w') : Blk w' g T cs := by unfold Blk; rw [hb.block g hg]; exact h
theorem Blk.set (h : Blk w g T cs) (j : Nat) (v : Value) : Blk (w.setCell ⟨g, j, none⟩ v) g T (cs.set j v) := by
  unfold Blk
  rw [heap_setCell_same w g j _ T v h]
  simp
theorem Blk.other (h : Blk w g T cs) {p : Addr} (hp : g ≠ p.block) (v : Value) : Blk (w.setCell p v) g T cs := by
  unfold Blk
  rw [heap_setCell_other w p g v hp]
  exact h
theorem Blk.others {g' : Nat} (hg : g ≠ g') : ∀ (vs : List Value) (o : Nat) {w : World}, Blk w g T cs → Blk (w.setCells g' o vs) g T cs
  | [], _, _, h => h
  | v :: r, o, w, h => by rw [World.setCells]; exact Blk.others hg r (o + 1) (h.other (p := ⟨g', o, none⟩) hg v)
theorem Blk.there (h : Blk w g T cs) {o n : Nat} (hn : o + n ≤ cs.length) : w.there g o n := fun j hj => by
  refine ⟨?_, h.free (o + j)⟩
  rw [h.cell (List.getElem?_eq_getElem (by omega))]; rfl

variable {P : Program} {ops : Array Oper}
end
section
variable {w w' : World} {g base : Nat} {T T' : TypeId} {cs : List Value} {A : Option Addr} {n c : Nat} {l : List UInt8}
theorem Blk.grown {row : Option Nat} (h : Blk w g T cs) (hg : w.grownBy w' row) (hne : some g ≠ row) : Blk w' g T cs := by
  unfold Blk; rw [hg.block g h.lt hne]; exact h
/-- bytes in a block -/
theorem Blk.bs {off m cp : Nat} (h : Blk w g T cs) (hl : (cs.drop off).take m = l.map bv) (hm : l.length = m) (h1 : m ≤ cp) (h2 : cp ≤ 9223372036854775807) : Bs w (some ⟨g, off, none⟩) m cp l := by
  refine ⟨hm.symm, h1, h2, fun _ => ⟨g, off, rfl, h.lt, fun j hj => h.cell ?_⟩⟩
  have := bv_getElem? hj
  rw [← hl, List.getElem?_take, if_pos (by omega), List.getElem?_drop] at this
  exact this
end
section
variable {P : Program} {fn : Func} {w : World} {g : Nat} {T ty : TypeId} {cs : List Value} {p q r : Tmp} {d : TypeDesc} {tmps : Array Value} {v u : Value}
end
section
variable {P : Program} {ops : Array Oper} {w : World} {g : Nat} {T : TypeId} {cs : List Value}
end
end Go.Bas

namespace Go.Bas
open Go Go.RowKit Go.Mix
end Go.Bas

namespace Go.Bas
open Go Go.RowKit Go.ChangeShapes Go.WideShapes Go.ChangeAt

section
variable {H : Type} {enc : TypeId × Value → H} {P : Program} {W W' : World}

end
end Go.Bas

namespace Go.Am
open Go Go.RowKit Go.Bas
def vCells (k : IntKind) (zs : List Int) : Array Value := (zs.map fun z => Value.int k z).toArray
/-- a table of integers -/
def isTab (k : IntKind) (zs : List Int) (o : Obj) : Prop := ∃ T fz, o = .cells (vCells k zs) T fz
/-- some integer -/
def isInt (k : IntKind) (o : Obj) : Prop := ∃ (m : Int) (c : Array Value) (T : TypeId) (fz : Nat × Nat), o = .cells c T fz ∧ c[0]? = some (.int k m)
def goods : List (Nat × (Obj → Prop)) := [(0, isTab .u64 Lib.pow10Tab), (1, isInt .i64)]
/-- the listed variables are laid -/
def LaidW (w : World) : Prop := ∀ p ∈ goods, ∃ o, w.heap[p.1]? = some o ∧ p.2 o
theorem LaidW.lt {w : World} (h : LaidW w) {p : Nat × (Obj → Prop)} (hp : p ∈ goods) : p.1 < w.heap.size := by
  obtain ⟨o, h1, _⟩ := h p hp
  rcases Nat.lt_or_ge p.1 w.heap.size with h | h
  · exact h
  · rw [Array.getElem?_eq_none h] at h1; cases h1
theorem LaidW.keep {w w' : World} (h : LaidW w) (k : ∀ p ∈ goods, w'.heap[p.1]? = w.heap[p.1]?) : LaidW w' := by
  intro p hp
  obtain ⟨o, h1, h2⟩ := h p hp
  exact ⟨o, by rw [k p hp]; exact h1, h2⟩
theorem LaidW.none {w : World} (h : goods = []) : LaidW w := fun p hp => by rw [h] at hp; cases hp
theorem LaidW.below {w w' : World} (h : LaidW w) (hb : Below w.heap.size w w') : LaidW w' := h.keep fun _ hp => hb.block _ (h.lt hp)
/-- what a call may lean on: the blocks that are somebody's alone are there; the listed variables are laid -/
structure OOk (O : Nat → Prop) (w : World) : Prop where
  lt : ∀ b, O b → b < w.heap.size
  good : LaidW w
theorem OOk.no {w : World} (h : LaidW w) : OOk (fun _ => False) w := ⟨fun _ h => h.elim, h⟩
end Go.Am
