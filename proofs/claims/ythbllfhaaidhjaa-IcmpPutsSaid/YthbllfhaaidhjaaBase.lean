import Derived.Test.YthbllfhaaidhjaaMix
import Derived.WalkKit
import Derived.WalkSpells
import Derived.WalkLawsBesides
import Derived.Maps.AppendAt
import Derived.Deep.AppendLies
import Derived.Laws.CopyOwn
import Derived.Laws.BytesArg
import Derived.Laws.BitsAllLaws
namespace Go.Bas
open Go Go.RowKit Go.Mix

theorem hid {p : Prop} (h : p) : Hid p := h
/-- a walk stands where its arm leaves this -/
def Stop (p : Prop) : Prop := p
theorem stop {p : Prop} (h : Stop p) : p := h
theorem Stop.on {p : Prop} (h : p) : Stop p := h

/-! ### bytes in memory -/
def bv (u : UInt8) : Value := .int .u8 (u.toNat : Int)
def gt (l : List UInt8) (i : Nat) : Int := ((l.getD i 0).toNat : Int)
theorem gt_lo (l : List UInt8) (i : Nat) : 0 ≤ gt l i := by unfold gt; omega
theorem gt_hi (l : List UInt8) (i : Nat) : gt l i < 256 := by unfold gt; have := (l.getD i 0).toNat_lt; omega
theorem gt_of_lt {l : List UInt8} {i : Nat} (h : i < l.length) : gt l i = (l[i].toNat : Int) := by
  unfold gt; rw [List.getD_eq_getElem?_getD, List.getElem?_eq_getElem h]; rfl
theorem gt_drop (l : List UInt8) (k i : Nat) : gt (l.drop k) i = gt l (k + i) := by
  unfold gt; simp [List.getD_eq_getElem?_getD, List.getElem?_drop]
theorem gt_take {l : List UInt8} {k i : Nat} (h : i < k) : gt (l.take k) i = gt l i := by
  unfold gt; simp [List.getD_eq_getElem?_getD, h]
theorem gt_append_left {l r : List UInt8} {i : Nat} (h : i < l.length) : gt (l ++ r) i = gt l i := by
  unfold gt; simp [List.getD_eq_getElem?_getD, List.getElem?_append_left h]
theorem gt_append_right {l r : List UInt8} {i : Nat} (h : l.length ≤ i) : gt (l ++ r) i = gt r (i - l.length) := by
  unfold gt; simp [List.getD_eq_getElem?_getD, List.getElem?_append_right h]
theorem bv_getElem? {l : List UInt8} {j : Nat} (h : j < l.length) : (l.map bv)[j]? = some (.int .u8 (gt l j)) := by
  rw [gt_of_lt h]; simp [h, bv]
theorem bv_one (l : List UInt8) : ∀ u ∈ l.map bv, u.oneCell' = true := by
  intro u hu; obtain ⟨x, _, rfl⟩ := List.mem_map.1 hu; rfl

theorem add_lit0 (b off j : Nat) : (⟨b, off, none⟩ : Addr).add j = ⟨b, off + j, none⟩ := by unfold Addr.add; split <;> simp_all

/-- The slice value '.slice A n c' reads as the bytes l. -/
structure Bs (w : World) (A : Option Addr) (n c : Nat) (l : List UInt8) : Prop where
  len : n = l.length
  cap : n ≤ c
  most : c ≤ 9223372036854775807
  rd : l ≠ [] → ∃ b off, A = some ⟨b, off, none⟩ ∧ b < w.heap.size ∧ ∀ j, j < l.length → w.cell? ⟨b, off + j, none⟩ = some (.int .u8 (gt l j))

/-- .. and the call may append to it: it lies in a row of its own, from block base on. -/
def Own (w : World) (base : Nat) (T : TypeId) (A : Option Addr) (n c : Nat) (l : List UInt8) : Prop := n = l.length ∧ w.ownsRow base T 1 (.slice A n c) n (l.map bv)

section
variable {w w' : World} {A : Option Addr} {n c : Nat} {l : List UInt8} {base : Nat} {T : TypeId}

theorem Bs.nil (w : World) (c : Nat) (A : Option Addr) (h : c ≤ 9223372036854775807) : Bs w A 0 c [] := ⟨rfl, Nat.zero_le _, h, fun h => absurd rfl h⟩
theorem Bs.keep (h : Bs w A n c l) (hs : w.heap.size ≤ w'.heap.size) (hk : ∀ p : Addr, p.block < w.heap.size → w'.cell? p = w.cell? p) : Bs w' A n c l :=
  ⟨h.len, h.cap, h.most, fun hl => by
    obtain ⟨b, off, rfl, hb, hc⟩ := h.rd hl
    exact ⟨b, off, rfl, by omega, fun j hj => (hk _ hb).trans (hc j hj)⟩⟩
theorem Bs.step (h : Bs w A n c l) (hb : Below w.heap.size w w') : Bs w' A n c l := h.keep hb.size fun _ hp => hb.cell hp
theorem Bs.alloc (h : Bs w A n c l) (o : Obj) : Bs (w.alloc o) A n c l := h.step ((Below.refl _ _).alloc (Nat.le_refl _) o)
theorem Bs.drew (h : Bs w A n c l) : Bs w.drew A n c l := ⟨h.len, h.cap, h.most, h.rd⟩
theorem Bs.drewN (h : Bs w A n c l) (k : Nat) : Bs (w.drewN k) A n c l := ⟨h.len, h.cap, h.most, h.rd⟩
theorem Bs.inS {B : Nat} {w0 : World} (h : Bs w0 A n c l) (hB : w0.heap.size ≤ B) (u : SBW B w0) : Bs u.w A n c l :=
  h.keep u.sb.1.size fun _ hp => u.sb.1.cell (by omega)
theorem Bs.at_ (h : Bs w A n c l) (hl : 0 < l.length) : ∃ b off, A = some ⟨b, off, none⟩ ∧ b < w.heap.size ∧ ∀ j, j < l.length → w.cell? ⟨b, off + j, none⟩ = some (.int .u8 (gt l j)) :=
  h.rd (by intro e; subst e; simp at hl)
/-- a piece of it -/
theorem Bs.cut {b off i m c' : Nat} (h : Bs w (some ⟨b, off, none⟩) n c l) (hi : i + m ≤ l.length) (h1 : m ≤ c') (h2 : c' ≤ 9223372036854775807) : Bs w (some ⟨b, off + i, none⟩) m c' ((l.drop i).take m) := by
  have hlen : ((l.drop i).take m).length = m := by simp; omega
  refine ⟨by omega, by omega, h2, fun hne => ?_⟩
  have hn : 0 < m := by
    rcases Nat.eq_zero_or_pos m with h0 | h0
    · subst h0; simp at hne
    · exact h0
  obtain ⟨b', off', e, hb, hc⟩ := h.at_ (by omega)
  injection e with e; injection e with e1 e2; subst e1; subst e2
  refine ⟨b, off + i, rfl, hb, fun j hj => ?_⟩
  rw [hlen] at hj
  rw [Nat.add_assoc, hc _ (by omega), gt_take hj, gt_drop]

/-- from place i on -/
theorem Bs.tail {b off i : Nat} (h : Bs w (some ⟨b, off, none⟩) n c l) (hi : i ≤ n) : Bs w (some ⟨b, off + i, none⟩) (n - i) (c - i) (l.drop i) := by
  have h1 := h.len
  have h2 := h.cap
  have h3 := h.most
  have := h.cut (i := i) (m := n - i) (c' := c - i) (by omega) (by omega) (by omega)
  rwa [List.take_of_length_le (by simp; omega)] at this
theorem Bs.tail_none {A' : Option Addr} {i c' : Nat} (h : Bs w A n c l) (hi : c = i) (hc' : c' ≤ 9223372036854775807) : Bs w A' (n - i) c' (l.drop i) := by
  have h1 := h.len
  have h2 := h.cap
  rw [List.drop_eq_nil_of_le (by omega), show n - i = 0 by omega]
  exact Bs.nil _ _ _ hc'
/-- its first m -/
theorem Bs.head {m : Nat} (h : Bs w A n c l) (hm : m ≤ n) : Bs w A m c (l.take m) := by
  have h1 := h.len
  refine ⟨by simp; omega, by have := h.cap; omega, h.most, fun hne => ?_⟩
  have hl : l ≠ [] := by rintro rfl; simp at hne
  obtain ⟨b, off, rfl, hb, hc⟩ := h.rd hl
  refine ⟨b, off, rfl, hb, fun j hj => ?_⟩
  have hj' : j < m := by simp at hj; omega
  rw [hc j (by simp at hj; omega), gt_take hj']
theorem Own.len (h : Own w base T A n c l) : n = l.length := h.1
theorem Own.bs (h : Own w base T A n c l) : Bs w A n c l := by
  obtain ⟨rfl, h⟩ := h
  rcases h.2 with ⟨e, h0⟩ | ⟨g, cap, cur, e, hb, hg, hn, hm, hs, ht⟩
  · have : l = [] := List.eq_nil_of_length_eq_zero h0
    subst this
    injection e with e1 e2 e3
    subst e3
    exact Bs.nil _ _ _ (by omega)
  · injection e with e1 e2 e3
    subst e1; subst e3
    refine ⟨rfl, hn, by simpa [maxLen] using hm, fun hl => ⟨g, 0, rfl, (Array.getElem?_eq_some_iff.1 hg).1, fun j hj => ?_⟩⟩
    have := World.ownsRow.cells h (g := g) rfl j _ (bv_getElem? hj)
    rwa [add_lit0] at this
theorem Own.mono {base' : Nat} (h : Own w base T A n c l) (hb : base' ≤ base) : Own w base' T A n c l := by
  refine ⟨h.1, h.2.1, h.2.2.imp id ?_⟩
  rintro ⟨g, cap, cur, e, hg, r⟩
  exact ⟨g, cap, cur, e, by omega, r⟩
theorem grown_of_below (hb : Below w.heap.size w w') (row : Option Nat) : w.grownBy w' row := ⟨hb.os, hb.tape, hb.output, hb.size, fun k hk _ => hb.block k hk⟩
theorem Own.step (h : Own w base T A n c l) (hb : Below w.heap.size w w') : Own w' base T A n c l :=
  ⟨h.1, World.ownsRow.kept h.2 (grown_of_below hb none) (by cases hv : Value.ownBlock (.slice A n c) <;> simp)⟩
theorem Own.inS {B : Nat} {w0 : World} (h : Own w0 base T A n c l) (hB : w0.heap.size ≤ B) (u : SBW B w0) : Own u.w base T A n c l := h.step (u.sb.1.mono hB)
theorem Own.alloc (h : Own w base T A n c l) (o : Obj) : Own (w.alloc o) base T A n c l := h.step ((Below.refl _ _).alloc (Nat.le_refl _) o)
theorem Own.drew (h : Own w base T A n c l) : Own w.drew base T A n c l := h
theorem Own.drewN (h : Own w base T A n c l) (k : Nat) : Own (w.drewN k) base T A n c l := h
theorem Own.nil (w : World) (base : Nat) (T : TypeId) : Own w base T none 0 0 [] := ⟨rfl, World.ownsRow_nil w base T 1⟩
/-- a row that the call has just made whole -/
theorem Own.made (w : World) (T : TypeId) (l : List UInt8) (cs : Array Value) (hcs : cs.toList = l.map bv) (hl : l.length ≤ 9223372036854775807) (hb : base ≤ w.heap.size) :
    Own (w.alloc (.cells cs T)) base T (some ⟨w.heap.size, 0, none⟩) l.length l.length l := by
  have hs : cs.size = l.length := by rw [← Array.length_toList, hcs, List.length_map]
  have := World.ownsRow_lit (e := T) (size := 1) w cs l.length hb (by simpa [maxLen] using hl) (by omega)
  rw [hcs] at this
  exact ⟨rfl, this⟩
theorem Own.made_at {g m : Nat} (w : World) (T : TypeId) (l : List UInt8) (cs : Array Value) (hg : g = w.heap.size) (hn : m = l.length) (hcs : cs.toList = l.map bv) (hl : l.length ≤ 9223372036854775807) (hb : base ≤ w.heap.size) :
    Own (w.alloc (.cells cs T)) base T (some ⟨g, 0, none⟩) m m l := by
  subst hg; subst hn; exact Own.made w T l cs hcs hl hb
/-- where it lies -/
theorem Own.at_ (h : Own w base T A n c l) (hn : 0 < n) : ∃ g, A = some ⟨g, 0, none⟩ ∧ base ≤ g ∧ g < w.heap.size := by
  obtain ⟨g, cap, hv, h1, h2⟩ := World.ownsRow.form h.2 hn
  injection hv with e1
  exact ⟨g, e1, h1, h2⟩
theorem Own.cell {g j : Nat} (h : Own w base T (some ⟨g, 0, none⟩) n c l) (hj : j < n) : w.cell? ⟨g, j, none⟩ = some (.int .u8 (gt l j)) := by
  rw [World.ownsRow.cellAt h.2 j (by omega)]
  exact bv_getElem? (by rw [← h.1]; exact hj)
theorem Own.free {g j : Nat} (h : Own w base T (some ⟨g, 0, none⟩) n c l) : w.frozen? ⟨g, j, none⟩ = false := World.ownsRow.frozenAt h.2 j
theorem Own.store {g j : Nat} (h : Own w base T (some ⟨g, 0, none⟩) n c l) (u : UInt8) :
    Own (w.setCell ⟨g, j, none⟩ (bv u)) base T (some ⟨g, 0, none⟩) n c (l.set j u) := by
  obtain ⟨h1, h2⟩ := World.ownsRow.stored h.2 j (bv u)
  refine ⟨by rw [List.length_set]; exact h.1, ?_⟩
  rw [← List.map_set] at h1
  exact h1
theorem Own.far {p : Addr} (h : Own w base T A n c l) (hg : p.block < base) (u : Value) : Own (w.setCell p u) base T A n c l := ⟨h.1, ownsRow_setCell_below h.2 hg u⟩
theorem Own.block (h : Own w base T A n c l) : ∀ k, (Value.slice A n c).ownBlock = some k → base ≤ k ∧ k < w.heap.size := World.ownsRow.lt h.2
theorem below_grown {B : Nat} (hg : w.grownBy w' ((Value.slice A n c).ownBlock)) (h : Own w base T A n c l) (hB : B ≤ base) (hs : B ≤ w.heap.size) : Below B w w' :=
  (Below.refl B w).grown hg hs fun k hk => Nat.le_trans hB (h.block k hk).1
/-- another slice stays while an own row grows, if it lies elsewhere -/
theorem Bs.grown {A2 : Option Addr} {n2 c2 : Nat} {l2 : List UInt8} {row : Option Nat} (h : Bs w A2 n2 c2 l2) (hg : w.grownBy w' row) (hne : ∀ b off, A2 = some ⟨b, off, none⟩ → some b ≠ row) : Bs w' A2 n2 c2 l2 :=
  ⟨h.len, h.cap, h.most, fun hl => by
    obtain ⟨b, off, rfl, hb, hc⟩ := h.rd hl
    exact ⟨b, off, rfl, Nat.lt_of_lt_of_le hb hg.size, fun j hj => hg.cell (hc j hj) (hne b off rfl)⟩⟩
/-- what lies below block B stays while all below B stays -/
theorem Bs.below {B : Nat} {w0 : World} (h : Bs w0 A n c l) (hB : w0.heap.size ≤ B) (hb0 : Below B w0 w) : Bs w A n c l :=
  h.keep hb0.size fun _ hp => hb0.cell (by omega)
theorem below_step {B : Nat} {w0 : World} (h : Below B w0 w) (h' : Below w.heap.size w w') (hB : B ≤ w.heap.size) : Below B w0 w' := h.trans (h'.mono hB)
theorem below_next {w0 : World} (h : Below w0.heap.size w0 w) (h' : Below w.heap.size w w') : Below w0.heap.size w0 w' := h.trans (h'.mono h.size)
theorem below_drewN {B : Nat} {w0 : World} (h : Below B w0 w) (k : Nat) : Below B w0 (w.drewN k) := h.trans ⟨rfl, rfl, rfl, Nat.le_refl _, fun _ _ => rfl⟩
end

theorem below_quiet {B : Nat} {w w' : World} (h : ∃ k, w' = w.drewN k) : Below B w w' := by obtain ⟨k, rfl⟩ := h; exact ⟨rfl, rfl, rfl, Nat.le_refl _, fun _ _ => rfl⟩
theorem below_new {B : Nat} {w0 w : World} (h : Below B w0 w) (hB : B ≤ w.heap.size) (o : Obj) : Below B w0 (w.alloc o) := h.alloc hB o
theorem made_bs {g n : Nat} (w : World) (T : TypeId) (l : List UInt8) (cs : Array Value) (hg : g = w.heap.size) (hn : n = l.length) (hcs : cs.toList = l.map bv) (hl : l.length ≤ 9223372036854775807) :
    Bs (w.alloc (.cells cs T)) (some ⟨g, 0, none⟩) n n l := (Own.made_at (base := 0) w T l cs hg hn hcs hl (by omega)).bs

/-- A slice of slices of bytes. -/
structure Bss (w : World) (A : Option Addr) (n c : Nat) (L : List (List UInt8)) : Prop where
  len : n = L.length
  cap : n ≤ c
  most : c ≤ 9223372036854775807
  rd : L ≠ [] → ∃ b off, A = some ⟨b, off, none⟩ ∧ b < w.heap.size ∧ ∀ j (hj : j < L.length), ∃ A' n' c', w.cell? ⟨b, off + j, none⟩ = some (.slice A' n' c') ∧ Bs w A' n' c' L[j]

/-- where a piece begins -/
def sub (A : Option Addr) (c lo : Nat) : Option Addr := if c = lo then A else A.map (·.add lo)
theorem Bs.sub {w : World} {A : Option Addr} {n c i j c' : Nat} {l : List UInt8} (h : Bs w A n c l) (hij : i ≤ j) (hj : j ≤ n) (h1 : j - i ≤ c') (h2 : c' ≤ 9223372036854775807) : Bs w (sub A c i) (j - i) c' ((l.drop i).take (j - i)) := by
  have e1 := h.len
  have e2 := h.cap
  have e3 := h.most
  have hlen : ((l.drop i).take (j - i)).length = j - i := by simp; omega
  refine ⟨hlen.symm, h1, h2, fun hne => ?_⟩
  have hn : 0 < j - i := by
    rcases Nat.eq_zero_or_pos (j - i) with h0 | h0
    · rw [h0] at hne; simp at hne
    · exact h0
  obtain ⟨b, off, rfl, hb, hc⟩ := h.at_ (by omega)
  refine ⟨b, off + i, by unfold Bas.sub; rw [if_neg (by omega)]; simp [add_lit0], hb, fun m hm => ?_⟩
  rw [hlen] at hm
  rw [Nat.add_assoc, hc _ (by omega), gt_take hm, gt_drop]
section
variable {P : Program}
theorem run_slice2 (t e : TypeId) (i0 : TypeInfo) (ht : P.underlying t = some (.slice e)) (hi : P.info? e = some i0) (hs : i0.size = 1) (A : Option Addr) (n c i j : Nat) (kl kh : IntKind) (x y : Int) (hx : x = i) (hy : y = j) (hij : i ≤ j) (hj : j ≤ c) (w : World) :
    (Instr.slice t (.slice A n c) (some (.int kl x)) (some (.int kh y)) none).run P w = .ok (.slice (sub A c i) (j - i) (c - i)) w := by
  subst hx; subst hy
  simp [Instr.slice, run_underlying ht, Instr.sliceBounds, run_sliceBound, sizeOf, typeInfo, hi, hs, sub, (by omega : (i : Int) ≤ j), (by omega : (j : Int) ≤ c)]
theorem run_slice1 (t e : TypeId) (i0 : TypeInfo) (ht : P.underlying t = some (.slice e)) (hi : P.info? e = some i0) (hs : i0.size = 1) (A : Option Addr) (n c i : Nat) (kl : IntKind) (x : Int) (hx : x = i) (hj : i ≤ n) (w : World) :
    (Instr.slice t (.slice A n c) (some (.int kl x)) none none).run P w = .ok (.slice (sub A c i) (n - i) (c - i)) w := by
  subst hx
  simp [Instr.slice, run_underlying ht, Instr.sliceBounds, run_sliceBound, sizeOf, typeInfo, hi, hs, sub, (by omega : (i : Int) ≤ n)]
end

theorem gt_cons_zero (x : UInt8) (l : List UInt8) : gt (x :: l) 0 = (x.toNat : Int) := rfl
theorem gt_cons_succ (x : UInt8) (l : List UInt8) (i : Nat) : gt (x :: l) (i + 1) = gt l i := rfl
theorem gt_append_add (l r : List UInt8) (i : Nat) : gt (l ++ r) (l.length + i) = gt r i := by rw [gt_append_right (by omega)]; congr 1; omega
/-! ### bytes into a string -/
def sb (l : List UInt8) : ByteArray := ⟨l.toArray⟩
abbrev str (l : List UInt8) : Value := .string (sb l)
section
variable {P : Program}
theorem run_string (src e dst : TypeId) (hs : P.underlying src = some (.slice e)) (he : P.underlying e = some (.int .u8)) (hd : P.underlying dst = some .string)
    {w : World} {A : Option Addr} {n c : Nat} {l : List UInt8} (h : Bs w A n c l) : (convert src dst (.slice A n c)).run P w = .ok (str l) w := by
  obtain rfl := h.len
  rcases Nat.eq_zero_or_pos l.length with h0 | h0
  · have : l = [] := List.eq_nil_of_length_eq_zero h0
    subst this
    rw [run_convert_bytes_string w src dst e _ _ c hs he hd]
    cases A <;> simp [Conv.bytesToString, sb, ByteArray.empty, ByteArray.emptyWithCapacity, loadCells, loadCellsFrom] <;> rfl
  · obtain ⟨b, off, rfl, hb, hc⟩ := h.at_ h0
    have := run_convert_bytes_arg (P := P) w src e hs he b off l.length c (l.map fun u => (u.toNat : Int)) (by simp) (fun i hi => by
      rw [hc i hi, gt_of_lt hi]; simp [hi]) dst hd
    rw [this]
    simp [sb, strOfNums, List.map_map, Function.comp_def]

/-! ### arrays and structs in memory -/
/-- an array of bytes as a value -/
def av (a : List UInt8) : Value := .agg (a.map bv).toArray
theorem run_load_agg {t : TypeId} {d : TypeDesc} (hu : P.underlying t = some d) (hd : (match d with | .struct _ | .array _ _ => true | _ => false) = true) {m : Nat} (hi : (P.info? t).map (·.size) = some m)
    {w : World} {b off : Nat} (cs : List Value) (hl : cs.length = m) (hc : ∀ j v, cs[j]? = some v → w.cell? ⟨b, off + j, none⟩ = some v) :
    (Instr.loadAt t (.pointer (some ⟨b, off, none⟩))).run P w = .ok (.agg cs.toArray) w := by
  have hl' : (loadCells ⟨b, off, none⟩ cs.length).run P w = .ok cs.toArray w :=
    run_loadCells_list (P := P) w ⟨b, off, none⟩ cs (fun j v hv => by rw [add_lit0]; exact hc j v hv)
  cases hq : P.info? t with
  | none => simp [hq] at hi
  | some i =>
    have hs : i.size = cs.length := by rw [hl]; simpa [hq] using hi
    have hagg : (isAgg t).run P w = .ok true w := by
      unfold isAgg
      rw [Sem.run_bind, run_underlying hu w]
      cases d <;> simp_all
    simp [Instr.loadAt, Instr.sureAddr, loadVar, Sem.run_bind, hagg, sizeOf, typeInfo, hq, hs, hl']
theorem cell_new (w : World) (cs : Array Value) (T : TypeId) (j : Nat) : (w.alloc (.cells cs T)).cell? ⟨w.heap.size, j, none⟩ = cs[j]? := cell_of_row _ _ j cs T (0, 0) (heap_alloc_new w _)
theorem cell_old (w : World) (o : Obj) {b j : Nat} (h : b < w.heap.size) : (w.alloc o).cell? ⟨b, j, none⟩ = w.cell? ⟨b, j, none⟩ :=
  World.cell?_alloc_lt w o ⟨b, j, none⟩ h
/-- the bytes of an array in a block, as a slice -/
theorem bs_of_cells {w : World} {b off : Nat} {a : List UInt8} (hb : b < w.heap.size) (hc : ∀ j, j < a.length → w.cell? ⟨b, off + j, none⟩ = some (.int .u8 (gt a j))) (hl : a.length ≤ 9223372036854775807) :
    Bs w (some ⟨b, off, none⟩) a.length a.length a := ⟨rfl, Nat.le_refl _, hl, fun _ => ⟨b, off, rfl, hb, hc⟩⟩

/-! ### append -/
theorem run_append_b (w : World) (t ty e : TypeId) (i : TypeInfo) (ht : P.underlying t = some (.slice e)) (hi : P.info? e = some i) (hz : i.zero = some (.int .u8 0)) (hsize : i.size = 1) (hby : i.bytes = 1)
    {base : Nat} {A A2 : Option Addr} {n c m c2 : Nat} {l l2 : List UInt8} (ho : Own w base e A n c l) (h2 : Bs w A2 m c2 l2) (hsz : n + m ≤ 140737488355328) (hb : base ≤ w.heap.size) :
    ∃ A' n' c' w', (Builtin.append_ #[t, t] ty #[.slice A n c, .slice A2 m c2]).run P w = .ok (.slice A' n' c') w' ∧ Own w' base e A' n' c' (l ++ l2) ∧
      w.grownBy w' (Value.slice A n c).ownBlock := by
  obtain ⟨rfl, ho⟩ := ho
  obtain rfl := h2.len
  rcases Nat.eq_zero_or_pos l2.length with h0 | h0
  · have : l2 = [] := List.eq_nil_of_length_eq_zero h0
    subst this
    refine ⟨A, l.length, c, w, ?_, ⟨by simp, by simpa using ho⟩, ⟨rfl, rfl, rfl, Nat.le_refl _, fun _ _ _ => rfl⟩⟩
    rcases ho.2 with ⟨e1, e2⟩ | ⟨g, cap, cur, e1, _, hg, hnc, _⟩
    · have : l = [] := List.eq_nil_of_length_eq_zero e2
      subst this
      injection e1 with e1 _ e3
      subst e1; subst e3
      cases A2 <;> simp [Builtin.append_, run_underlying ht, sizeOf, typeInfo, hi, Builtin.lenOf, Builtin.firstCells, loadCells, loadCellsFrom]
    · injection e1 with e1 _ e3
      subst e1; subst e3
      cases A2 <;> simp [Builtin.append_, run_underlying ht, sizeOf, typeInfo, hi, Builtin.lenOf, Builtin.firstCells, loadCells, loadCellsFrom, hnc, storeCells]
  · obtain ⟨b, off, rfl, hb2, hc⟩ := h2.at_ h0
    obtain ⟨v', w', hrun, h3, h4, _, _⟩ := run_append_own_at (P := P) w base t ty e i (.int .u8 0) 1 1 ht hi hz hsize hby rfl (by omega) _ _ _ ho ⟨b, off, none⟩ l2.length c2 (l2.map bv) (by simp)
      (fun j u hj => by
        have hlt : j < l2.length := by
          rcases Nat.lt_or_ge j l2.length with h | h
          · exact h
          · rw [List.getElem?_eq_none (by simpa using h)] at hj; cases hj
        rw [bv_getElem? hlt] at hj; cases hj
        rw [add_lit0]; exact hc j hlt) (bv_one l2) (by unfold maxLen; omega) (by omega) hb
    have hlen : (l ++ l2).length = l.length + l2.length := List.length_append
    have h3' := h3
    obtain ⟨_, hform⟩ := h3
    rcases hform with ⟨e1, e2⟩ | ⟨g, cap, cur, e1, r⟩
    · omega
    · subst e1
      refine ⟨_, _, _, _, hrun, ⟨hlen.symm, ?_⟩, h4⟩
      rw [List.map_append]
      exact h3'

theorem exec_append {o : Oper} {a : Act} {w : World} (s x : Operand) (t : TypeId) (ho : o.op = .call { callee := .builtin .append, args := #[s, x], argTypes := #[t, t] }) {v1 v2 v : Value} {w' : World}
    (h1 : a.eval s = v1) (h2 : a.eval x = v2) (hr : (Builtin.append_ #[t, t] o.type #[v1, v2]).run P w = .ok v w') : (execOp a.eval o).run P w = .ok (.value v) w' := by
  unfold execOp
  simp only [ho, resolve, invoke, builtin, Sem.run_bind, Sem.run_pure, Result.andThen_ok, List.map_toArray, List.map_cons, List.map_nil, h1, h2, hr]

theorem wp_run {o : Oper} {a : Act} {w : World} {K : Act → World → Prop} {Q : Exit → Act → World → Prop} {v : Value} {w' : World} (hr : (execOp a.eval o).run P w = .ok (.value v) w') (h : K (a.put o.dst v) w') : o.wp P a w K Q := by
  unfold Oper.wp; rw [hr]; exact h
theorem wpList_run {o : Oper} {a : Act} {w : World} {ops : Array Oper} {rest : List Oper} {Q : Exit → Act → World → Prop} {v : Value} {w' : World} (hg : o.guard = none) (hr : (execOp a.eval o).run P w = .ok (.value v) w')
    (h : wpList P ops Q rest (a.put o.dst v) w') : wpList P ops Q (o :: rest) a w :=
  wpList_plain hg fun _ hK => wp_run hr (hK _ _ h)

/-- 'append(s, x...)' onto a row of the call's own -/
theorem wpList_app {o : Oper} {a : Act} {w : World} {ops : Array Oper} {rest : List Oper} {Q : Exit → Act → World → Prop} (hg : o.guard = none) (s x : Operand) (t : TypeId)
    (ho : o.op = .call { callee := .builtin .append, args := #[s, x], argTypes := #[t, t] }) (e : TypeId) (i : TypeInfo) (ht : P.underlying t = some (.slice e)) (hi : P.info? e = some i) (hz : i.zero = some (.int .u8 0)) (hsize : i.size = 1) (hby : i.bytes = 1)
    (base : Nat) {A A2 : Option Addr} {c c2 n m : Nat} (l l2 : List UInt8) (h1 : a.eval s = .slice A n c) (h2 : a.eval x = .slice A2 m c2) (hown : Own w base e A n c l) (hbs : Bs w A2 m c2 l2)
    (hsz : n + m ≤ 140737488355328) (hb : base ≤ w.heap.size)
    (h : ∀ A' n' c' w', Own w' base e A' n' c' (l ++ l2) → w.grownBy w' (Value.slice A n c).ownBlock → wpList P ops Q rest (a.put o.dst (.slice A' n' c')) w') : wpList P ops Q (o :: rest) a w := by
  obtain ⟨A', n', c', w', hrun, h3, h4⟩ := run_append_b (P := P) w t o.type e i ht hi hz hsize hby hown hbs hsz hb
  exact wpList_run hg (exec_append s x t ho h1 h2 hrun) (h A' n' c' w' h3 h4)
theorem wp_app {o : Oper} {a : Act} {w : World} {K : Act → World → Prop} {Q : Exit → Act → World → Prop} (s x : Operand) (t : TypeId)
    (ho : o.op = .call { callee := .builtin .append, args := #[s, x], argTypes := #[t, t] }) (e : TypeId) (i : TypeInfo) (ht : P.underlying t = some (.slice e)) (hi : P.info? e = some i) (hz : i.zero = some (.int .u8 0)) (hsize : i.size = 1) (hby : i.bytes = 1)
    (base : Nat) {A A2 : Option Addr} {c c2 n m : Nat} (l l2 : List UInt8) (h1 : a.eval s = .slice A n c) (h2 : a.eval x = .slice A2 m c2) (hown : Own w base e A n c l) (hbs : Bs w A2 m c2 l2)
    (hsz : n + m ≤ 140737488355328) (hb : base ≤ w.heap.size)
    (h : ∀ A' n' c' w', Own w' base e A' n' c' (l ++ l2) → w.grownBy w' (Value.slice A n c).ownBlock → K (a.put o.dst (.slice A' n' c')) w') : o.wp P a w K Q := by
  obtain ⟨A', n', c', w', hrun, h3, h4⟩ := run_append_b (P := P) w t o.type e i ht hi hz hsize hby hown hbs hsz hb
  exact wp_run (exec_append s x t ho h1 h2 hrun) (h A' n' c' w' h3 h4)
end

/-! ### make, copy -/
section
variable {P : Program}
theorem run_make_b (w : World) (t e : TypeId) (i : TypeInfo) (ht : P.underlying t = some (.slice e)) (hi : P.info? e = some i) (hz : i.zero = some (.int .u8 0)) (hsize : i.size = 1) (hby : i.bytes = 1)
    (base n : Nat) (hn : n ≤ 281474976710656) (hb : base ≤ w.heap.size) :
    ∃ w', (Instr.makeSlice t (.int .i64 (n : Int)) (.int .i64 (n : Int))).run P w = .ok (.slice (some ⟨w.heap.size, 0, none⟩) n n) w' ∧
      Own w' base e (some ⟨w.heap.size, 0, none⟩) n n (List.replicate n 0) ∧ Below w.heap.size w w' := by
  obtain ⟨w', hrun, ho, hg⟩ := run_make_full (P := P) w base t e i (.int .u8 0) 1 ht hi hz hsize .i64 .i64 n (by rw [hby]; omega) (by unfold maxLen; omega) hb
  refine ⟨w', hrun, ⟨by simp, ?_⟩, (Below.refl _ _).grown hg (Nat.le_refl _) (fun _ h => by cases h)⟩
  have e1 : (madeCells (Value.int .u8 0).cells (n * 1)).toList = (List.replicate n (0 : UInt8)).map bv := by
    show (madeCells #[Value.int .u8 0] (n * 1)).toList = _
    rw [toList_madeCells_one, Nat.mul_one, List.map_replicate]
    rfl
  rw [e1] at ho
  exact ho
theorem wpList_mk {o : Oper} {a : Act} {w : World} {ops : Array Oper} {rest : List Oper} {Q : Exit → Act → World → Prop} (hg : o.guard = none) (x y : Operand) (t : TypeId)
    (ho : o.op = .makeSlice t x y) (e : TypeId) (i : TypeInfo) (ht : P.underlying t = some (.slice e)) (hi : P.info? e = some i) (hz : i.zero = some (.int .u8 0)) (hsize : i.size = 1) (hby : i.bytes = 1)
    (base n : Nat) (h1 : a.eval x = .int .i64 n) (h2 : a.eval y = .int .i64 n) (hn : n ≤ 281474976710656) (hb : base ≤ w.heap.size)
    (h : ∀ w', Own w' base e (some ⟨w.heap.size, 0, none⟩) n n (List.replicate n 0) → Below w.heap.size w w' → wpList P ops Q rest (a.put o.dst (.slice (some ⟨w.heap.size, 0, none⟩) n n)) w') : wpList P ops Q (o :: rest) a w := by
  obtain ⟨w', hrun, h3, h4⟩ := run_make_b (P := P) w t e i ht hi hz hsize hby base n hn hb
  refine wpList_run hg (w' := w') (v := .slice (some ⟨w.heap.size, 0, none⟩) n n) ?_ (h w' h3 h4)
  unfold execOp
  simp only [ho, h1, h2, Sem.run_bind, Sem.run_pure, hrun, Result.andThen_ok]

theorem splice_take {α : Type} (cur l2 : List α) (off n : Nat) (h : off + l2.length ≤ n) (hn : n ≤ cur.length) :
    (cur.take off ++ (l2 ++ cur.drop (off + l2.length))).take n = (cur.take n).take off ++ (l2 ++ (cur.take n).drop (off + l2.length)) := by
  have h1 : (cur.take off).length = off := by simp; omega
  rw [List.take_append, List.take_append, h1, List.take_take, List.take_take, List.drop_take, Nat.min_eq_right (by omega), Nat.min_eq_left (by omega), List.take_of_length_le (i := n - off) (by omega), Nat.sub_sub]
theorem run_copy_b (w : World) (dT sT ty e : TypeId) (hu : P.underlying dT = some (.slice e)) (hsz : (P.info? e).map (·.size) = some 1)
    {base g off n c m c2 dLen dCap : Nat} {A dp A2 : Option Addr} {l l2 : List UInt8} (ho : Own w base e A n c l) (h2 : Bs w A2 m c2 l2) (hfit : off + m ≤ n) (hm : m ≤ dLen)
    (hpos : 0 < m → A = some ⟨g, 0, none⟩ ∧ dp = some ⟨g, off, none⟩) :
    ∃ w', (Builtin.copy_ #[dT, sT] ty #[.slice dp dLen dCap, .slice A2 m c2]).run P w = .ok (goInt m) w' ∧
      Own w' base e A n c (l.take off ++ (l2 ++ l.drop (off + m))) ∧ w.grownBy w' (Value.slice A n c).ownBlock := by
  obtain rfl := h2.len
  obtain ⟨rfl, ho⟩ := ho
  rcases Nat.eq_zero_or_pos l2.length with h0 | h0
  · have : l2 = [] := List.eq_nil_of_length_eq_zero h0
    subst this
    exact ⟨w, run_copy_none (P := P) w dT sT ty e dp A2 dLen dCap 0 c2 hu hsz (by simp), ⟨by simp, by simpa using ho⟩, ⟨rfl, rfl, rfl, Nat.le_refl _, fun _ _ _ => rfl⟩⟩
  · obtain ⟨rfl, rfl⟩ := hpos h0
    obtain ⟨b2, off2, rfl, hb2, hc⟩ := h2.at_ h0
    rcases ho.2 with ⟨e1, e2⟩ | ⟨g', cap, cur, e1, hbg, hg, hnc, hcm, hcs, htake⟩
    · omega
    · injection e1 with e1 _ e3
      injection e1 with e1; injection e1 with e1
      subst e1; subst e3
      have hrun := run_copy_row (P := P) w dT sT ty e g off dLen dCap ⟨b2, off2, none⟩ l2.length c2 cur e (l2.map bv) hu hsz hg (by rw [List.length_map]; exact (Nat.min_eq_left hm).symm)
        (fun j u hj => by
          have hlt : j < l2.length := by
            rcases Nat.lt_or_ge j l2.length with h | h
            · exact h
            · rw [List.getElem?_eq_none (by simpa using h)] at hj; cases hj
          rw [bv_getElem? hlt] at hj; cases hj
          rw [add_lit0]; exact hc j hlt) (by simp; omega) (bv_one l2)
      simp only [List.length_map] at hrun
      refine ⟨_, hrun, ⟨by simp; omega, by simp; omega, .inr ⟨g, c, _, rfl, hbg, setRow_heap w g cur _ e _ hg, hnc, hcm, ?_, ?_⟩⟩, ⟨rfl, rfl, rfl, by simp [World.setRow], fun k _ hk => setRow_other w g k _ (fun e => hk (by simp [Value.ownBlock, e]))⟩⟩
      · rw [Nat.mul_one] at hcs ⊢; simp only [List.size_toArray, List.length_append, List.length_take, List.length_drop, List.length_map, Array.length_toList]; omega
      · simp only [List.map_append, List.map_take, List.map_drop]
        rw [← htake]
        simp only [Nat.mul_one, List.append_assoc]
        rw [Nat.mul_one] at hcs
        have := splice_take cur.toList (l2.map bv) off l.length (by simpa using hfit) (by simp; omega)
        simpa using this
end

section
variable {P : Program}
theorem exec_copy {o : Oper} {a : Act} {w : World} (s x : Operand) (t t2 : TypeId) (ho : o.op = .call { callee := .builtin .copy, args := #[s, x], argTypes := #[t, t2] }) {v1 v2 v : Value} {w' : World}
    (h1 : a.eval s = v1) (h2 : a.eval x = v2) (hr : (Builtin.copy_ #[t, t2] o.type #[v1, v2]).run P w = .ok v w') : (execOp a.eval o).run P w = .ok (.value v) w' := by
  unfold execOp
  simp only [ho, resolve, invoke, builtin, Sem.run_bind, Sem.run_pure, Result.andThen_ok, List.map_toArray, List.map_cons, List.map_nil, h1, h2, hr]
theorem wpList_cp {o : Oper} {a : Act} {w : World} {ops : Array Oper} {rest : List Oper} {Q : Exit → Act → World → Prop} (hg : o.guard = none) (d s : Operand) (dT sT : TypeId)
    (ho : o.op = .call { callee := .builtin .copy, args := #[d, s], argTypes := #[dT, sT] }) (e : TypeId) (hu : P.underlying dT = some (.slice e)) (hsz : (P.info? e).map (·.size) = some 1)
    (base g off : Nat) {n c m c2 dLen dCap : Nat} {A dp A2 : Option Addr} (l l2 : List UInt8) (hd : a.eval d = .slice dp dLen dCap) (hs : a.eval s = .slice A2 m c2) (hown : Own w base e A n c l) (h2 : Bs w A2 m c2 l2)
    (hfit : off + m ≤ n) (hm : m ≤ dLen) (hpos : 0 < m → A = some ⟨g, 0, none⟩ ∧ dp = some ⟨g, off, none⟩)
    (h : ∀ w', Own w' base e A n c (l.take off ++ (l2 ++ l.drop (off + m))) → w.grownBy w' (Value.slice A n c).ownBlock → wpList P ops Q rest (a.put o.dst (goInt m)) w') : wpList P ops Q (o :: rest) a w := by
  obtain ⟨w', hrun, h3, h4⟩ := run_copy_b (P := P) w dT sT o.type e hu hsz (dCap := dCap) hown h2 hfit hm hpos
  exact wpList_run hg (exec_copy d s dT sT ho hd hs hrun) (h w' h3 h4)
theorem wp_cp {o : Oper} {a : Act} {w : World} {K : Act → World → Prop} {Q : Exit → Act → World → Prop} (d s : Operand) (dT sT : TypeId)
    (ho : o.op = .call { callee := .builtin .copy, args := #[d, s], argTypes := #[dT, sT] }) (e : TypeId) (hu : P.underlying dT = some (.slice e)) (hsz : (P.info? e).map (·.size) = some 1)
    (base g off : Nat) {n c m c2 dLen dCap : Nat} {A dp A2 : Option Addr} (l l2 : List UInt8) (hd : a.eval d = .slice dp dLen dCap) (hs : a.eval s = .slice A2 m c2) (hown : Own w base e A n c l) (h2 : Bs w A2 m c2 l2)
    (hfit : off + m ≤ n) (hm : m ≤ dLen) (hpos : 0 < m → A = some ⟨g, 0, none⟩ ∧ dp = some ⟨g, off, none⟩)
    (h : ∀ w', Own w' base e A n c (l.take off ++ (l2 ++ l.drop (off + m))) → w.grownBy w' (Value.slice A n c).ownBlock → K (a.put o.dst (goInt m)) w') : o.wp P a w K Q := by
  obtain ⟨w', hrun, h3, h4⟩ := run_copy_b (P := P) w dT sT o.type e hu hsz (dCap := dCap) hown h2 hfit hm hpos
  exact wp_run (exec_copy d s dT sT ho hd hs hrun) (h w' h3 h4)
end

/-! ### bits of int -/
theorem and_mask_i64 (n : Int) (k : Nat) (hk : k ≤ 62) : bits .and .i64 n ((2 ^ k - 1 : Nat) : Int) = n % ((2 ^ k : Nat) : Int) := by
  have h1 : (BitVec.ofInt 64 n).toNat = (n % 18446744073709551616).toNat := by rw [BitVec.toNat_ofInt]; rfl
  have hp : 2 ^ k ≤ 2 ^ 62 := Nat.pow_le_pow_right (by omega) hk
  have hp0 : 0 < 2 ^ k := Nat.two_pow_pos k
  have h2 : (BitVec.ofInt 64 ((2 ^ k - 1 : Nat) : Int)).toNat = 2 ^ k - 1 := by
    rw [BitVec.ofInt_natCast, BitVec.toNat_ofNat]; exact Nat.mod_eq_of_lt (by omega)
  show IntKind.i64.wrap ((BitVec.ofInt 64 n &&& BitVec.ofInt 64 ((2 ^ k - 1 : Nat) : Int)).toNat : Int) = _
  rw [BitVec.toNat_and, h1, h2, Nat.and_two_pow_sub_one_eq_mod, IntKind.wrap_i64]
  have h3 : (n % 18446744073709551616).toNat % 2 ^ k = (n % ((2 ^ k : Nat) : Int)).toNat := by
    have hd : ((2 ^ k : Nat) : Int) ∣ 18446744073709551616 := by
      refine ⟨((2 ^ (64 - k) : Nat) : Int), ?_⟩
      rw [← Int.natCast_mul, ← Nat.pow_add, show k + (64 - k) = 64 by omega]; rfl
    have h4 : ((n % 18446744073709551616).toNat : Int) = n % 18446744073709551616 := Int.toNat_of_nonneg (Int.emod_nonneg _ (by omega))
    have h5 : (((n % 18446744073709551616).toNat % 2 ^ k : Nat) : Int) = n % ((2 ^ k : Nat) : Int) := by
      rw [Int.natCast_emod, h4, Int.emod_emod_of_dvd _ hd]
    omega
  have h6 : 0 ≤ n % ((2 ^ k : Nat) : Int) := Int.emod_nonneg _ (by omega)
  have h7 : n % ((2 ^ k : Nat) : Int) < ((2 ^ k : Nat) : Int) := Int.emod_lt_of_pos _ (by omega)
  rw [h3, Int.toNat_of_nonneg h6]
  have h8 : ((2 ^ k : Nat) : Int) ≤ 4611686018427387904 := by omega
  generalize ((2 ^ k : Nat) : Int) = m at *
  generalize n % m = q at *
  omega
theorem and_65535 (n : Int) : bits .and .i64 n 65535 = n % 65536 := and_mask_i64 n 16 (by omega)
theorem or_i64 (x y : Int) (k : Nat) (hk : k ≤ 62) (h1 : 0 ≤ x) (h2 : ((2 ^ k : Nat) : Int) ∣ x) (h5 : x < 9223372036854775808) (h3 : 0 ≤ y) (h4 : y < ((2 ^ k : Nat) : Int)) : bits .or .i64 x y = x + y := by
  obtain ⟨a, rfl⟩ := Int.eq_ofNat_of_zero_le h1
  obtain ⟨b, rfl⟩ := Int.eq_ofNat_of_zero_le h3
  have hp : 2 ^ k ≤ 2 ^ 62 := Nat.pow_le_pow_right (by omega) hk
  have ha : (BitVec.ofInt 64 (a : Int)).toNat = a := by
    rw [BitVec.ofInt_natCast, BitVec.toNat_ofNat]; exact Nat.mod_eq_of_lt (by omega)
  have hb : (BitVec.ofInt 64 (b : Int)).toNat = b := by
    rw [BitVec.ofInt_natCast, BitVec.toNat_ofNat]; exact Nat.mod_eq_of_lt (by omega)
  obtain ⟨q, rfl⟩ : 2 ^ k ∣ a := Int.natCast_dvd_natCast.1 h2
  have hor : 2 ^ k * q ||| b = 2 ^ k * q + b := (Nat.two_pow_add_eq_or_of_lt (by omega) q).symm
  have hlt : 2 ^ k * q + b < 9223372036854775808 := by
    have : 2 ^ k * q ||| b < 2 ^ 63 := Nat.or_lt_two_pow (by omega) (by omega)
    omega
  show IntKind.i64.wrap ((BitVec.ofInt 64 ((2 ^ k * q : Nat) : Int) ||| BitVec.ofInt 64 (b : Int)).toNat : Int) = _
  rw [BitVec.toNat_or, ha, hb, hor, IntKind.wrap_i64]
  omega
theorem or256 (x y : Int) (h1 : 0 ≤ x) (h2 : x < 36028797018963968) (h3 : 0 ≤ y) (h4 : y < 256) : bits .or .i64 (x * 256) y = x * 256 + y :=
  or_i64 _ _ 8 (by omega) (by omega) ⟨x, by omega⟩ (by omega) h3 h4
theorem or256_u32 (x y : Int) (h1 : 0 ≤ x) (h2 : x < 16777216) (h3 : 0 ≤ y) (h4 : y < 256) : bits .or .u32 (x * 256) y = x * 256 + y := by
  obtain ⟨a, rfl⟩ := Int.eq_ofNat_of_zero_le h1
  obtain ⟨b, rfl⟩ := Int.eq_ofNat_of_zero_le h3
  have h := u32_or_nat (2 ^ 8 * a) b (by omega) (by omega)
  rw [(Nat.two_pow_add_eq_or_of_lt (i := 8) (by omega) a).symm] at h
  rw [show (a : Int) * 256 = ((2 ^ 8 * a : Nat) : Int) by omega, h]
  omega
end Go.Bas
