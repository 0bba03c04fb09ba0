/- The abstract machine, third part: parts read and written; what its memory stands for. -/
import Derived.Test.YthbllfhaaidhjaaAmb
namespace Go.Am
open Go Go.RowKit Go.Bas
section
variable {ι : Nat → Option Cn} {O : Nat → Prop} {w : World}
theorem bv_u8 {x : Int} (h : 0 ≤ x ∧ x < 256) : bv (u8 x) = .int .u8 x := by
  unfold bv u8
  rw [UInt8.toNat_ofNat', Nat.mod_eq_of_lt (by omega), Int.toNat_of_nonneg h.1]
theorem set_split {α : Type} {l : List α} {i : Nat} (h : i < l.length) (z : α) : l.set i z = l.take i ++ (z :: l.drop (i + 1)) := List.set_eq_take_append_cons_drop.trans (if_pos h)
theorem isSh_agg {ss : List Sh} {v : V} (h : isSh (.agg ss) v = true) : ∃ l, v = .agg l ∧ isShs ss l = true := by
  cases v <;> simp [isSh] at h
  exact ⟨_, rfl, h⟩
theorem isSh_barr {n : Nat} {v : V} (h : isSh (.barr n) v = true) : ∃ l, v = .barr n l := by
  cases v <;> simp [isSh] at h
  subst h
  exact ⟨_, rfl⟩
theorem isSh_arr {n : Nat} {e : Sh} {v : V} (h : isSh (.arr n e) v = true) : ∃ l, v = .arr e n l := by
  cases v <;> simp [isSh] at h
  obtain ⟨h1, h2⟩ := h
  subst h1
  rw [← Sh.beq_eq h2]
  exact ⟨_, rfl⟩
theorem isSh_int {k : IntKind} {v : V} (h : isSh (.int k) v = true) : ∃ n, v = .int k n := by
  cases v <;> simp [isSh] at h
  subst h
  exact ⟨_, rfl⟩
theorem Sh.beq_refl_arr (n : Nat) (e : Sh) (h : Sh.beq e e = true) : isSh (.arr n e) (.arr e n []) = true := by simp [isSh, h]
mutual
theorem Sh.beq_self : ∀ (s : Sh), Sh.beq s s = true
  | .int k => by simp [Sh.beq]
  | .bool => rfl
  | .str => rfl
  | .bytes => rfl
  | .other k => by simp [Sh.beq]
  | .rows e => by simp [Sh.beq, Sh.beq_self e]
  | .barr n => by simp [Sh.beq]
  | .arr n e => by simp [Sh.beq, Sh.beq_self e]
  | .agg l => by simp [Sh.beq, Sh.beqs_self l]
theorem Sh.beqs_self : ∀ (s : List Sh), Sh.beqs s s = true
  | [] => rfl
  | s :: r => by simp [Sh.beqs, Sh.beq_self s, Sh.beqs_self r]
end
/-- what a path leads to, and what writing there does -/
theorem part_rep {s r : Sh} {p : List Step} {off : Nat} (ha : At s p off r) : ∀ {v x : V} {ds : List Value}, isSh s v = true → CRep ι O w v ds → getP v p = some x →
    ∃ pre cs post, ds = pre ++ (cs ++ post) ∧ pre.length = off ∧ cs.length = r.size ∧ CRep ι O w x cs ∧ isSh r x = true ∧
      (∀ y zs v', isSh r y = true → CRep ι O w y zs → setP v p y = some v' → CRep ι O w v' (pre ++ (zs ++ post)) ∧ isSh s v' = true) := by
  induction ha with
  | here =>
    intro v x ds h hr hg
    have : x = v := by cases v <;> simp [getP] at hg <;> exact hg.symm
    subst this
    refine ⟨[], ds, [], by simp, rfl, CRep.len h hr, hr, h, fun y zs v' hy hz hs => ?_⟩
    have : v' = y := by cases x <;> simp [setP] at hs <;> exact hs.symm
    subst this
    exact ⟨by simpa using hz, hy⟩
  | fld hj _ ih =>
    intro v x ds h hr hg
    obtain ⟨l, rfl, hl⟩ := isSh_agg h
    obtain ⟨y, hy, hys⟩ := isShs_nth hl hj
    simp only [getP, hy] at hg
    cases hr with
    | agg hr =>
      obtain ⟨pre, cs, post, rfl, h1, h2, h3, h4⟩ := CReps.part hl hr hj hy
      obtain ⟨pre', cs', post', rfl, k1, k2, k3, k4, k5⟩ := ih hys h3 hg
      refine ⟨pre ++ pre', cs', post' ++ post, by simp, by simp [h1, k1], k2, k3, k4, fun z zs v' hz hzr hs => ?_⟩
      simp only [setP, hy] at hs
      cases hq : setP y _ z with
      | none => rw [hq] at hs; cases hs
      | some q =>
        rw [hq] at hs; injection hs with hs; subst hs
        obtain ⟨m1, m2⟩ := k5 z zs q hz hzr hq
        have := h4 q _ m1
        refine ⟨.agg (by simpa using this), ?_⟩
        simp only [isSh]
        exact isShs_set hl hj m2
  | byte hi =>
    rename_i n i
    intro v x ds h hr hg
    obtain ⟨l, rfl⟩ := isSh_barr h
    simp only [getP] at hg
    injection hg with hg; subst hg
    cases hr with
    | barr hn =>
      have hil : i < l.length := by omega
      refine ⟨(l.take i).map bv, [bv l[i]], (l.drop (i + 1)).map bv, ?_, by simp; omega, rfl, ?_, by simp [isSh], fun y zs v' hy hz hs => ?_⟩
      · rw [← List.map_singleton, ← List.map_append, ← List.map_append]
        congr 1
        simp
      · rw [gt_of_lt hil]
        exact .int fun _ => by have := l[i].toNat_lt; omega
      · obtain ⟨z, rfl⟩ := isSh_int hy
        simp only [setP] at hs
        injection hs with hs; subst hs
        cases hz with
        | int hz =>
          refine ⟨?_, by simp [isSh]⟩
          have e : (l.take i).map bv ++ ([Value.int .u8 z] ++ (l.drop (i + 1)).map bv) = (l.set i (u8 z)).map bv := by
            rw [set_split hil, List.map_append, List.map_cons, bv_u8 (hz rfl)]
            rfl
          rw [e]
          exact .barr (by simpa using hn)
  | elem hi _ ih =>
    rename_i n i e p o r _
    intro v x ds h hr hg
    obtain ⟨l, rfl⟩ := isSh_arr h
    cases hr with
    | arr hn he hr =>
      have hil : i < l.length := by omega
      have hmem : l[i] ∈ l := List.getElem_mem hil
      have hgd : l.getD i .undef = l[i] := by rw [List.getD_eq_getElem?_getD, List.getElem?_eq_getElem hil]; rfl
      have hR := he _ hmem
      have hee : eta e (l.getD i .undef) = l[i] := by rw [hgd]; exact isR_eta hR
      obtain ⟨pre, cs, post, rfl, h1, h2, h3, h4⟩ := CReps.elem hr he hil
      simp only [getP, hee] at hg
      obtain ⟨pre', cs', post', rfl, k1, k2, k3, k4, k5⟩ := ih (isR_isSh hR) h3 hg
      refine ⟨pre ++ pre', cs', post' ++ post, by simp, by simp [h1, k1], k2, k3, k4, fun z zs v' hz hzr hs => ?_⟩
      simp only [setP, hee] at hs
      cases hq : setP l[i] p z with
      | none => rw [hq] at hs; cases hs
      | some q =>
        rw [hq] at hs
        cases hR' : isR e q with
        | false => simp [hR'] at hs
        | true =>
          simp only [hR', cond_true] at hs
          injection hs with hs; subst hs
          obtain ⟨m1, m2⟩ := k5 z zs q hz hzr hq
          have := h4 q _ m1
          refine ⟨.arr (by simpa using hn) ?_ (by simpa using this), ?_⟩
          · intro y hy
            rcases List.mem_or_eq_of_mem_set hy with hy | hy
            · exact he y hy
            · subst hy; exact hR'
          · simp [isSh, Sh.beq_self]

/-! ### rows -/
def asArr (n : Nat) : V → V
  | .bytes l => .barr n l
  | .rows e l => .arr e n l
  | v => v
/-- a row's content, and its cells -/
inductive RowC (ι : Nat → Option Cn) (O : Nat → Prop) (w : World) : Nat → Sh → V → List Value → Prop
  | bytes {l} : RowC ι O w l.length (.int .u8) (.bytes l) (l.map bv)
  | rows {e l ds} (he : ∀ x ∈ l, isR e x = true) (hr : CReps ι O w l ds) : RowC ι O w l.length e (.rows e l) ds
theorem RowC.ext {ι' : Nat → Option Cn} {O' : Nat → Prop} {w' : World} (h : Ext ι ι' O O' w w') {n e v ds} (hr : RowC ι O w n e v ds) : RowC ι' O' w' n e v ds := by
  cases hr with
  | bytes => exact .bytes
  | rows he hr => exact .rows he (hr.ext h)
theorem RowC.len {n e v ds} (hr : RowC ι O w n e v ds) : ds.length = n * e.size := by
  cases hr with
  | bytes => simp [Sh.size]
  | rows he hr => exact CReps.len_of (fun a b => CRep.len a b) hr he
theorem RowC.lenC {n e v ds} (hr : RowC ι O w n e v ds) : lenC v = n := by cases hr <;> rfl
theorem RowC.isRow {n e v ds} (hr : RowC ι O w n e v ds) : isRow v = true := by cases hr <;> rfl
theorem RowC.elSh {n e v ds} (hr : RowC ι O w n e v ds) : elSh v = e := by cases hr <;> rfl
/-- an element, or a part of one, of a row -/
theorem row_rep {n : Nat} {e r : Sh} {p : List Step} {off : Nat} (ha : At (.arr n e) p off r) (hp : p ≠ []) {v x : V} {ds : List Value} (h : RowC ι O w n e v ds) (hg : getP v p = some x) :
    ∃ pre cs post, ds = pre ++ (cs ++ post) ∧ pre.length = off ∧ cs.length = r.size ∧ CRep ι O w x cs ∧ isSh r x = true ∧
      (∀ y zs v', isSh r y = true → CRep ι O w y zs → setP v p y = some v' → RowC ι O w n e v' (pre ++ (zs ++ post))) := by
  cases h with
  | bytes =>
    rename_i l
    cases ha with
    | here => exact absurd rfl hp
    | elem hi ha =>
      cases ha with
      | here =>
        rename_i i
        obtain ⟨pre, cs, post, h1, h2, h3, h4, h5, h6⟩ := part_rep (At.byte hi) (v := .barr l.length l) (x := x) (by simp [isSh]) (CRep.barr rfl) (by simpa [getP] using hg)
        refine ⟨pre, cs, post, h1, by simpa [Sh.size] using h2, h3, h4, h5, fun y zs v' hy hz hs => ?_⟩
        obtain ⟨z, rfl⟩ := isSh_int hy
        simp only [setP] at hs
        injection hs with hs; subst hs
        have := (h6 (.int .u8 z) zs (.barr l.length (l.set i (u8 z))) hy hz (by simp [setP])).1
        generalize hq : pre ++ (zs ++ post) = q at this
        cases this with
        | barr hn =>
          have : l.length = (l.set i (u8 z)).length := by simp
          rw [this]
          exact .bytes
  | rows he hr =>
    rename_i l
    cases p with
    | nil => exact absurd rfl hp
    | cons st p =>
      cases st with
      | fld j => cases ha
      | idx i =>
        obtain ⟨pre, cs, post, h1, h2, h3, h4, h5, h6⟩ := part_rep ha (v := .arr e l.length l) (x := x) (by simp [isSh, Sh.beq_self]) (CRep.arr rfl he hr) (by simpa [getP] using hg)
        refine ⟨pre, cs, post, h1, h2, h3, h4, h5, fun y zs v' hy hz hs => ?_⟩
        simp only [setP] at hs
        cases hq : setP (eta e (l.getD i .undef)) p y with
        | none => rw [hq] at hs; cases hs
        | some q =>
          rw [hq] at hs
          cases hR' : isR e q with
          | false => simp [hR'] at hs
          | true =>
            simp only [hR', cond_true] at hs
            injection hs with hs; subst hs
            have := (h6 y zs (.arr e l.length (l.set i q)) hy hz (by simp only [setP, hq, hR', cond_true])).1
            cases this with
            | arr hn he' hr' =>
              have : l.length = (l.set i q).length := by simp
              rw [this]
              exact .rows he' hr'

/-! ### memory -/
def isView : Blk → Bool
  | .view _ => true
  | _ => false
def cnBlk : Cn → Option Nat
  | .var g _ => some g
  | .row (some a) _ _ _ _ => some a.block
  | .row none _ _ _ _ => none
/-- block b is the call's own now, number id -/
def Mine (ι : Nat → Option Cn) (hp : Nat → Option Blk) (id b : Nat) : Prop := ∃ k c, hp id = some k ∧ isView k = false ∧ ι id = some c ∧ cnBlk c = some b
/-- the blocks that are somebody's alone -/
def Ex1 (ι : Nat → Option Cn) (hp : Nat → Option Blk) (O : Nat → Prop) : Nat → Prop := fun b => O b ∨ ∃ id, Mine ι hp id b

inductive BRep (ι : Nat → Option Cn) (X : Nat → Prop) (w : World) (id : Nat) : Blk → Prop
  | var {sh v g ds T} (hi : ι id = some (.var g sh)) (hs : isSh sh v = true) (hg : Bas.Blk w g T ds) (hr : CRep ι X w v ds) : BRep ι X w id (.var sh v)
  | row {T sh v A n c ds} (hi : ι id = some (.row A n c T sh)) (hr : RowC ι X w n sh v ds) (ho : w.ownsRow 0 T sh.size (.slice A n c) n ds) : BRep ι X w id (.row T sh v)
  | view {v A n c T sh} (hi : ι id = some (.row A n c T sh)) (hr : CRep ι X w v [.slice A n c]) (hw : isRow v = true) (he : elSh v = sh) : BRep ι X w id (.view v)

/-- a world, and the blocks of it that stay as they are -/
structure Zone where
  w : World
  old : Nat → Prop
/-- all of a world's blocks -/
def allOf (w : World) : Zone := ⟨w, fun b => b < w.heap.size⟩
structure Keeps (old : Nat → Prop) (w w' : World) : Prop where
  os : w'.os = w.os
  tape : w'.tape = w.tape
  output : w'.output = w.output
  size : w.heap.size ≤ w'.heap.size
  block : ∀ k, old k → w'.heap[k]? = w.heap[k]?
theorem Keeps.refl (old : Nat → Prop) (w : World) : Keeps old w w := ⟨rfl, rfl, rfl, Nat.le_refl _, fun _ _ => rfl⟩
theorem Keeps.trans {old : Nat → Prop} {a b c : World} (h : Keeps old a b) (k : Keeps old b c) : Keeps old a c :=
  ⟨k.os.trans h.os, k.tape.trans h.tape, k.output.trans h.output, Nat.le_trans h.size k.size, fun i hi => (k.block i hi).trans (h.block i hi)⟩
theorem Keeps.of_below {old : Nat → Prop} {B : Nat} {w w' : World} (h : Below B w w') (hB : ∀ b, old b → b < B) : Keeps old w w' :=
  ⟨h.os, h.tape, h.output, h.size, fun k hk => h.block k (hB k hk)⟩
theorem Keeps.below {w w' : World} (h : Keeps (allOf w).old w w') : Below w.heap.size w w' := ⟨h.os, h.tape, h.output, h.size, h.block⟩
structure HSim (ι : Nat → Option Cn) (O : Nat → Prop) (w0 : Zone) (hp : Nat → Option Blk) (w : World) : Prop where
  below : Keeps w0.old w0.w w
  old_lt : ∀ b, w0.old b → b < w0.w.heap.size
  outer : ∀ b, O b → w0.old b
  blk : ∀ id k, hp id = some k → BRep ι (Ex1 ι hp O) w id k
  one : ∀ id id' b, Mine ι hp id b → Mine ι hp id' b → id = id'
  fresh : ∀ id b, Mine ι hp id b → ¬ w0.old b ∧ b < w.heap.size
theorem HSim.lt {ι : Nat → Option Cn} {O : Nat → Prop} {w0 : Zone} {hp : Nat → Option Blk} {w : World} (h : HSim ι O w0 hp w) {b : Nat} (hb : w0.old b) : b < w.heap.size := Nat.lt_of_lt_of_le (h.old_lt b hb) h.below.size
theorem HSim.keeps {ι : Nat → Option Cn} {O : Nat → Prop} {w0 : Zone} {hp : Nat → Option Blk} {w w' : World} (h : HSim ι O w0 hp w) (hb : Below w.heap.size w w') : Keeps w0.old w w' := .of_below hb fun _ hb => h.lt hb
end
end Go.Am
