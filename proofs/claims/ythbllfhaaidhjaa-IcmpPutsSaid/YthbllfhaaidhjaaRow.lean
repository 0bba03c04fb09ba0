/- Rows of cells in a block: read and written whole, and cell by cell. -/
import Derived.Test.YthbllfhaaidhjaaMem
import Derived.Deep.MidRow
import Derived.Laws.Rows
namespace Go.Mix
open Go Go.RowKit
theorem SB.set {B : Nat} {w0 w : World} (h : SB B w0 w) {p : Addr} (hp : B ≤ p.block) (v : Value) : SB B w0 (w.setCell p v) := h.low ((Below.refl B w).setCell hp v)
/-- the world gets a name -/
theorem wp_name {P : Program} {c : Code} {Q : Exit → Act → World → Prop} {a : Act} {w : World} (h : ∀ w', w' = w → c.wp P Q a w') : c.wp P Q a w := h w rfl
theorem wpl_name {P : Program} {ops : Array Oper} {Q : Exit → Act → World → Prop} {l : List Oper} {a : Act} {w : World} (h : ∀ w', w' = w → wpList P ops Q l a w') : wpList P ops Q l a w := h w rfl
theorem seg_name {P : Program} {ops : Array Oper} {Q : Act → World → Prop} {C : World → Prop} {a : Act} {w : World} (h : ∀ w', w' = w → Q a w') : wpSegs P ops Q [] C a w := h w rfl
theorem seg_held_off {P : Program} {ops : Array Oper} {Q : Act → World → Prop} {C : World → Prop} {a : Act} {w : World} {i : Nat} {r : List (Nat × Nat)} (o : Oper) (ho : nth ops.toList i = some o)
    (hw : Region.wanted o (yielded ops a.tmps) = false) (h : wpSegs P ops Q r C (a.put o.dst undef) w) : wpSegs P ops Q ((i, 0) :: r) C a w := by
  rw [nth_eq, Array.getElem?_toList] at ho
  show qOp P ops C i _ a
  unfold qOp
  simp only [ho, hw, if_false, Bool.false_eq_true]
  exact h
end Go.Mix
namespace Go.Bas
open Go Go.RowKit Go.Mix

/-- the block g is a row of its own, whole: the cells cs, none frozen -/
def Blk (w : World) (g : Nat) (T : TypeId) (cs : List Value) : Prop := w.heap[g]? = some (.cells cs.toArray T (0, 0))

section
variable {w w' : World} {g : Nat} {T : TypeId} {cs : List Value}
theorem Blk.lt (h : Blk w g T cs) : g < w.heap.size := (Array.getElem?_eq_some_iff.1 h).1
theorem Blk.cell (h : Blk w g T cs) {j : Nat} {v : Value} (hj : cs[j]? = some v) : w.cell? ⟨g, j, none⟩ = some v := by
  rw [cell_of_row w g j _ T _ h]; simpa using hj
theorem Blk.free (h : Blk w g T cs) (j : Nat) : w.frozen? ⟨g, j, none⟩ = false := frozen_of_row w g j _ T h
theorem Blk.new (w : World) (T : TypeId) (cs : List Value) : Blk (w.alloc (.cells cs.toArray T)) w.heap.size T cs := heap_alloc_new w _
theorem Blk.new_at {g : Nat} (w : World) (T : TypeId) (cs : List Value) (hg : g = w.heap.size) : Blk (w.alloc (.cells cs.toArray T)) g T cs := by subst hg; exact heap_alloc_new w _
theorem Blk.alloc (h : Blk w g T cs) (o : Obj) : Blk (w.alloc o) g T cs := by unfold Blk; rw [heap_alloc_old w o h.lt]; exact h
theorem Blk.drew (h : Blk w g T cs) : Blk w.drew g T cs := h
theorem Blk.step (h : Blk w g T cs) (hb : Below w.heap.size w w') : Blk w' g T cs := by unfold Blk; rw [hb.block g h.lt]; exact h
theorem Blk.below {B : Nat} (h : Blk w g T cs) (hg : g < B) (hb : Below B w w') : Blk w' g T cs := by unfold Blk; rw [hb.block g hg]; exact h
theorem Blk.set (h : Blk w g T cs) (j : Nat) (v : Value) : Blk (w.setCell ⟨g, j, none⟩ v) g T (cs.set j v) := by
  unfold Blk
  rw [heap_setCell_same w g j _ T v h]
  simp
theorem Blk.other (h : Blk w g T cs) {p : Addr} (hp : g ≠ p.block) (v : Value) : Blk (w.setCell p v) g T cs := by
  unfold Blk
  rw [heap_setCell_other w p g v hp]
  exact h
theorem Blk.inS {B : Nat} {w0 : World} (h : Blk w0 g T cs) (hg : g < B) (u : SBW B w0) : Blk u.w g T cs := h.below hg u.sb.1
theorem Blk.range (h : Blk w g T cs) (o n : Nat) : w.rangeAt g o ((cs.drop o).take n) := by
  intro j v hv
  have hj : j < n := by
    rcases Nat.lt_or_ge j n with h | h
    · exact h
    · rw [List.getElem?_eq_none (by simp; omega)] at hv; cases hv
  rw [List.getElem?_take, if_pos hj, List.getElem?_drop] at hv
  exact h.cell hv

theorem set_take {α : Type} {cs : List α} {o : Nat} (v : α) (h : o < cs.length) : (cs.set o v).take (o + 1) = cs.take o ++ [v] := by
  apply List.ext_getElem?
  intro i
  simp only [List.getElem?_take, List.getElem?_append, List.getElem?_set, List.length_take]
  rcases Nat.lt_trichotomy i o with hi | hi | hi
  · rw [if_pos (by omega), if_neg (by omega), if_pos (by omega), if_pos (by omega)]
  · subst hi
    rw [if_pos (by omega), if_pos rfl, if_pos h, if_neg (by omega), show i - min i cs.length = 0 by omega]
    rfl
  · rw [if_neg (by omega), if_neg (by omega), List.getElem?_eq_none (by simp; omega)]
theorem Blk.sets : ∀ (vs : List Value) (o : Nat) {cs : List Value} {w : World}, Blk w g T cs → o + vs.length ≤ cs.length → Blk (w.setCells g o vs) g T (cs.take o ++ (vs ++ cs.drop (o + vs.length)))
  | [], o, cs, w, h, _ => by simpa [World.setCells] using h
  | v :: r, o, cs, w, h, hl => by
    have ih := Blk.sets r (o + 1) (h.set o v) (by simp at hl ⊢; omega)
    rw [set_take v (by simp at hl; omega), List.drop_set_of_lt (by omega)] at ih
    rw [World.setCells]
    simp only [List.length_cons, List.cons_append, List.append_assoc, List.nil_append] at ih ⊢
    rwa [show o + (r.length + 1) = o + 1 + r.length by omega]
theorem Blk.sets_all {vs : List Value} (h : Blk w g T cs) (hl : vs.length = cs.length) : Blk (w.setCells g 0 vs) g T vs := by
  have := Blk.sets vs 0 h (by omega)
  rw [List.drop_eq_nil_of_le (by omega)] at this
  simpa using this
theorem Blk.others {g' : Nat} (hg : g ≠ g') : ∀ (vs : List Value) (o : Nat) {w : World}, Blk w g T cs → Blk (w.setCells g' o vs) g T cs
  | [], _, _, h => h
  | v :: r, o, w, h => by rw [World.setCells]; exact Blk.others hg r (o + 1) (h.other (p := ⟨g', o, none⟩) hg v)
theorem below_setCells {B g : Nat} (hB : B ≤ g) : ∀ (vs : List Value) (o : Nat) {w0 w : World}, Below B w0 w → Below B w0 (w.setCells g o vs)
  | [], _, _, _, h => h
  | v :: r, o, w0, w, h => by rw [World.setCells]; exact below_setCells hB r (o + 1) (h.setCell (p := ⟨g, o, none⟩) hB v)
theorem sb_sets {B g : Nat} {w0 w : World} (h : SB B w0 w) (hg : B ≤ g) (vs : List Value) (o : Nat) : SB B w0 (w.setCells g o vs) := h.low (below_setCells hg vs o (Below.refl _ _))
theorem size_setCells {g : Nat} : ∀ (vs : List Value) (o : Nat) (w : World), (w.setCells g o vs).heap.size = w.heap.size
  | [], _, _ => rfl
  | v :: r, o, w => by rw [World.setCells, size_setCells r (o + 1)]; simp
theorem Blk.there (h : Blk w g T cs) {o n : Nat} (hn : o + n ≤ cs.length) : w.there g o n := fun j hj => by
  refine ⟨?_, h.free (o + j)⟩
  rw [h.cell (List.getElem?_eq_getElem (by omega))]; rfl

variable {P : Program} {ops : Array Oper}
/-- a whole struct, or array, is read -/
theorem Blk.ld (h : Blk w g T cs) {t : TypeId} {d : TypeDesc} (hu : P.underlying t = some d) (hd : (match d with | .struct _ | .array _ _ => true | _ => false) = true) {m : Nat} (hi : (P.info? t).map (·.size) = some m) {o : Nat} (hm : o + m ≤ cs.length) :
    (Instr.loadAt t (.pointer (some ⟨g, o, none⟩))).run P w = .ok (.agg ((cs.drop o).take m).toArray) w := by
  refine run_load_agg hu hd hi ((cs.drop o).take m) (by simp; omega) (fun j v hv => ?_)
  exact h.range o m j v hv
theorem Blk.ld_all (h : Blk w g T cs) {t : TypeId} {d : TypeDesc} (hu : P.underlying t = some d) (hd : (match d with | .struct _ | .array _ _ => true | _ => false) = true) (hi : (P.info? t).map (·.size) = some cs.length) :
    (Instr.loadAt t (.pointer (some ⟨g, 0, none⟩))).run P w = .ok (.agg cs.toArray) w := by
  have := h.ld hu hd hi (o := 0) (by omega)
  rwa [List.drop_zero, List.take_of_length_le (Nat.le_refl _)] at this
theorem Blk.wpList_st {rest : List Oper} {op : Oper} {a : Act} {w : World} {Q : Exit → Act → World → Prop} (hgd : op.guard = none) (ty : TypeId) (x y : Operand) (ho : op.op = .store ty x y) {g o : Nat} {vs : List Value}
    (h : Blk w g T cs) (hx : a.eval x = .pointer (some ⟨g, o, none⟩)) (hy : a.eval y = .agg vs.toArray) (hn : o + vs.length ≤ cs.length) (hi : (P.info? ty).map (·.size) = some vs.length) (h1 : ∀ v ∈ vs, v.oneCell' = true)
    (hK : wpList P ops Q rest (a.put op.dst undef) (w.setCells g o vs)) : wpList P ops Q (op :: rest) a w :=
  wpList_store_mid hgd ty x y ho g o vs.toArray hx hy (by simpa using h.there hn) (by simpa using hi) (all_oneCell_toArray h1) hK
theorem Blk.wp_st {op : Oper} {a : Act} {w : World} {K : Act → World → Prop} {Q : Exit → Act → World → Prop} (ty : TypeId) (x y : Operand) (ho : op.op = .store ty x y) {g o : Nat} {vs : List Value}
    (h : Blk w g T cs) (hx : a.eval x = .pointer (some ⟨g, o, none⟩)) (hy : a.eval y = .agg vs.toArray) (hn : o + vs.length ≤ cs.length) (hi : (P.info? ty).map (·.size) = some vs.length) (h1 : ∀ v ∈ vs, v.oneCell' = true)
    (hK : K (a.put op.dst undef) (w.setCells g o vs)) : op.wp P a w K Q :=
  wp_store_mid ty x y ho g o vs.toArray hx hy (by simpa using h.there hn) (by simpa using hi) (all_oneCell_toArray h1) hK
end
section
variable {w w' : World} {g base : Nat} {T T' : TypeId} {cs : List Value} {A : Option Addr} {n c : Nat} {l : List UInt8}
/-- an own row and a block of another type are two -/
theorem Own.apart (h : Own w base T A n c l) (hb : Blk w g T' cs) (hT : T ≠ T') : some g ≠ (Value.slice A n c).ownBlock := by
  intro e
  obtain ⟨rfl, h⟩ := h
  rcases h.2 with ⟨e1, _⟩ | ⟨g', cap, cur, e1, _, hg, _⟩
  · injection e1 with e1; subst e1; cases e
  · injection e1 with e1; subst e1
    injection e with e; subst e
    rw [hb] at hg
    injection hg with hg
    injection hg with _ e5
    exact hT e5.symm
theorem Blk.grown {row : Option Nat} (h : Blk w g T cs) (hg : w.grownBy w' row) (hne : some g ≠ row) : Blk w' g T cs := by
  unfold Blk; rw [hg.block g h.lt hne]; exact h
theorem Own.len_app {base' : Nat} {A' : Option Addr} {n' c' : Nat} {m : List UInt8} (h : Own w' base' T' A' n' c' (l ++ m)) (e : Own w base T A n c l) : n' = n + m.length := by
  rw [h.len, e.len, List.length_append]
/-- bytes in a block -/
theorem Blk.bs {off m cp : Nat} (h : Blk w g T cs) (hl : (cs.drop off).take m = l.map bv) (hm : l.length = m) (h1 : m ≤ cp) (h2 : cp ≤ 9223372036854775807) : Bs w (some ⟨g, off, none⟩) m cp l := by
  refine ⟨hm.symm, h1, h2, fun _ => ⟨g, off, rfl, h.lt, fun j hj => h.cell ?_⟩⟩
  have := bv_getElem? hj
  rw [← hl, List.getElem?_take, if_pos (by omega), List.getElem?_drop] at this
  exact this
end
section
variable {P : Program} {fn : Func} {w : World} {g : Nat} {T ty : TypeId} {cs : List Value} {p q r : Tmp} {d : TypeDesc} {tmps : Array Value} {v u : Value}
theorem res_cell (h : fn.results = #[.cell p ty]) (hp : tmps.getD p undef = .pointer (some ⟨g, 0, none⟩)) (hb : Blk w g T cs)
    (hu : P.underlying ty = some d) (hd : (match d with | .struct _ | .array _ _ => true | _ => false) = true) (hi : (P.info? ty).map (·.size) = some cs.length) : (results fn tmps).run P w = .ok (.agg cs.toArray) w :=
  results_cell_row h tmps w g T cs.toArray _ d hp hb hu hd (by simpa using hi)
theorem res_cell2 (h : fn.results = #[.cell p ty, .tmp q]) (hp : tmps.getD p undef = .pointer (some ⟨g, 0, none⟩)) (hb : Blk w g T cs)
    (hu : P.underlying ty = some d) (hd : (match d with | .struct _ | .array _ _ => true | _ => false) = true) (hi : (P.info? ty).map (·.size) = some cs.length) (hv : tmps.getD q undef = v) : (results fn tmps).run P w = .ok (.tuple #[.agg cs.toArray, v]) w := by
  have hp' : tmps[p]?.getD undef = .pointer (some ⟨g, 0, none⟩) := by simpa using hp
  have hv' : tmps[q]?.getD undef = v := by simpa using hv
  simp [results, h, hp', hv', asAddr, run_loadVar_row w g T ty cs.toArray _ d hb hu hd (by simpa using hi)]
theorem res_cell3 (h : fn.results = #[.cell p ty, .tmp q, .tmp r]) (hp : tmps.getD p undef = .pointer (some ⟨g, 0, none⟩)) (hb : Blk w g T cs)
    (hu : P.underlying ty = some d) (hd : (match d with | .struct _ | .array _ _ => true | _ => false) = true) (hi : (P.info? ty).map (·.size) = some cs.length) (hv : tmps.getD q undef = v) (hu2 : tmps.getD r undef = u) : (results fn tmps).run P w = .ok (.tuple #[.agg cs.toArray, v, u]) w := by
  have hp' : tmps[p]?.getD undef = .pointer (some ⟨g, 0, none⟩) := by simpa using hp
  have hv' : tmps[q]?.getD undef = v := by simpa using hv
  have hu' : tmps[r]?.getD undef = u := by simpa using hu2
  simp [results, h, hp', hv', hu', asAddr, run_loadVar_row w g T ty cs.toArray _ d hb hu hd (by simpa using hi)]
end
section
variable {P : Program} {ops : Array Oper} {w : World} {g : Nat} {T : TypeId} {cs : List Value}
theorem Blk.run_cp (h : Blk w g T cs) (dT sT ty e : TypeId) (hu : P.underlying dT = some (.slice e)) (hsz : (P.info? e).map (·.size) = some 1) {off m dc c2 : Nat} {A2 : Option Addr} {l2 : List UInt8} (h2 : Bs w A2 m c2 l2) (hm : 0 < m) (hfit : off + m ≤ cs.length) :
    (Builtin.copy_ #[dT, sT] ty #[.slice (some ⟨g, off, none⟩) m dc, .slice A2 m c2]).run P w = .ok (goInt m) (w.setCells g off (l2.map bv)) := by
  have hl := h2.len
  obtain ⟨b2, off2, rfl, hb2, hc⟩ := h2.at_ (by omega)
  have := run_copy_cells (P := P) w dT sT ty e g off m dc ⟨b2, off2, none⟩ m c2 (l2.map bv) hu hsz (by rw [List.length_map, ← hl]; exact (Nat.min_self m).symm) (fun j v hv => by
    have hj : j < l2.length := by
      rcases Nat.lt_or_ge j l2.length with h | h
      · exact h
      · rw [List.getElem?_eq_none (by simpa using h)] at hv; cases hv
    rw [bv_getElem? hj] at hv; cases hv
    rw [add_lit0]; exact hc j hj) (fun j hj => (h.there (o := off) (n := m) hfit j (by simpa [← hl] using hj)).1) (fun j hj => (h.there (o := off) (n := m) hfit j (by simpa [← hl] using hj)).2) (bv_one l2)
  rw [List.length_map, ← hl] at this
  exact this
theorem Blk.wp_cp {o : Oper} {a : Act} {K : Act → World → Prop} {Q : Exit → Act → World → Prop} (h : Blk w g T cs) (d s : Operand) (dT sT : TypeId)
    (ho : o.op = .call { callee := .builtin .copy, args := #[d, s], argTypes := #[dT, sT] }) (e : TypeId) (hu : P.underlying dT = some (.slice e)) (hsz : (P.info? e).map (·.size) = some 1) {off m dc c2 : Nat} {A2 : Option Addr} {l2 : List UInt8}
    (hd : a.eval d = .slice (some ⟨g, off, none⟩) m dc) (hs : a.eval s = .slice A2 m c2) (h2 : Bs w A2 m c2 l2) (hm : 0 < m) (hfit : off + m ≤ cs.length)
    (hK : K (a.put o.dst (goInt m)) (w.setCells g off (l2.map bv))) : o.wp P a w K Q :=
  wp_run (exec_copy d s dT sT ho hd hs (h.run_cp dT sT o.type e hu hsz h2 hm hfit)) hK
theorem Blk.wpList_cp {o : Oper} {a : Act} {rest : List Oper} {Q : Exit → Act → World → Prop} (hg : o.guard = none) (h : Blk w g T cs) (d s : Operand) (dT sT : TypeId)
    (ho : o.op = .call { callee := .builtin .copy, args := #[d, s], argTypes := #[dT, sT] }) (e : TypeId) (hu : P.underlying dT = some (.slice e)) (hsz : (P.info? e).map (·.size) = some 1) {off m dc c2 : Nat} {A2 : Option Addr} {l2 : List UInt8}
    (hd : a.eval d = .slice (some ⟨g, off, none⟩) m dc) (hs : a.eval s = .slice A2 m c2) (h2 : Bs w A2 m c2 l2) (hm : 0 < m) (hfit : off + m ≤ cs.length)
    (hK : wpList P ops Q rest (a.put o.dst (goInt m)) (w.setCells g off (l2.map bv))) : wpList P ops Q (o :: rest) a w :=
  wpList_run hg (exec_copy d s dT sT ho hd hs (h.run_cp dT sT o.type e hu hsz h2 hm hfit)) hK
end
theorem and_mask_u32 (n : Int) (k : Nat) (hk : k ≤ 31) (h0 : 0 ≤ n) (h1 : n < 4294967296) : bits .and .u32 n ((2 ^ k - 1 : Nat) : Int) = n % ((2 ^ k : Nat) : Int) := by
  obtain ⟨a, rfl⟩ := Int.eq_ofNat_of_zero_le h0
  have hp : 2 ^ k ≤ 2 ^ 31 := Nat.pow_le_pow_right (by omega) hk
  have hp0 : 0 < 2 ^ k := Nat.two_pow_pos k
  rw [u32_and_nat a (2 ^ k - 1) (by omega) (by omega), Nat.and_two_pow_sub_one_eq_mod]
  omega
/-- from place i on -/
theorem Bs.from_ {w : World} {A : Option Addr} {n c : Nat} {l : List UInt8} (h : Bs w A n c l) {i : Nat} (hi : i ≤ n) : Bs w (Bas.sub A c i) (n - i) (c - i) (l.drop i) := by
  have h1 := h.len
  have h2 := h.cap
  have h3 := h.most
  have := h.sub (i := i) (j := n) (c' := c - i) hi (Nat.le_refl _) (by omega) (by omega)
  rwa [List.take_of_length_le (by simp; omega)] at this
end Go.Bas
