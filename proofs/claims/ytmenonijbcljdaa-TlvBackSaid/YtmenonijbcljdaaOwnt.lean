/- Rows of parts of the call's own. -/
import Derived.Test.YtmenonijbcljdaaTls
namespace Go.Bas
open Go Go.RowKit Go.Mix

/-- an own row of parts; each part's data lies at the head of a row of bytes -/
structure Ots (w : World) (base : Nat) (T TB : TypeId) (A : Option Addr) (n c : Nat) (L : List (Int × List UInt8)) : Prop where
  len : n = L.length
  row : ∃ xs, w.ownsRow base T 2 (.slice A n c) n xs ∧ ∀ j (hj : j < L.length), xs[j * 2]? = some (.int .i64 (L[j].1)) ∧ ∃ A' n' c', xs[j * 2 + 1]? = some (.slice A' n' c') ∧ Bs w A' n' c' (L[j].2) ∧
    (L[j].2 = [] ∨ ∃ g cur, A' = some ⟨g, 0, none⟩ ∧ w.heap[g]? = some (.cells cur TB (0, 0)))

section
variable {w w' : World} {base : Nat} {T TB : TypeId} {A : Option Addr} {n c : Nat} {L : List (Int × List UInt8)}

theorem Ots.nil (w : World) (base : Nat) (T TB : TypeId) : Ots w base T TB none 0 0 [] := ⟨rfl, [], ⟨rfl, .inl ⟨rfl, rfl⟩⟩, fun j hj => by simp at hj⟩

theorem Ots.tls (h : Ots w base T TB A n c L) : Tls w A n c L := by
  obtain ⟨xs, hr, hx⟩ := h.row
  have hlen := h.len
  rcases hr.2 with ⟨e, h0⟩ | ⟨g, cap, cur, e, hb, hg, hn, hm, hs, ht⟩
  · injection e with e1 e2 e3
    subst e1; subst e3
    refine ⟨hlen, by omega, by omega, fun j hj => by omega⟩
  · injection e with e1 e2 e3
    subst e1; subst e3
    refine ⟨hlen, hn, by simpa [maxLen] using hm, fun j hj => ?_⟩
    obtain ⟨q0, A', n', c', q1, q2, -⟩ := hx j hj
    refine ⟨g, 0, rfl, (Array.getElem?_eq_some_iff.1 hg).1, ?_, A', n', c', ?_, q2⟩
    · rw [Nat.zero_add, World.ownsRow.cellAt hr (j * 2) (by omega)]; exact q0
    · rw [Nat.zero_add, World.ownsRow.cellAt hr (j * 2 + 1) (by omega)]; exact q1
theorem Ots.step (h : Ots w base T TB A n c L) (hb : Below w.heap.size w w') : Ots w' base T TB A n c L := by
  obtain ⟨xs, hr, hx⟩ := h.row
  refine ⟨h.len, xs, World.ownsRow.kept hr (grown_of_below hb none) (by cases hv : Value.ownBlock (.slice A n c) <;> simp), fun j hj => ?_⟩
  obtain ⟨q0, A', n', c', q1, q2, q3⟩ := hx j hj
  refine ⟨q0, A', n', c', q1, q2.step hb, q3.imp id ?_⟩
  rintro ⟨g, cur, e, hg⟩
  exact ⟨g, cur, e, by rw [hb.block g (Array.getElem?_eq_some_iff.1 hg).1]; exact hg⟩
theorem Ots.alloc (h : Ots w base T TB A n c L) (o : Obj) : Ots (w.alloc o) base T TB A n c L := h.step ((Below.refl _ _).alloc (Nat.le_refl _) o)
theorem Ots.drew (h : Ots w base T TB A n c L) : Ots w.drew base T TB A n c L := h.step (Below.refl _ _).drew
theorem Ots.mono {base' : Nat} (h : Ots w base T TB A n c L) (hb : base' ≤ base) : Ots w base' T TB A n c L := by
  obtain ⟨xs, hr, hx⟩ := h.row
  refine ⟨h.len, xs, ⟨hr.1, hr.2.imp id ?_⟩, hx⟩
  rintro ⟨g, cap, cur, e, hg, r⟩
  exact ⟨g, cap, cur, e, by omega, r⟩
theorem Ots.block (h : Ots w base T TB A n c L) : ∀ k, (Value.slice A n c).ownBlock = some k → base ≤ k ∧ k < w.heap.size := by
  obtain ⟨xs, hr, -⟩ := h.row
  exact World.ownsRow.lt hr
/-- where an own row of bytes lies -/
theorem Own.lies {l : List UInt8} (h : Own w base TB A n c l) : l = [] ∨ ∃ g cur, A = some ⟨g, 0, none⟩ ∧ w.heap[g]? = some (.cells cur TB (0, 0)) := by
  obtain ⟨rfl, h⟩ := h
  rcases h.2 with ⟨e, h0⟩ | ⟨g, cap, cur, e, hb, hg, _⟩
  · exact .inl (List.eq_nil_of_length_eq_zero h0)
  · injection e with e1 e2 e3
    exact .inr ⟨g, cur, e1, hg⟩

variable {P : Program}
/-- one part behind the others -/
theorem run_append_t (w : World) (t ty : TypeId) (i : TypeInfo) (ht : P.underlying t = some (.slice T)) (hi : P.info? T = some i) (hz : i.zero = some (.agg #[.int .i64 0, .slice none 0 0])) (hsize : i.size = 2) (hby : i.bytes = 32) (hT : T ≠ TB)
    {g2 : Nat} {A' : Option Addr} {n' c' : Nat} {kd : Int} {dt : List UInt8} (ho : Ots w base T TB A n c L) (h0 : w.cell? ⟨g2, 0, none⟩ = some (.int .i64 kd)) (h1 : w.cell? ⟨g2, 1, none⟩ = some (.slice A' n' c')) (hd : Bs w A' n' c' dt)
    (hl : dt = [] ∨ ∃ g cur, A' = some ⟨g, 0, none⟩ ∧ w.heap[g]? = some (.cells cur TB (0, 0))) (hsz : n ≤ 4294967296) (hb : base ≤ w.heap.size) :
    ∃ A2 n2 c2 w', (Builtin.append_ #[t, t] ty #[.slice A n c, .slice (some ⟨g2, 0, none⟩) 1 1]).run P w = .ok (.slice A2 n2 c2) w' ∧ Ots w' base T TB A2 n2 c2 (L ++ [(kd, dt)]) ∧ w.grownBy w' (Value.slice A n c).ownBlock := by
  obtain ⟨xs, hr, hx⟩ := ho.row
  have hlen := ho.len
  obtain ⟨v', w', hrun, h3, h4, _, _⟩ := run_append_own_at (P := P) w base t ty T i (.agg #[.int .i64 0, .slice none 0 0]) 2 32 ht hi hz hsize hby rfl (by omega) _ _ _ hr ⟨g2, 0, none⟩ 1 1 [.int .i64 kd, .slice A' n' c'] rfl
    (fun j u hj => by
      rw [add_lit0, Nat.zero_add]
      match j, hj with
      | 0, hj => cases hj; exact h0
      | 1, hj => cases hj; exact h1) (by intro u hu; simp at hu; rcases hu with rfl | rfl <;> rfl) (by unfold maxLen; omega) (by omega) hb
  have hrow : ∀ g cur, w.heap[g]? = some (.cells cur TB (0, 0)) → some g ≠ (Value.slice A n c).ownBlock := by
    intro g cur hg e
    rcases hr.2 with ⟨e1, h0⟩ | ⟨g3, cap, cur3, e1, _, hg3, _⟩
    · injection e1 with e1; subst e1; cases e
    · injection e1 with e1; subst e1
      injection e with e; subst e
      rw [hg] at hg3
      injection hg3 with hg3
      injection hg3 with _ e5
      exact hT e5.symm
  have keep : ∀ (A' : Option Addr) (n' c' : Nat) (l : List UInt8), Bs w A' n' c' l → (l = [] ∨ ∃ g cur, A' = some ⟨g, 0, none⟩ ∧ w.heap[g]? = some (.cells cur TB (0, 0))) →
      Bs w' A' n' c' l ∧ (l = [] ∨ ∃ g cur, A' = some ⟨g, 0, none⟩ ∧ w'.heap[g]? = some (.cells cur TB (0, 0))) := by
    intro A' n' c' l q2 q3
    rcases q3 with rfl | ⟨g, cur, rfl, hg⟩
    · exact ⟨⟨q2.len, q2.cap, q2.most, fun h => absurd rfl h⟩, .inl rfl⟩
    · refine ⟨q2.grown h4 fun b off e => ?_, .inr ⟨g, cur, rfl, ?_⟩⟩
      · injection e with e; injection e with e; subst e
        exact hrow g cur hg
      · rw [h4.block g (Array.getElem?_eq_some_iff.1 hg).1 (hrow g cur hg)]; exact hg
  have hform := World.ownsRow.form h3 (by omega)
  obtain ⟨g5, cap5, rfl, _, _⟩ := hform
  refine ⟨_, _, _, w', hrun, ⟨by simp; omega, _, h3, fun j hj => ?_⟩, h4⟩
  have hxl : xs.length = n * 2 := hr.1
  rcases Nat.lt_or_ge j L.length with hlt | hge
  · obtain ⟨q0, A', n', c', q1, q2, q3⟩ := hx j hlt
    obtain ⟨q4, q5⟩ := keep A' n' c' _ q2 q3
    rw [List.getElem_append_left hlt, List.getElem?_append_left (by omega), List.getElem?_append_left (by omega)]
    exact ⟨q0, A', n', c', q1, q4, q5⟩
  · obtain rfl : j = L.length := by simp at hj; omega
    obtain ⟨q4, q5⟩ := keep A' n' c' _ hd hl
    have e1 : (L ++ [(kd, dt)])[L.length]'(by simp) = (kd, dt) := by simp
    rw [e1, List.getElem?_append_right (by omega), List.getElem?_append_right (by omega), show L.length * 2 - xs.length = 0 by omega, show L.length * 2 + 1 - xs.length = 1 by omega]
    exact ⟨rfl, A', n', c', rfl, q4, q5⟩
theorem wp_app_t {o : Oper} {a : Act} {w : World} {K : Act → World → Prop} {Q : Exit → Act → World → Prop} {base : Nat} {T TB : TypeId} {A : Option Addr} {n c : Nat} {L : List (Int × List UInt8)} (s x : Operand) (t : TypeId)
    (hop : o.op = .call { callee := .builtin .append, args := #[s, x], argTypes := #[t, t] }) (i : TypeInfo) (ht : P.underlying t = some (.slice T)) (hi : P.info? T = some i) (hz : i.zero = some (.agg #[.int .i64 0, .slice none 0 0])) (hsize : i.size = 2) (hby : i.bytes = 32) (hT : T ≠ TB)
    {g2 : Nat} {A' : Option Addr} {n' c' : Nat} {kd : Int} {dt : List UInt8} (e1 : a.eval s = .slice A n c) (e2 : a.eval x = .slice (some ⟨g2, 0, none⟩) 1 1) (ho : Ots w base T TB A n c L) (h0 : w.cell? ⟨g2, 0, none⟩ = some (.int .i64 kd)) (h1 : w.cell? ⟨g2, 1, none⟩ = some (.slice A' n' c')) (hd : Bs w A' n' c' dt)
    (hl : dt = [] ∨ ∃ g cur, A' = some ⟨g, 0, none⟩ ∧ w.heap[g]? = some (.cells cur TB (0, 0))) (hsz : n ≤ 4294967296) (hb : base ≤ w.heap.size)
    (h : ∀ A2 n2 c2 w', Ots w' base T TB A2 n2 c2 (L ++ [(kd, dt)]) → w.grownBy w' (Value.slice A n c).ownBlock → K (a.put o.dst (.slice A2 n2 c2)) w') : o.wp P a w K Q := by
  obtain ⟨A2, n2, c2, w', hrun, h3, h4⟩ := run_append_t (P := P) w t o.type i ht hi hz hsize hby hT ho h0 h1 hd hl hsz hb
  exact wp_run (exec_append s x t hop e1 e2 hrun) (h A2 n2 c2 w' h3 h4)
end
end Go.Bas
