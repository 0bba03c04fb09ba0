/- Part Gl of the proof: laws used by the law of this claim. -/
import Derived.Test.YtfhljcbbgckdiaaGreatGf
import Derived.Test.YtfhljcbbgckdiaaGreatGc
import Derived.Test.YtfhljcbbgckdiaaGreatGd
set_option linter.all false
namespace Go.Proofs.YtfhljcbbgckdiaaGreat
open Go Go.Am Go.RowKit Go.Mix Go.Bas
theorem exec_app2 {P : Program} {o : Oper} {a : Act} {w : World} {ops : Array Oper} {rest : List Oper} {Q : Exit → Act → World → Prop} (hg : o.guard = none) (s x : Operand) (t : TypeId)
  (ho : o.op = .call { callee := .builtin .append, args := #[s, x], argTypes := #[t, t] }) (e : TypeId) (i : TypeInfo) (ht : P.underlying t = some (.slice e)) (hi : P.info? e = some i) (hz : i.zero = some (.int .u8 0)) (hsize : i.size = 1) (hby : i.bytes = 1)
  {A A2 : Option Addr} {c c2 n m : Nat} (l l2 : List UInt8) (h1 : a.eval s = .slice A n c) (h2 : a.eval x = .slice A2 m c2) (hown : Own w 0 e A n c l) (hbs : Bs w A2 m c2 l2) (h0 : 0 < l2.length)
  (hsz : n + m ≤ 140737488355328)
  (h : ∀ A' n' c' w', Own w' 0 e A' n' c' (l ++ l2) → w.grownBy w' (Value.slice A n c).ownBlock → (∀ a, A' = some a → A.map (·.block) = some a.block ∨ w.heap.size ≤ a.block) → wpList P ops Q rest (a.put o.dst (.slice A' n' c')) w') : wpList P ops Q (o :: rest) a w := by
 obtain ⟨rfl, hown⟩ := hown
 obtain rfl := hbs.len
 obtain ⟨b, off, rfl, hb2, hc⟩ := hbs.at_ h0
 obtain ⟨v', w', hrun, h3, h4, _, h6⟩ := run_append_own_at (P := P) w 0 t o.type e i (.int .u8 0) 1 1 ht hi hz hsize hby rfl (by omega) _ _ _ hown ⟨b, off, none⟩ l2.length c2 (l2.map bv) (by simp)
  (fun j u hj => by
   have hlt : j < l2.length := by
    rcases Nat.lt_or_ge j l2.length with h | h
    ·exact h
    ·rw [List.getElem?_eq_none (by simpa using h)] at hj; cases hj
   rw [List.getElem?_map, List.getElem?_eq_getElem hlt] at hj
   injection hj with hj
   subst hj
   rw [add_lit0, hc j hlt, gt_of_lt hlt]
   rfl) (bv_one _) (by unfold maxLen; omega) (by omega) (Nat.zero_le _)
 have hform := h3.2
 rcases hform with ⟨_, e2⟩ | ⟨g, cap, cur, e1, r⟩
 ·omega
 ·subst e1
  refine wpList_run hg (exec_append s x t ho h1 h2 hrun) (h _ _ _ w' ⟨by simp, by rw [List.map_append]; exact h3⟩ h4 fun a' ha' => ?_)
  injection ha' with ha'
  subst ha'
  simp only [Value.ownBlock] at h6
  rcases h6 with h6 | h6
  ·left
   cases A with
   | none => simp at h6
   | some a0 => simp at h6 ⊢; exact h6.symm
  ·right; injection h6 with h6; exact Nat.le_of_eq h6.symm
def aP16 : List V → Option (List UInt8 × Bool)
 | [.int .i64 n] => some (two n, true)
 | _ => none
def aP32 : List V → Option (List UInt8 × Bool)
 | [.int .u32 n] => some (four n, decide (0 ≤ n) && decide (n < 4294967296))
 | _ => none
set_option maxRecDepth 8000 in
set_option maxHeartbeats 400000 in
theorem Put16_app : AppS Tryz.prog 78 5 aP16 := by
 intro vs y hF w A k c l ds ho hk hsz hds _
 subst hk
 unfold aP16 at hF
 split at hF
 ·rename_i n
  injection hF with hF; injection hF with hF _; subst hF
  obtain ⟨d, rfl, hd⟩ := hds.one_inv
  obtain ⟨rfl, _⟩ := hd.int_inv
  have h : Own w 0 5 A l.length c l := ⟨rfl, ho⟩
  have hsz : l.length + 2 ≤ 140737488355328 := hsz
  clear ho hds hd
  show Calls Tryz.prog 78 #[.slice A l.length c, .int .i64 n] w _
  obtain ⟨i0, hi, hz0, hz1, hz2⟩ := info_parts Tryz.infob
  go_enter Tryz.func78, Tryz.ntmps78
  go_wp2_with fail
  refine (two_calls _ _).mono ?_; rintro e w' ⟨rfl, hb'⟩
  have hsz' := hb'.size
  go_wp2_with (at_builtin; refine stop ?_)
  refine Stop.on (exec_app2 rfl _ _ 34 rfl 5 i0 Tryz.underlying34 hi hz0 hz1 hz2 l (two n) rfl rfl (((h.step hb').alloc _).alloc _) (Own.made_at (base := 0) _ _ (two n) _ (by simp) rfl (two_cells n) (by simp [two]) (by simp)).bs (by simp [two]) hsz ?_)
  intro A' n' c' w2 ho hg hq
  go_wp2
  go_ret
  have hn := ho.1
  refine ⟨A', c', ?_, ?_, ((grown_of_below hb' _).trans ((World.grownBy_alloc _ _ _).trans (World.grownBy_alloc _ _ _))).trans hg, fun a ha => (hq a ha).imp id fun h => ?_⟩
  ·rw [hn, List.length_append]
   rfl
  ·have := ho.2
   rw [hn, List.length_append] at this
   exact this
  ·simp at h
   omega
 ·cases hF
set_option maxRecDepth 8000 in
set_option maxHeartbeats 400000 in
theorem Put32_app : AppS Tryz.prog 125 5 aP32 := by
 intro vs y hF w A k c l ds ho hk hsz hds _
 subst hk
 unfold aP32 at hF
 split at hF
 ·rename_i n
  injection hF with hF; injection hF with hF hb; subst hF
  have hb := (Bool.and_eq_true _ _).mp hb
  have H0 := hid (of_decide_eq_true hb.1)
  have H1 := hid (of_decide_eq_true hb.2)
  clear hb
  obtain ⟨d, rfl, hd⟩ := hds.one_inv
  obtain ⟨rfl, _⟩ := hd.int_inv
  have h : Own w 0 5 A l.length c l := ⟨rfl, ho⟩
  have hsz : l.length + 4 ≤ 140737488355328 := hsz
  clear ho hds hd
  show Calls Tryz.prog 125 #[.slice A l.length c, .int .u32 n] w _
  obtain ⟨i0, hi, hz0, hz1, hz2⟩ := info_parts Tryz.infob
  go_enter Tryz.func125, Tryz.ntmps125
  go_wp2_with (at_builtin; refine stop ?_)
  refine Stop.on (exec_app2 rfl _ _ 34 rfl 5 i0 Tryz.underlying34 hi hz0 hz1 hz2 l (four n) rfl rfl (h.alloc _) (Own.made_at (base := 0) _ _ (four n) _ (by simp) rfl (by simp [four, bv_b8]) (by simp [four]) (by simp)).bs (by simp [four]) hsz ?_)
  intro A' n' c' w2 ho hg hq
  go_wp2
  go_ret
  have hn := ho.1
  refine ⟨A', c', ?_, ?_, (World.grownBy_alloc _ _ _).trans hg, fun a ha => (hq a ha).imp id fun h => ?_⟩
  ·rw [hn, List.length_append]
   rfl
  ·have := ho.2
   rw [hn, List.length_append] at this
   exact this
  ·simp at h
   omega
 ·cases hF
end Go.Proofs.YtfhljcbbgckdiaaGreat