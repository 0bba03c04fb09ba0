/- The walks of package octets and of its reference, third part: Zeros, Join, and the example that every statement ends with. -/
import Derived.Test.YthbllfhaaidhjaaOctb
namespace Go.Proofs.Ythbllfhaaidhjaa
open Go.RowKit Go.Mix Go.Bas

theorem zeros_false {l : List UInt8} {j : Nat} (h : gt l j ≠ 0) (hj : j < l.length) : zeros l = false := by
  unfold zeros
  rw [List.all_eq_false]
  refine ⟨l[j], List.getElem_mem hj, ?_⟩
  rw [gt_of_lt hj] at h
  simp
  intro e
  rw [e] at h
  exact h rfl
theorem zeros_true {l : List UInt8} (h : ∀ j, j < l.length → gt l j = 0) : zeros l = true := by
  unfold zeros
  rw [List.all_eq_true]
  intro x hx
  obtain ⟨j, hj, rfl⟩ := List.getElem_of_mem hx
  have := h j hj
  rw [gt_of_lt hj] at this
  simp only [beq_iff_eq]
  exact UInt8.toNat_inj.1 (by simpa using this)

set_option maxRecDepth 8000 in
set_option maxHeartbeats 400000 in
theorem Zeros_calls (A : Option Addr) (n c : Nat) (l : List UInt8) (w : World) (h : Bs w A n c l) :
    Calls Try.prog 123 #[.slice A n c] w fun e w' => e = .returned (.bool (zeros l)) ∧ w = w' := by
  have hc1 := h.cap
  have hc2 := h.most
  have hle : n ≤ l.length := Nat.le_of_eq h.len
  have hge : l.length ≤ n := Nat.le_of_eq h.len.symm
  have HH := hid h
  clear h
  go_enter Try.func123, Try.ntmps123
  go_wp2_with fail
  go_loop [7] (fun k => ∃ j : Nat, j ≤ n ∧ k = .int .i64 j ∧ Hid (∀ i, i < j → gt l i = 0)) (fun k => n - (intOf k).toNat)
  case atStart => exact ⟨0, by omega, rfl, fun i hi => by omega⟩
  case round =>
    obtain ⟨j, hj, rfl, hz⟩ := hrel
    by_cases hlt : j < n
    · obtain ⟨b, off, rfl, hb, hc⟩ := HH.out.at_ (by omega)
      have hx := hc j (by omega)
      have hlt' : (j : Int) < n := by omega
      by_cases h0 : gt l j = 0
      · have hb0 : (gt l j != 0) = false := by simp [h0]
        have HZ : Hid (∀ i, i < j + 1 → gt l i = 0) := fun i hi => by
          rcases Nat.lt_succ_iff_lt_or_eq.1 hi with h | h
          · exact hz.out i h
          · rw [h]; exact h0
        clear h0 hc
        go_wp2
        go_round
        case rel => exact ⟨j + 1, by omega, by go_num, HZ⟩
        case measure => simp [intOf]; omega
      · have hb0 : (gt l j != 0) = true := by simpa using h0
        have hf := hid (zeros_false h0 (by omega))
        clear h0 hc
        go_wp2
        go_ret
        exact ⟨by rw [hf.out]; rfl, rfl⟩
    · have hlt' : ¬ ((j : Int) < n) := by omega
      have hf := hid (zeros_true (l := l) fun i hi => hz.out i (by omega))
      go_wp2
      go_ret
      exact ⟨by rw [hf.out]; rfl, rfl⟩

set_option maxRecDepth 8000 in
set_option maxHeartbeats 400000 in
theorem Join_calls (A : Option Addr) (n c : Nat) (L : List (List UInt8)) (w : World) (h : Bss w A n c L) (hsz : L.flatten.length ≤ 140737488355328) :
    Calls Try.prog 103 #[.slice A n c] w fun e w' => ∃ A' n' c', e = .returned (.slice A' n' c') ∧ Own w' w.heap.size 5 A' n' c' L.flatten ∧ Below w.heap.size w w' := by
  obtain ⟨i0, hi, hz0, hz1, hz2⟩ := info_parts Try.infob
  have hc1 := h.cap
  have hc2 := h.most
  have hle : n ≤ L.length := Nat.le_of_eq h.len
  have hge : L.length ≤ n := Nat.le_of_eq h.len.symm
  have HH := hid h
  clear h
  go_enter Try.func103, Try.ntmps103
  go_wp2_with fail
  go_loopw [3, 8] (fun o k wr => ∃ (j : Nat) (A' : Option Addr) (n' c' : Nat), j ≤ n ∧ k = .int .i64 j ∧ o = .slice A' n' c' ∧ Own wr w.heap.size 5 A' n' c' (L.take j).flatten ∧ Below w.heap.size w wr) (fun _ k _ => n - (intOf k).toNat)
  case atStart => exact ⟨0, none, 0, 0, by omega, rfl, rfl, Own.nil _ _ _, Below.refl _ _⟩
  case round =>
    obtain ⟨j, A1, n1, c1, hj, rfl, rfl, ho, hb⟩ := hrel
    have hs := hb.size
    by_cases hlt : j < n
    · have hjL : j < L.length := by omega
      obtain ⟨b, off, rfl, hbl, hc⟩ := HH.out.rd (by intro e; subst e; simp at hjL)
      obtain ⟨A2, n2, c2, hx0, hbs⟩ := hc j hjL
      have hx := (hb.cell (p := ⟨b, off + j, none⟩) hbl).trans hx0
      have hbs' := hbs.below (Nat.le_refl _) hb
      have hlt' : (j : Int) < n := by omega
      have e1 : (L.take j).flatten ++ L[j] = (L.take (j + 1)).flatten := by
        rw [List.take_succ_eq_append_getElem hjL, List.flatten_append]; simp
      have hle2 : (L.take (j + 1)).flatten.length ≤ L.flatten.length := by
        conv => rhs; rw [← List.take_append_drop (j + 1) L, List.flatten_append, List.length_append]
        omega
      have hn1 := ho.len
      have hn2 := hbs.len
      have hsum : n1 + n2 ≤ 140737488355328 := by rw [hn1, hn2, ← List.length_append, e1]; omega
      have E1 := hid e1
      clear hc hbs hx0 e1 hle2 hn1 hn2
      generalize hLj : L[j] = lj at *
      clear hLj
      go_wp2_with (at_builtin; refine stop ?_)
      refine Stop.on (wpList_app rfl _ _ 27 rfl 5 i0 Try.underlying27 hi hz0 hz1 hz2 w.heap.size _ lj rfl rfl ho hbs' hsum hs ?_)
      intro A3 n3 c3 w3 ho3 hg3
      have hb3 := hb.trans (below_grown hg3 ho (Nat.le_refl _) hs)
      rw [E1.out] at ho3
      clear hg3 ho hbs' E1
      go_wp2
      go_roundw
      case rel => exact ⟨j + 1, A3, n3, c3, by omega, by go_num, rfl, ho3, hb3⟩
      case measure => simp [intOf]; omega
    · have hlt' : ¬ ((j : Int) < n) := by omega
      have e1 : (L.take j).flatten = L.flatten := by rw [List.take_of_length_le (by omega)]
      rw [e1] at ho
      clear e1
      go_wp2
      go_ret
      exact ⟨_, _, _, rfl, ho, hb⟩

end Go.Proofs.Ythbllfhaaidhjaa
