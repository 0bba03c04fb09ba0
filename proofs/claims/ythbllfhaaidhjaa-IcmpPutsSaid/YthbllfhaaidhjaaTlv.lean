/- The walks of package tlv, first part. -/
import Derived.Test.YthbllfhaaidhjaaTls
import Derived.Test.YthbllfhaaidhjaaTlvp
import Derived.Test.YthbllfhaaidhjaaOctc
namespace Go.Proofs.Ythbllfhaaidhjaa
open Go.RowKit Go.Mix Go.Bas

set_option maxRecDepth 8000 in
set_option maxHeartbeats 1000000 in
theorem Clone_calls (A : Option Addr) (n c : Nat) (l : List UInt8) (w : World) (h : Bs w A n c l) (hsz : n ≤ 140737488355328) :
    Calls Try.prog 77 #[.slice A n c] w fun e w' => ∃ A' n' c', e = .returned (.slice A' n' c') ∧ Own w' w.heap.size 5 A' n' c' l ∧ Below w.heap.size w w' := by
  obtain ⟨i0, hi, hz0, hz1, hz2⟩ := info_parts Try.infob
  cases A with
  | none =>
    obtain rfl : l = [] := by
      rcases Classical.em (l = []) with h0 | h0
      · exact h0
      · obtain ⟨b, off, e, _⟩ := h.rd h0
        cases e
    have hq := Lib.run_eql_slice_nil (P := Try.prog) w 27 5 none n c 0 0 Try.underlying27
    rw [Option.isNone_none] at hq
    go_enter Try.func77, Try.ntmps77
    go_wp2
    go_ret
    exact ⟨_, _, _, rfl, Own.nil _ _ _, Below.refl _ _⟩
  | some x =>
    have hq := Lib.run_eql_slice_nil (P := Try.prog) w 27 5 (some x) n c 0 0 Try.underlying27
    rw [Option.isNone_some] at hq
    go_enter Try.func77, Try.ntmps77
    go_wp2_with (at_builtin; refine stop ?_)
    have ho := Own.made_at (base := w.heap.size) w 5 [] #[] rfl rfl rfl (by simp) (Nat.le_refl _)
    refine Stop.on (wpList_app rfl _ _ 27 rfl 5 i0 Try.underlying27 hi hz0 hz1 hz2 w.heap.size [] l rfl rfl ho (h.alloc _) (by simp; omega) (by simp) ?_)
    intro A2 n2 c2 w2 ho2 hg2
    have hb2 : Below w.heap.size w w2 := ((Below.refl _ _).alloc (Nat.le_refl _) _).trans (below_grown hg2 ho (Nat.le_refl _) (by simp))
    rw [List.nil_append] at ho2
    clear hg2 ho hq
    go_wp2
    go_ret
    exact ⟨_, _, _, rfl, ho2, hb2⟩

set_option maxRecDepth 8000 in
set_option maxHeartbeats 1000000 in
theorem rCan_calls (A : Option Addr) (n c : Nat) (L : List (Int × List UInt8)) (w : World) (h : Tls w A n c L) :
    Calls Try.prog 131 #[.slice A n c] w fun e w' => e = .returned (.int .i64 (can 256 L)) ∧ w = w' := by
  have hc1 := h.cap
  have hc2 := h.most
  have hle : n ≤ L.length := Nat.le_of_eq h.len
  have hge : L.length ≤ n := Nat.le_of_eq h.len.symm
  have HH := hid h
  clear h
  go_enter Try.func131, Try.ntmps131
  go_wp2_with fail
  go_loop [3, 4] (fun s k => ∃ (j : Nat) (lf sm : Int), j ≤ n ∧ k = .int .i64 j ∧ s = .int .i64 sm ∧ Hid ((0 ≤ lf → sm = 256 - lf) ∧ (lf < 0 → sm = 257) ∧ lf ≤ 256) ∧ Hid (can lf (L.drop j) = can 256 L)) (fun _ k => n - (intOf k).toNat)
  case atStart => exact ⟨0, 256, 0, by omega, rfl, rfl, hid ⟨by omega, by omega, by omega⟩, hid (by simp)⟩
  case round =>
    obtain ⟨j, lf, sm, hj, rfl, rfl, hlf, hcan⟩ := hrel
    have hs0 : 0 ≤ sm := by have := hlf.out; omega
    have hs1 : sm ≤ 257 := by have := hlf.out; omega
    by_cases hlt : j < n
    · have hlt' : (j : Int) < n := by omega
      obtain ⟨b, off, rfl, hb, hx, A2, n2, c2, hy, hbs⟩ := HH.out.rd j (by omega)
      have hd := can_drop (L := L) (j := j) (by omega) lf
      rw [hcan.out] at hd
      have hn2 := hbs.len
      have hcp2 := hbs.cap
      have hms2 := hbs.most
      generalize L[j] = p at *
      obtain ⟨kd, dt⟩ := p
      dsimp only at hx hd hn2
      rw [← hn2] at hd
      have HD := hid hd
      clear hd hn2 hbs
      by_cases k1 : kd < 1
      · go_wp2
        go_ret
        exact ⟨by rw [HD.out, if_pos (by omega)]; rfl, rfl⟩
      · by_cases k2 : 255 < kd
        · go_wp2
          go_ret
          exact ⟨by rw [HD.out, if_pos (by omega)]; rfl, rfl⟩
        · by_cases k3 : kd = 4
          · subst k3
            go_wp2
            go_ret
            exact ⟨by rw [HD.out, if_pos (by simp)]; rfl, rfl⟩
          · by_cases k4 : 255 < (n2 : Int)
            · go_wp2
              go_ret
              exact ⟨by rw [HD.out, if_neg (show ¬ (kd ≤ 0 ∨ 255 < kd ∨ kd = 4) by omega), if_pos (show 255 < n2 by omega)]; rfl, rfl⟩
            · have e := HD.out
              rw [if_neg (show ¬ (kd ≤ 0 ∨ 255 < kd ∨ kd = 4) by omega), if_neg (show ¬ 255 < n2 by omega)] at e
              have E := hid e.symm
              clear e HD hcan hb
              by_cases k5 : sm + 2 + n2 < 257
              · go_wp2
                go_round
                case rel => exact ⟨j + 1, _, _, by omega, by go_num, rfl, hid (by have := hlf.out; split <;> omega), E⟩
                case measure => simp [intOf]; omega
              · go_wp2
                go_round
                case rel => exact ⟨j + 1, _, _, by omega, by go_num, rfl, hid (by have := hlf.out; split <;> omega), E⟩
                case measure => simp [intOf]; omega
    · have hlt' : ¬ ((j : Int) < n) := by omega
      have e : can 256 L = if lf < 0 then 8 else 0 := by rw [← hcan.out, List.drop_eq_nil_of_le (by omega), can]
      have E := hid e
      clear e
      by_cases k1 : 256 < sm
      · go_wp2
        go_ret
        exact ⟨by rw [E.out, if_pos (by have := hlf.out; omega)]; rfl, rfl⟩
      · go_wp2
        go_ret
        exact ⟨by rw [E.out, if_neg (by have := hlf.out; omega)]; rfl, rfl⟩
set_option maxRecDepth 8000 in
set_option maxHeartbeats 1000000 in
theorem Can_calls (A : Option Addr) (n c : Nat) (L : List (Int × List UInt8)) (w : World) (h : Tls w A n c L) :
    Calls Try.prog 129 #[.slice A n c] w fun e w' => e = .returned (.int .i64 (can 256 L)) ∧ Below w.heap.size w w' := by
  have hc1 := h.cap
  have hc2 := h.most
  have hle : n ≤ L.length := Nat.le_of_eq h.len
  have hge : L.length ≤ n := Nat.le_of_eq h.len.symm
  have HH := hid h
  clear h
  go_enter Try.func129, Try.ntmps129
  go_wp2_with fail
  go_loopw [3, 9] (fun s k wr => ∃ (j : Nat) (lf : Int), j ≤ n ∧ k = .int .i64 j ∧ s = .int .i64 lf ∧ Hid (-257 ≤ lf ∧ lf ≤ 256) ∧ Hid (can lf (L.drop j) = can 256 L) ∧ Below w.heap.size w wr) (fun _ k _ => n - (intOf k).toNat)
  case atStart => exact ⟨0, 256, by omega, rfl, rfl, hid ⟨by omega, by omega⟩, hid (by simp), Below.refl _ _⟩
  case round =>
    obtain ⟨j, lf, hj, rfl, rfl, hlf, hcan, hbw⟩ := hrel
    have hsr := hbw.size
    have hl0 := hlf.out.1
    have hl1 := hlf.out.2
    by_cases hlt : j < n
    · have hlt' : (j : Int) < n := by omega
      obtain ⟨b, off, rfl, hb, hx, A2, n2, c2, hy, hbs⟩ := (HH.out.step hbw).rd j (by omega)
      have hd := can_drop (L := L) (j := j) (by omega) lf
      rw [hcan.out] at hd
      have hn2 := hbs.len
      have hcp2 := hbs.cap
      have hms2 := hbs.most
      generalize L[j] = p at *
      obtain ⟨kd, dt⟩ := p
      dsimp only at hx hd hn2
      rw [← hn2] at hd
      have HD := hid hd
      have HB := hid hbw
      clear hd hn2 hbs hbw hcan
      by_cases k1 : kd ≤ 0
      · go_wp2
        go_ret
        exact ⟨by rw [HD.out, if_pos (.inl k1)]; rfl, HB.out.alloc hsr _⟩
      · by_cases k2 : 255 < kd
        · go_wp2
          go_ret
          exact ⟨by rw [HD.out, if_pos (.inr (.inl k2))]; rfl, HB.out.alloc hsr _⟩
        · by_cases k3 : kd = 4
          · subst k3
            go_wp2
            go_ret
            exact ⟨by rw [HD.out, if_pos (by simp)]; rfl, HB.out.alloc hsr _⟩
          · by_cases k4 : 255 < (n2 : Int)
            · go_wp2
              go_ret
              exact ⟨by rw [HD.out, if_neg (show ¬ (kd ≤ 0 ∨ 255 < kd ∨ kd = 4) by omega), if_pos (show 255 < n2 by omega)]; rfl, HB.out.alloc hsr _⟩
            · have e := HD.out
              rw [if_neg (show ¬ (kd ≤ 0 ∨ 255 < kd ∨ kd = 4) by omega), if_neg (show ¬ 255 < n2 by omega)] at e
              by_cases k5 : lf < 0
              · rw [if_pos k5] at e
                have E := hid e.symm
                clear e HD hb
                go_wp2
                go_round
                case rel => exact ⟨j + 1, _, by omega, by go_num, rfl, hid ⟨by omega, by omega⟩, E, HB.out.alloc hsr _⟩
                case measure => simp [intOf]; omega
              · rw [if_neg k5] at e
                have E := hid e.symm
                clear e HD hb
                go_wp2
                go_round
                case rel => exact ⟨j + 1, _, by omega, by go_num, rfl, hid ⟨by omega, by omega⟩, E, HB.out.alloc hsr _⟩
                case measure => simp [intOf]; omega
    · have hlt' : ¬ ((j : Int) < n) := by omega
      have e : can 256 L = if lf < 0 then 8 else 0 := by rw [← hcan.out, List.drop_eq_nil_of_le (by omega), can]
      have E := hid e
      clear e
      by_cases k1 : lf < 0
      · go_wp2
        go_ret
        exact ⟨by rw [E.out, if_pos k1]; rfl, hbw⟩
      · go_wp2
        go_ret
        exact ⟨by rw [E.out, if_neg (by omega)]; rfl, hbw⟩
end Go.Proofs.Ythbllfhaaidhjaa
