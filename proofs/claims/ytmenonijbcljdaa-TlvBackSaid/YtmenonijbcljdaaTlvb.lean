/- The walks of package tlv, second part: bytes that are nothing. -/
import Derived.Test.YtmenonijbcljdaaTlv
namespace Go.Proofs.Ytmenonijbcljdaa
open Go.RowKit Go.Mix Go.Bas

set_option maxRecDepth 8000 in
set_option maxHeartbeats 1000000 in
theorem Pad_calls (n : Int) (w : World) :
    Calls Try.prog 32 #[.int .i64 n] w fun e w' => ∃ A' n' c', e = .returned (.slice A' n' c') ∧ Own w' w.heap.size 5 A' n' c' (pad n) ∧ Below w.heap.size w w' := by
  obtain ⟨i0, hi, hz0, hz1, hz2⟩ := info_parts Try.infob
  by_cases k1 : n < 1
  · rw [pad_small k1]
    have k2 : n < 257 := by omega
    go_enter Try.func32, Try.ntmps32
    go_wp2
    go_ret
    exact ⟨_, _, _, rfl, Own.nil _ _ _, Below.refl _ _⟩
  · by_cases k2 : n = 1
    · subst k2
      rw [pad_one]
      go_enter Try.func32, Try.ntmps32
      go_wp2
      go_ret
      exact ⟨_, _, _, rfl, Own.made_at w _ [0] _ rfl rfl rfl (by simp) (Nat.le_refl _), (Below.refl _ _).alloc (Nat.le_refl _) _⟩
    · by_cases k3 : n ≤ 257
      · obtain ⟨m, rfl⟩ := Int.eq_ofNat_of_zero_le (by omega : 0 ≤ n)
        rw [pad_mid (m := m) (by omega) (by omega), ← padN_set (by omega)]
        have hm := hid (show 2 ≤ m by omega)
        generalize hpp : ((List.replicate m (0 : UInt8)).set 0 4).set 1 (b8 ((m : Int) - 2)) = pp
        have HPP := hid hpp
        clear hpp
        have k2' : ((m : Int) == 1) = false := by simpa using k2
        clear k2
        go_enter Try.func32, Try.ntmps32
        go_wp2_with (at_make; refine stop ?_)
        refine Stop.on (wpList_mk rfl _ _ 22 rfl 5 i0 Try.underlying22 hi hz0 hz1 hz2 w.heap.size m rfl rfl (by omega) (Nat.le_refl _) ?_)
        intro w1 ho1 hb1
        have hm2 := hm.out
        have hc0 := ho1.cell (j := 0) (by omega)
        have hf0 := ho1.free (j := 0)
        have ho2 : Own (w1.setCell ⟨w.heap.size, 0, none⟩ (.int .u8 4)) _ _ _ _ _ _ := ho1.store (j := 0) 4
        have hc1 := ho2.cell (j := 1) (by omega)
        have hf1 := ho2.free (j := 1)
        have ho3 := ho2.store (j := 1) (b8 ((m : Int) - 2))
        have hb3 := (hb1.setCell (p := ⟨w.heap.size, 0, none⟩) (Nat.le_refl _) (.int .u8 4)).setCell (p := ⟨w.heap.size, 1, none⟩) (Nat.le_refl _) (bv (b8 ((m : Int) - 2)))
        rw [bv_b8, show ((m : Int) - 2) % 256 = m - 2 by omega] at ho3 hb3
        rw [HPP.out] at ho3
        clear ho1 ho2
        go_wp2
        go_ret
        exact ⟨_, _, _, rfl, ho3, hb3⟩
      · rw [pad_big (by omega), ← padN_set (by omega)]
        obtain ⟨m, hm⟩ : ∃ m : Nat, m = 257 := ⟨_, rfl⟩
        have hpp : ((List.replicate 257 (0 : UInt8)).set 0 4).set 1 (b8 (((257 : Nat) : Int) - 2)) = ((List.replicate m (0 : UInt8)).set 0 4).set 1 255 := by rw [hm]; rfl
        have k2' : (n == 1) = false := by simpa using k2
        have hm2 := hid hm
        clear k2 hm
        generalize ((List.replicate 257 (0 : UInt8)).set 0 4).set 1 (b8 (((257 : Nat) : Int) - 2)) = pp at *
        have HPP := hid hpp
        clear hpp
        go_enter Try.func32, Try.ntmps32
        go_wp2_with (at_make; refine stop ?_)
        refine Stop.on (wpList_mk rfl _ _ 22 rfl 5 i0 Try.underlying22 hi hz0 hz1 hz2 w.heap.size m (by rw [hm2.out]; rfl) (by rw [hm2.out]; rfl) (by have := hm2.out; omega) (Nat.le_refl _) ?_)
        intro w1 ho1 hb1
        have hm3 := hm2.out
        have hc0 := ho1.cell (j := 0) (by omega)
        have hf0 := ho1.free (j := 0)
        have ho2 : Own (w1.setCell ⟨w.heap.size, 0, none⟩ (.int .u8 4)) _ _ _ _ _ _ := ho1.store (j := 0) 4
        have hc1 := ho2.cell (j := 1) (by omega)
        have hf1 := ho2.free (j := 1)
        have ho3 : Own ((w1.setCell ⟨w.heap.size, 0, none⟩ (.int .u8 4)).setCell ⟨w.heap.size, 1, none⟩ (.int .u8 255)) _ _ _ _ _ _ := ho2.store (j := 1) 255
        have hb3 := (hb1.setCell (p := ⟨w.heap.size, 0, none⟩) (Nat.le_refl _) (.int .u8 4)).setCell (p := ⟨w.heap.size, 1, none⟩) (Nat.le_refl _) (.int .u8 255)
        rw [← HPP.out] at ho3
        have hm4 : 1 < m := by omega
        clear ho1 ho2 hm3
        go_wp2
        go_ret
        exact ⟨_, _, _, rfl, ho3, hb3⟩

set_option maxRecDepth 8000 in
set_option maxHeartbeats 1000000 in
theorem rPad_calls (n : Int) (w : World) :
    Calls Try.prog 156 #[.int .i64 n] w fun e w' => ∃ A' n' c', e = .returned (.slice A' n' c') ∧ Own w' w.heap.size 5 A' n' c' (pad n) ∧ Below w.heap.size w w' := by
  obtain ⟨i0, hi, hz0, hz1, hz2⟩ := info_parts Try.infob
  by_cases k1 : n < 1
  · rw [pad_small k1]
    go_enter Try.func156, Try.ntmps156
    go_wp2
    go_ret
    exact ⟨_, _, _, rfl, Own.nil _ _ _, Below.refl _ _⟩
  · by_cases k2 : n = 1
    · subst k2
      rw [pad_one]
      go_enter Try.func156, Try.ntmps156
      go_wp2
      go_ret
      exact ⟨_, _, _, rfl, Own.made_at w _ [0] _ rfl rfl rfl (by simp) (Nat.le_refl _), (Below.refl _ _).alloc (Nat.le_refl _) _⟩
    · obtain ⟨m, hm0, hm1, hp, hm⟩ : ∃ m : Nat, 2 ≤ m ∧ m ≤ 257 ∧ pad n = padN m ∧ (257 < n ∧ m = 257 ∨ ¬ 257 < n ∧ n = m) := by
        by_cases k3 : 257 < n
        · exact ⟨257, by omega, by omega, pad_big (by omega), .inl ⟨k3, rfl⟩⟩
        · obtain ⟨m, rfl⟩ := Int.eq_ofNat_of_zero_le (by omega : 0 ≤ n)
          exact ⟨m, by omega, by omega, pad_mid (by omega) (by omega), .inr ⟨k3, rfl⟩⟩
      rw [hp]
      clear hp
      have k2' : (n == 1) = false := by simpa using k2
      clear k2
      have HM0 := hid hm0
      have HM1 := hid hm1
      clear hm0 hm1
      rcases hm with ⟨k3, hm⟩ | ⟨k3, rfl⟩
      · have HM := hid hm
        clear hm
        go_enter Try.func156, Try.ntmps156
        go_wp2_with fail
        have hx : Own (w.alloc (.cells #[.int .u8 4, .int .u8 255] 5)) w.heap.size 5 (some ⟨w.heap.size, 0, none⟩) 2 2 (4 :: 255 :: List.replicate (2 - 2) 0) :=
          Own.made_at w _ [4, 255] _ rfl rfl rfl (by simp) (Nat.le_refl _)
        have hbx : Below w.heap.size w (w.alloc (.cells #[.int .u8 4, .int .u8 255] 5)) := (Below.refl _ _).alloc (Nat.le_refl _) _
        have HX := hid hx
        have HBX := hid hbx
        clear hx hbx
        go_loopw [3] (fun o wr => ∃ (A' : Option Addr) (n' c' : Nat), 2 ≤ n' ∧ n' ≤ 257 ∧ o = .slice A' n' c' ∧ Own wr w.heap.size 5 A' n' c' (4 :: 255 :: List.replicate (n' - 2) 0) ∧ Below w.heap.size w wr) (fun o _ => 257 - (match o with | .slice _ n _ => n | _ => 0))
        case atStart => exact ⟨_, _, _, Nat.le_refl _, by have := HM0.out; omega, rfl, HX.out, HBX.out⟩
        case round =>
          obtain ⟨A1, n1, c1, g1, g2, rfl, ho, hb⟩ := hrel
          have hsr := hb.size
          by_cases hlt : n1 < 257
          · have t1 : (n1 : Int) < 257 := by omega
            have e := hid (padN_grow (m := 257) g1 hlt 255)
            have hn1 : n1 ≤ 257 := by have := HM1.out; omega
            have HN1 := hid hn1
            have G1 := hid g1
            clear hn1
            go_wp2_with (at_builtin; refine stop ?_)
            refine Stop.on (wpList_app rfl _ _ 22 rfl 5 i0 Try.underlying22 hi hz0 hz1 hz2 w.heap.size _ [0] rfl rfl (ho.alloc _) (made_bs _ _ _ _ rfl rfl rfl (by simp)) (by have := HN1.out; omega) (by simp; omega) ?_)
            intro A3 n3 c3 w3 ho3 hg3
            have hb3 := (hb.alloc hsr _).trans (below_grown hg3 (ho.alloc _) (Nat.le_refl _) (by simp; omega))
            rw [e.out] at ho3
            have hn3 : n3 = n1 + 1 := by have h9 := ho3.len; have := G1.out; simp only [List.length_cons, List.length_replicate] at h9; omega
            subst hn3
            have g3 : 2 ≤ n1 + 1 := by omega
            clear hg3 ho e
            go_wp2
            go_roundw
            case rel => exact ⟨A3, n1 + 1, c3, g3, by omega, rfl, ho3, hb3⟩
            case measure => simp; omega
          · have t1 : ¬ ((n1 : Int) < 257) := by omega
            obtain rfl : n1 = 257 := by omega
            have HO := hid ho
            have HB := hid hb
            clear ho hb
            go_wp2
            go_ret
            exact ⟨_, _, _, rfl, by rw [HM.out]; exact HO.out, HB.out⟩
      · go_enter Try.func156, Try.ntmps156
        go_wp2_with fail
        have hx : Own (w.alloc (.cells #[.int .u8 4, .int .u8 (((m : Int) - 2) % 256)] 5)) w.heap.size 5 (some ⟨w.heap.size, 0, none⟩) 2 2 (4 :: b8 ((m : Int) - 2) :: List.replicate (2 - 2) 0) :=
          Own.made_at w _ [4, b8 ((m : Int) - 2)] _ rfl rfl (by simp only [List.map_cons, List.map_nil, bv_b8]; rfl) (by simp) (Nat.le_refl _)
        have hbx : Below w.heap.size w (w.alloc (.cells #[.int .u8 4, .int .u8 (((m : Int) - 2) % 256)] 5)) := (Below.refl _ _).alloc (Nat.le_refl _) _
        have HX := hid hx
        have HBX := hid hbx
        clear hx hbx
        go_loopw [3] (fun o wr => ∃ (A' : Option Addr) (n' c' : Nat), 2 ≤ n' ∧ n' ≤ m ∧ o = .slice A' n' c' ∧ Own wr w.heap.size 5 A' n' c' (4 :: b8 ((m : Int) - 2) :: List.replicate (n' - 2) 0) ∧ Below w.heap.size w wr) (fun o _ => m - (match o with | .slice _ n _ => n | _ => 0))
        case atStart => exact ⟨_, _, _, Nat.le_refl _, by have := HM0.out; omega, rfl, HX.out, HBX.out⟩
        case round =>
          obtain ⟨A1, n1, c1, g1, g2, rfl, ho, hb⟩ := hrel
          have hsr := hb.size
          by_cases hlt : n1 < m
          · have t1 : (n1 : Int) < m := by omega
            have e := hid (padN_grow (m := m) g1 hlt (b8 ((m : Int) - 2)))
            have hn1 : n1 ≤ 257 := by have := HM1.out; omega
            have HN1 := hid hn1
            have G1 := hid g1
            clear hn1
            go_wp2_with (at_builtin; refine stop ?_)
            refine Stop.on (wpList_app rfl _ _ 22 rfl 5 i0 Try.underlying22 hi hz0 hz1 hz2 w.heap.size _ [0] rfl rfl (ho.alloc _) (made_bs _ _ _ _ rfl rfl rfl (by simp)) (by have := HN1.out; omega) (by simp; omega) ?_)
            intro A3 n3 c3 w3 ho3 hg3
            have hb3 := (hb.alloc hsr _).trans (below_grown hg3 (ho.alloc _) (Nat.le_refl _) (by simp; omega))
            rw [e.out] at ho3
            have hn3 : n3 = n1 + 1 := by have h9 := ho3.len; have := G1.out; simp only [List.length_cons, List.length_replicate] at h9; omega
            subst hn3
            have g3 : 2 ≤ n1 + 1 := by omega
            clear hg3 ho e
            go_wp2
            go_roundw
            case rel => exact ⟨A3, n1 + 1, c3, g3, by omega, rfl, ho3, hb3⟩
            case measure => simp; omega
          · have t1 : ¬ ((n1 : Int) < m) := by omega
            obtain rfl : n1 = m := by omega
            have HO := hid ho
            have HB := hid hb
            clear ho hb
            go_wp2
            go_ret
            exact ⟨_, _, _, rfl, HO.out, HB.out⟩
end Go.Proofs.Ytmenonijbcljdaa
