/- The walks of package tlv, third part: the bytes of parts. -/
import Derived.Test.YtmenonijbcljdaaTlvb
namespace Go.Proofs.Ytmenonijbcljdaa
open Go.RowKit Go.Mix Go.Bas

set_option maxRecDepth 8000 in
set_option maxHeartbeats 2000000 in
theorem rPut_calls (A : Option Addr) (n c : Nat) (L : List (Int × List UInt8)) (w : World) (h : Tls w A n c L) :
    Calls Try.prog 127 #[.slice A n c] w fun e w' => ∃ A' n' c', e = .returned (.tuple #[.slice A' n' c', .int .i64 (put L).2]) ∧ Own w' w.heap.size 5 A' n' c' (put L).1 ∧ Below w.heap.size w w' := by
  obtain ⟨i0, hi, hz0, hz1, hz2⟩ := info_parts Try.infob
  have hc1 := h.cap
  have hc2 := h.most
  have hle : n ≤ L.length := Nat.le_of_eq h.len
  have hge : L.length ≤ n := Nat.le_of_eq h.len.symm
  have HH := hid h
  by_cases hz : can 256 L = 0
  · have hput : put L = (enc L ++ pad ((8 - (enc L).length % 8) % 8), 0) := by unfold put; rw [if_pos hz]
    obtain ⟨ln, hln⟩ : ∃ ln : Nat, ln = (enc L).length := ⟨_, rfl⟩
    rw [← hln] at hput
    rw [hput]
    have HLN := hid hln
    have HL := hid (enc_len hz)
    clear hln
    clear hput
    go_enter Try.func127, Try.ntmps127
    go_wp2_with fail
    refine (rCan_calls _ _ _ L _ h).mono ?_; rintro e w1 ⟨rfl, rfl⟩
    rw [hz]
    clear h hz
    go_wp2_with fail
    go_loopw [5, 6] (fun o k wr => ∃ (j : Nat) (A' : Option Addr) (n' c' : Nat), j ≤ n ∧ k = .int .i64 j ∧ o = .slice A' n' c' ∧ Own wr w.heap.size 5 A' n' c' (enc (L.take j)) ∧ Below w.heap.size w wr) (fun _ k _ => n - (intOf k).toNat)
    case atStart => exact ⟨0, _, _, _, by omega, rfl, rfl, by simpa [enc] using Own.nil _ _ _, Below.refl _ _⟩
    case round =>
      obtain ⟨j, A1, n1, c1, hj, rfl, rfl, ho, hbw⟩ := hrel
      have hsr := hbw.size
      have hl1 := HL.out j
      rw [← ho.len] at hl1
      by_cases hlt : j < n
      · have hlt' : (j : Int) < n := by omega
        obtain ⟨b, off, rfl, hb, hx, A2, n2, c2, hy, hbs⟩ := HH.out.rd j (by omega)
        have en := hid (enc_take (L := L) (j := j) (by omega))
        have hl2 := HL.out (j + 1)
        rw [en.out] at hl2
        generalize L[j] = p at *
        obtain ⟨kd, dt⟩ := p
        dsimp only at hx hl2 hbs
        have hn2 := hbs.len
        have hn2' : n2 ≤ 256 := by simp at hl2; omega
        have HN2 := hid hn2
        have HBS := hid hbs
        have HBW := hid hbw
        clear hn2 hl2 hbs hbw
        have hq := SB.refl (B := w.heap.size) (w0 := wr) hsr
        have hne : Nonempty (SBW w.heap.size wr) := Cls.ne hq
        have hx' := (HBW.out.cell (p := ⟨b, off + j * 2, none⟩) hb).trans hx
        have hy' := (HBW.out.cell (p := ⟨b, off + j * 2 + 1, none⟩) hb).trans hy
        have hk0 : ∀ u : SBW w.heap.size wr, u.w.cell? ⟨b, off + j * 2, none⟩ = some (.int .i64 kd) := fun u => u.cell hx' hb
        have hk1 : ∀ u : SBW w.heap.size wr, u.w.cell? ⟨b, off + j * 2 + 1, none⟩ = some (.slice A2 n2 c2) := fun u => u.cell hy' hb
        clear hx' hy'
        have hcs : (#[.int .u8 (kd % 256), .int .u8 ((n2 : Int) % 256)] : Array Value).toList = [b8 kd, b8 n2].map bv := by simp only [List.map_cons, List.map_nil, bv_b8]
        have HCS := hid hcs
        clear hcs
        go_wp2_with fail
        refine wp_region_segs (fun w1 => ∃ u : SBW w.heap.size wr, w1 = u.w) ((0, 0) :: (1, 0) :: (2, 0) :: (3, 0) :: (4, 0) :: (5, 0) :: (6, 0) :: (7, 0) :: (8, 0) :: (9, 0) :: (10, 0) :: (11, 0) :: (12, 0) :: (13, 0) :: (14, 1) :: (15, 1) :: (16, 0) :: []) (by kernel_rfl) (by kernel_rfl) (by kernel_rfl) (by kernel_rfl) (inC hq.drew) ?_
        refine seg_held _ rfl ?_; go_big_quiet_step (fail); refine wpQuiet_nil ?_ -- 0 move
        refine seg_held _ rfl ?_; go_big_quiet_step (fail); refine wpQuiet_nil ?_ -- 1 move
        refine seg_held _ rfl ?_; go_big_quiet_step (fail); refine wpQuiet_nil ?_ -- 2 move
        refine seg_held _ rfl ?_; go_big_quiet_step (fail); refine wpQuiet_nil ?_ -- 3 indexAddr
        refine seg_held _ rfl ?_; go_big_quiet_step (fail); refine wpQuiet_nil ?_ -- 4 fieldAddr
        refine seg_held _ rfl ?_; go_big_quiet_step (fail); refine wpQuiet_nil ?_ -- 5 load
        refine seg_held _ rfl ?_; go_big_quiet_step (fail); refine wpQuiet_nil ?_ -- 6 convert
        refine seg_held _ rfl ?_; go_big_quiet_step (fail); refine wpQuiet_nil ?_ -- 7 move
        refine seg_held _ rfl ?_; go_big_quiet_step (fail); refine wpQuiet_nil ?_ -- 8 move
        refine seg_held _ rfl ?_; go_big_quiet_step (fail); refine wpQuiet_nil ?_ -- 9 indexAddr
        refine seg_held _ rfl ?_; go_big_quiet_step (fail); refine wpQuiet_nil ?_ -- 10 fieldAddr
        refine seg_held _ rfl ?_; go_big_quiet_step (fail); refine wpQuiet_nil ?_ -- 11 load
        refine seg_held _ rfl ?_; go_big_quiet_step (fail); refine wpQuiet_nil ?_ -- 12 builtin:len
        refine seg_held _ rfl ?_; go_big_quiet_step (fail); refine wpQuiet_nil ?_ -- 13 convert
        refine seg_loud _ rfl rfl ?_; intro K hK -- 14 buildSlice
        go_wp2_with fail
        refine ⟨_, fun _ h => h, inC (hq.drew.alloc _), ?_⟩
        refine seg_loud _ rfl rfl ?_; intro K hK -- 15 builtin:append
        refine wp_app (.tmp 19) (.tmp 33) 22 rfl 5 i0 Try.underlying22 hi hz0 hz1 hz2 w.heap.size _ [b8 kd, b8 n2] rfl rfl (ho.alloc _).drew (made_bs wr 5 [b8 kd, b8 n2] #[.int .u8 (kd % 256), .int .u8 ((n2 : Int) % 256)] rfl rfl HCS.out (by simp)).drew (by omega) (by simp; omega) (fun A3 n3 c3 w3 ho3 hg3 => hK _ _ ⟨_, fun _ h => h, inC (SB.low (hq.alloc _).drew (below_grown hg3 (ho.alloc _).drew (Nat.le_refl _) (by simp; omega))), ?_⟩)
        go_frame
        refine seg_held _ rfl ?_; go_big_quiet_step (fail); refine wpQuiet_nil ?_ -- 16 assign
        refine seg_nil ?_
        have hq3 := SB.low (hq.alloc _).drew (below_grown hg3 (ho.alloc _).drew (Nat.le_refl _) (by simp; omega))
        have hb3 := HBW.out.trans hq3.1
        have hs3 := hb3.size
        have hn3 : n3 = n1 + 2 := by have h9 := ho3.len; have := ho.len; simp at h9; omega
        have hx3 := (hb3.cell (p := ⟨b, off + j * 2, none⟩) hb).trans hx
        have hy3 := (hb3.cell (p := ⟨b, off + j * 2 + 1, none⟩) hb).trans hy
        clear hg3 ho hq3 hK hk0 hk1 hne hq
        go_wp2_with (at_builtin; refine stop ?_)
        refine Stop.on (wpList_app rfl _ _ 22 rfl 5 i0 Try.underlying22 hi hz0 hz1 hz2 w.heap.size _ dt rfl rfl ho3 (HBS.out.step hb3) (by omega) hs3 ?_)
        intro A4 n4 c4 w4 ho4 hg4
        have hb4 := hb3.trans (below_grown hg4 ho3 (Nat.le_refl _) hs3)
        rw [HN2.out, ← en.out] at ho4
        clear hg4 ho3 hb3 hx3 hy3
        go_wp2
        go_roundw
        case rel => exact ⟨j + 1, A4, n4, c4, by omega, by go_num, rfl, ho4, hb4⟩
        case measure => simp [intOf]; omega
      · have hlt' : ¬ ((j : Int) < n) := by omega
        have e1 : L.take j = L := List.take_of_length_le (by omega)
        rw [e1] at ho
        have HO := hid ho
        have HB := hid hbw
        clear ho hbw e1
        obtain rfl : n1 = ln := by rw [HO.out.len, HLN.out]
        go_wp2_with fail
        go_loop [7] (fun k => ∃ m : Nat, (m : Int) ≤ (8 - (n1 : Int) % 8) % 8 ∧ k = .int .i64 m) (fun k => 8 - (intOf k).toNat)
        case atStart => exact ⟨0, by omega, rfl⟩
        case round =>
          obtain ⟨m, hm, rfl⟩ := hrel
          by_cases hm2 : (m : Int) < (8 - (n1 : Int) % 8) % 8
          · have t1 : (((n1 : Int) + m) % 8 != 0) = true := by simp; omega
            have hm3 : (m : Int) < 8 := by omega
            have HM2 := hid hm2
            clear hm hm2
            go_wp2
            go_round
            case rel => exact ⟨m + 1, by have := HM2.out; omega, by go_num⟩
            case measure => simp [intOf]; omega
          · have t1 : (((n1 : Int) + m) % 8 != 0) = false := by simp; omega
            have hme : (m : Int) = (8 - (n1 : Int) % 8) % 8 := by omega
            have HME := hid hme
            have hm3 : (m : Int) < 8 := by omega
            clear hm hm2 hme
            go_wp2_with fail
            refine (rPad_calls _ _).mono ?_; rintro e w5 ⟨A5, n5, c5, rfl, ho5, hb5⟩
            have hb6 := below_next HB.out hb5
            have ho6 := HO.out.step hb5
            have hn5 : n5 ≤ 257 := by rw [ho5.len]; exact pad_len _
            have hs6 := hb6.size
            clear hb5
            go_wp2_with (at_builtin; refine stop ?_)
            refine Stop.on (wpList_app rfl _ _ 22 rfl 5 i0 Try.underlying22 hi hz0 hz1 hz2 w.heap.size _ _ rfl rfl ho6 ho5.bs (by omega) hs6 ?_)
            intro A7 n7 c7 w7 ho7 hg7
            have hb7 := hb6.trans (below_grown hg7 ho6 (Nat.le_refl _) hs6)
            clear hg7 ho6 ho5
            go_wp2
            go_ret2
            exact ⟨_, _, _, rfl, by rw [← HME.out]; exact ho7, hb7⟩
  · have hput : put L = ([], can 256 L) := by unfold put; rw [if_neg hz]
    rw [hput]
    clear hput
    go_enter Try.func127, Try.ntmps127
    go_wp2_with fail
    refine (rCan_calls _ _ _ L _ h).mono ?_; rintro e w1 ⟨rfl, rfl⟩
    generalize he : can 256 L = e at *
    have HE := hid he
    clear he
    clear h
    go_wp2
    go_ret2
    exact ⟨_, _, _, by rw [HE.out]; rfl, Own.nil _ _ _, Below.refl _ _⟩
end Go.Proofs.Ytmenonijbcljdaa
