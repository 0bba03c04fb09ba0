/- The laws of layer 4: puts, back, changes. -/
import Derived.Test.YtmenonijbcljdaaSixj
import Derived.Test.YtmenonijbcljdaaStr
namespace Go.Proofs.Ytmenonijbcljdaa
open Go.RowKit Go.Mix Go.Bas

set_option maxRecDepth 8000 in
set_option maxHeartbeats 2000000 in
theorem SixPuts_calls (c la ln nx hp : Int) (sd : List UInt8) (A : Option Addr) (k cp : Nat) (l : List UInt8) (w : World) (hsd : sd.length = 32) (h : Bs w A k cp l) :
    Calls Try.prog 5 #[.agg (headL c la ln nx hp sd).toArray, .slice A k cp] w fun e w' => e = .returned (.bool true) ∧ Below w.heap.size w w' := by
  obtain ⟨i0, hi, hz0, hz1, hz2⟩ := info_parts Try.infob
  have hcp := h.cap
  by_cases hk : 50 < (k : Int)
  · go_enter Try.func5, Try.ntmps5
    go_wp2_with fail
    refine (lives4_calls _).mono ?_; rintro e w1 ⟨rfl, hb1⟩
    have hb1' := below_next ((Below.refl w.heap.size w).alloc (Nat.le_refl _) (.cells (headL c la ln nx hp sd).toArray 38)) hb1
    clear hb1
    go_wp2
    go_ret
    exact ⟨rfl, hb1'⟩
  · have hb0 := Blk.new w 38 (headL c la ln nx hp sd)
    have hsz0 : w.heap.size < (w.alloc (.cells (headL c la ln nx hp sd).toArray 38)).heap.size := hb0.lt
    have hbs := h.alloc (.cells (headL c la ln nx hp sd).toArray 38)
    have hbl := (Below.refl w.heap.size w).alloc (Nat.le_refl _) (.cells (headL c la ln nx hp sd).toArray 38)
    have HB0 := hid hb0
    have HBL := hid hbl
    have HSD := hid hsd
    have HLN := hid h.len
    have hkk : k ≤ 50 := by omega
    clear h hsd hb0 hbl
    go_enter Try.func5, Try.ntmps5
    go_wp2_with fail
    refine wp_name ?_; intro w0 hw0
    rw [← hw0] at hsz0 hbs HB0 HBL
    clear hw0
    have hne : Nonempty (SBW w0.heap.size w0) := Cls.ne (SB.refl (Nat.le_refl _))
    have hrun : ∀ wx, (∃ u : SBW w0.heap.size w0, wx = u.w) → (Instr.loadAt 38 (.pointer (some ⟨w.heap.size, 0, none⟩))).run Try.prog wx = .ok (.agg (headL c la ln nx hp sd).toArray) wx := by
      rintro wx ⟨u, rfl⟩
      exact (HB0.out.inS hsz0 u).ld_all Try.underlying38 rfl (by rw [headL_len HSD.out]; kernel_rfl)
    have HRUN := hid hrun
    have fb : ∀ u : SBW (w0.heap.size) (w0), (convert 22 9 (.slice A k cp)).run Try.prog u.w = .ok (str l) u.w := fun u => run_string (P := Try.prog) 22 5 9 Try.underlying22 Try.underlying5 Try.underlying9 ((hbs).inS (Nat.le_refl _) u)
    have hq := SB.start (w0 := w0) (Nat.le_refl _)
    have HBS := hid hbs
    have hx0 := HBL.out.size
    clear hrun hbs
    have hpl : (putH c la ln nx hp sd).length ≤ 40 := by unfold putH; split <;> simp [encH_len HSD.out]
    have hsa := sb_app
    have g1 : (sb l).size + (sb (putH c la ln nx hp sd)).size ≤ 9223372036854775807 := by rw [sb_sz, sb_sz, ← HLN.out]; omega
    refine wp_region_segs (fun wq => ∃ u : SBW (w0.heap.size) (w0), wq = u.w) ((0, 0) :: (2, 0) :: (1, 1) :: (3, 1) :: (4, 0) :: (5, 0) :: (7, 0) :: (9, 0) :: (12, 0) :: (13, 0) :: (14, 0) :: (6, 1) :: (8, 1) :: (10, 1) :: (11, 0) :: (15, 1) :: (16, 0) :: (17, 0) :: (18, 0) :: (19, 0) :: (20, 0) :: (21, 1) :: (22, 0) :: (23, 0) :: []) (by kernel_rfl) (by kernel_rfl) (by kernel_rfl) (by kernel_rfl) (inC hq) ?_
    refine seg_ld _ (.agg (headL c la ln nx hp sd).toArray) 38 (.tmp 2) (.pointer (some ⟨w.heap.size, 0, none⟩)) HRUN.out rfl rfl rfl rfl ?_; go_frame -- 0 load
    refine seg_ld _ (.agg (headL c la ln nx hp sd).toArray) 38 (.tmp 2) (.pointer (some ⟨w.heap.size, 0, none⟩)) HRUN.out rfl rfl rfl rfl ?_; go_frame -- 2 load
    refine seg_loud _ rfl rfl ?_; intro K hK -- 1 call harrier/six.Can
    go_wp2_with fail
    refine (CanH_calls _ _ _ _ _ _ _ HSD.out).mono ?_
    rintro e w' ⟨rfl, hb'⟩
    go_wp2_with fail
    replace hq := hq.step hb'; clear hb'
    refine ⟨_, fun _ h => h, inC hq, ?_⟩
    refine seg_loud _ rfl rfl ?_; intro K hK -- 3 call harrier/harrierref04.Can
    go_wp2_with fail
    refine (rCanH_calls _ _ _ _ _ _ _ HSD.out).mono ?_
    rintro e w' ⟨rfl, hb'⟩
    go_wp2_with fail
    replace hq := hq.step hb'; clear hb'
    refine ⟨_, fun _ h => h, inC hq, ?_⟩
    refine seg_held _ rfl ?_; go_big_quiet_step (fail); refine wpQuiet_nil ?_ -- 4 binOp
    refine seg_held _ rfl ?_; go_big_quiet_step (fail); refine wpQuiet_nil ?_ -- 5 move
    first | (refine seg_held_off _ rfl (by rfl) ?_; go_frame) | (refine seg_held _ rfl ?_; go_big_quiet_step (fail); refine wpQuiet_nil ?_) -- 7 move
    refine seg_ld _ (.agg (headL c la ln nx hp sd).toArray) 38 (.tmp 2) (.pointer (some ⟨w.heap.size, 0, none⟩)) HRUN.out rfl rfl rfl rfl ?_; go_frame -- 9 load
    first | (refine seg_held_off _ rfl (by rfl) ?_; go_frame) | (refine seg_held _ rfl ?_; go_big_quiet_step (fail); refine wpQuiet_nil ?_) -- 12 move
    first | (refine seg_held_off _ rfl (by rfl) ?_; go_frame) | (refine seg_held _ rfl ?_; go_big_quiet_step (fail); refine wpQuiet_nil ?_) -- 13 convert
    refine seg_ld _ (.agg (headL c la ln nx hp sd).toArray) 38 (.tmp 2) (.pointer (some ⟨w.heap.size, 0, none⟩)) HRUN.out rfl rfl rfl rfl ?_; go_frame -- 14 load
    refine seg_loud _ rfl rfl ?_; intro K hK -- 6 buildSlice
    go_wp2_with fail
    have hq3 := hq.alloc (.cells #[] 5)
    have hoA := Own.made_at (base := w0.heap.size) w' 5 [] #[] rfl rfl rfl (by simp) hq.2
    refine ⟨_, fun _ h => h, inC hq3, ?_⟩
    refine seg_loud _ rfl rfl ?_; intro K hK -- 8 builtin:append
    refine wp_app (.tmp 15) (.tmp 16) 22 rfl 5 i0 Try.underlying22 hi hz0 hz1 hz2 w0.heap.size [] l rfl rfl hoA (HBS.out.below (Nat.le_refl _) hq3.1) (by omega) hq3.2 (fun A4 n4 c4 w4 ho4 hg4 => hK _ _ ?_)
    rw [List.nil_append] at ho4
    have hq4 := hq3.low (below_grown hg4 hoA (Nat.le_refl _) hq3.2)
    have hn4 : n4 ≤ 50 := by rw [ho4.len, ← HLN.out]; exact hkk
    clear hg4 hoA hq3 hq
    refine ⟨_, fun _ h => h, inC hq4, ?_⟩
    go_frame
    refine seg_loud _ rfl rfl ?_; intro K hK -- 10 call harrier/six.Put
    go_wp2_with fail
    refine (PutH_calls w0.heap.size _ _ _ _ _ _ _ _ _ _ _ ho4 hq4.2 (by omega) HSD.out).mono ?_
    rintro e w5 ⟨A5, n5, c5, rfl, ho5, hb5⟩
    have hq5 := hq4.low hb5
    have hbs5 := ho5.bs
    go_wp2_with fail
    refine ⟨fun wq => ∃ u : SBW (w5).heap.size w5, wq = u.w, subC (fun _ h => (hq5).sub (hq5).2 h), inC (SB.refl (Nat.le_refl _)), ?_⟩
    clear hne
    have hne : Nonempty (SBW (w5).heap.size w5) := Cls.ne (SB.refl (Nat.le_refl _))
    clear fb hb5 hq4 ho4 ho5
    have fs5 : ∀ u : SBW (w5).heap.size w5, (convert 22 9 (.slice A5 n5 c5)).run Try.prog u.w = .ok (str (l ++ putH c la ln nx hp sd)) u.w := fun u => run_string (P := Try.prog) 22 5 9 Try.underlying22 Try.underlying5 Try.underlying9 ((hbs5).inS (Nat.le_refl _) u)
    first | (refine seg_held_off _ rfl (by rfl) ?_; go_frame) | (refine seg_held _ rfl ?_; go_big_quiet_step (fail); refine wpQuiet_nil ?_) -- 11 convert
    refine seg_loud _ rfl rfl ?_; intro K hK -- 15 call harrier/harrierref04.Put
    go_wp2_with fail
    refine (rPutH_calls _ _ _ _ _ _ _ HSD.out).mono ?_
    rintro e w6 ⟨A6, n6, c6, rfl, ho6, hb6⟩
    have hq6 := (SB.refl (w0 := w5) (Nat.le_refl _)).step hb6
    have hbs6 := ho6.bs
    go_wp2_with fail
    refine ⟨fun wq => ∃ u : SBW (w6).heap.size w6, wq = u.w, subC (fun _ h => (hq6).sub (hq6).2 h), inC (SB.refl (Nat.le_refl _)), ?_⟩
    clear hne
    have hne : Nonempty (SBW (w6).heap.size w6) := Cls.ne (SB.refl (Nat.le_refl _))
    clear fs5 hb6 ho6
    have fs6 : ∀ u : SBW (w6).heap.size w6, (convert 22 9 (.slice A6 n6 c6)).run Try.prog u.w = .ok (str (putH c la ln nx hp sd)) u.w := fun u => run_string (P := Try.prog) 22 5 9 Try.underlying22 Try.underlying5 Try.underlying9 ((hbs6).inS (Nat.le_refl _) u)
    first | (refine seg_held_off _ rfl (by rfl) ?_; go_frame) | (refine seg_held _ rfl ?_; go_big_quiet_step (fail); refine wpQuiet_nil ?_) -- 16 convert
    first | (refine seg_held_off _ rfl (by rfl) ?_; go_frame) | (refine seg_held _ rfl ?_; go_big_quiet_step (fail); refine wpQuiet_nil ?_) -- 17 binOp
    first | (refine seg_held_off _ rfl (by rfl) ?_; go_frame) | (refine seg_held _ rfl ?_; go_big_quiet_step (fail); refine wpQuiet_nil ?_) -- 18 binOp
    refine seg_held _ rfl ?_; go_big_quiet_step (fail); refine wpQuiet_nil ?_ -- 19 pick
    refine seg_held _ rfl ?_; go_big_quiet_step (fail); refine wpQuiet_nil ?_ -- 20 move
    refine seg_loud _ rfl rfl ?_; intro K hK -- 21 call harrier/harrierlaw04.lives
    go_wp2_with fail
    refine (lives4_calls _).mono ?_
    rintro e w7 ⟨rfl, hb7⟩
    go_wp2_with fail
    refine ⟨_, fun _ h => h, inC ((SB.refl (Nat.le_refl _)).step hb7), ?_⟩
    refine seg_held _ rfl ?_; go_big_quiet_step (fail); refine wpQuiet_nil ?_ -- 22 pick
    refine seg_held _ rfl ?_; go_big_quiet_step (fail); refine wpQuiet_nil ?_ -- 23 assign
    refine seg_nil ?_
    have hbz := below_next (below_next (HBL.out.trans (hq5.1.mono hx0)) (hq6.1.mono (Nat.le_refl _))) hb7
    clear hne fs6
    go_wp2
    go_ret
    exact ⟨rfl, hbz⟩
end Go.Proofs.Ytmenonijbcljdaa
