/- The walks of package six, ninth part: the same changes, in the reference. -/
import Derived.Test.YtmenonijbcljdaaSixh
namespace Go.Proofs.Ytmenonijbcljdaa
open Go.RowKit Go.Mix Go.Bas

set_option maxRecDepth 8000 in
set_option maxHeartbeats 1000000 in
theorem With_calls (A : Option Addr) (k cp : Nat) (l : List UInt8) (c la ln nx hp : Int) (sd : List UInt8) (w : World) (h : Bs w A k cp l) (h40 : 40 ≤ k) (hsz : k ≤ 140737488351232) (hsd : sd.length = 32) :
    Calls Try.prog 105 #[.slice A k cp, .agg (headL c la ln nx hp sd).toArray] w fun e w' => ∃ A' n' c', e = .returned (.slice A' n' c') ∧ Own w' w.heap.size 5 A' n' c' (putH c la ln nx hp sd ++ l.drop 40) ∧ Below w.heap.size w w' := by
  obtain ⟨i0, hi, hz0, hz1, hz2⟩ := info_parts Try.infob
  have hcp_k := (h).cap
  have hms_k := (h).most
  have hle_k : k ≤ (l).length := Nat.le_of_eq (h).len
  have hge_k : (l).length ≤ k := Nat.le_of_eq (h).len.symm
  have hb0 := Blk.new w 38 (headL c la ln nx hp sd)
  have hsl := fun w => run_slice1 (P := Try.prog) 22 5 i0 Try.underlying22 hi hz1 A k cp 40 .i64 40 rfl h40 w
  have hrun : ∀ wx, (∃ u : SBW (w.heap.size + 1) (w.alloc (.cells (headL c la ln nx hp sd).toArray 38)), wx = u.w) → (Instr.loadAt 38 (.pointer (some ⟨w.heap.size, 0, none⟩))).run Try.prog wx = .ok (.agg (headL c la ln nx hp sd).toArray) wx := by
    rintro wx ⟨u, rfl⟩
    exact (hb0.inS (by omega) u).ld_all Try.underlying38 rfl (by rw [headL_len hsd]; kernel_rfl)
  have HRUN := hid hrun
  have HBS := hid (h.alloc (.cells (headL c la ln nx hp sd).toArray 38))
  have HSD := hid hsd
  clear hrun hb0 h hsd
  go_enter Try.func105, Try.ntmps105
  go_wp2_with fail
  have hq := SB.start (B := w.heap.size + 1) (w0 := w.alloc (.cells (headL c la ln nx hp sd).toArray 38)) (by simp)
  have hne : Nonempty (SBW (w.heap.size + 1) (w.alloc (.cells (headL c la ln nx hp sd).toArray 38))) := Cls.ne (SB.refl (by simp))
  refine wp_region_segs (fun wq => ∃ u : SBW (w.heap.size + 1) (w.alloc (.cells (headL c la ln nx hp sd).toArray 38)), wq = u.w) ((0, 0) :: (2, 0) :: (3, 0) :: (1, 1) :: (4, 1) :: (5, 0) :: []) (by kernel_rfl) (by kernel_rfl) (by kernel_rfl) (by kernel_rfl) (inC hq) ?_
  refine seg_ld _ (.agg (headL c la ln nx hp sd).toArray) 38 (.tmp 3) (.pointer (some ⟨w.heap.size, 0, none⟩)) HRUN.out rfl rfl rfl rfl ?_; go_frame -- 0 load
  refine seg_held _ rfl ?_; go_big_quiet_step (fail); refine wpQuiet_nil ?_ -- 2 move
  refine seg_held _ rfl ?_; go_big_quiet_step (fail); refine wpQuiet_nil ?_ -- 3 slice
  refine seg_loud _ rfl rfl ?_; intro K hK -- 1 call harrier/harrierref04.Put
  go_wp2_with fail
  refine (rPutH_calls _ _ _ _ _ _ _ HSD.out).mono ?_
  rintro e w4 ⟨A4, n4, c4, rfl, ho4, hb4⟩
  go_wp2_with fail
  have hq4 := hq.step hb4
  refine ⟨_, fun _ h => h, inC hq4, ?_⟩
  refine seg_loud _ rfl rfl ?_; intro K hK -- 4 builtin:append
  have hbs4 := (HBS.out.below (B := w.heap.size + 1) (by simp) hq4.1).from_ h40
  have hn4 : n4 ≤ 40 := by have := ho4.len; unfold putH at this; split at this <;> simp [encH_len HSD.out] at this <;> omega
  have ho4' : Own w4 (w.heap.size + 1) 5 A4 n4 c4 (putH c la ln nx hp sd) := ho4.mono (by simp)
  refine wp_app (.tmp 6) (.tmp 8) 22 rfl 5 i0 Try.underlying22 hi hz0 hz1 hz2 (w.heap.size + 1) _ _ rfl rfl ho4' hbs4 (by omega) hq4.2 (fun A5 n5 c5 w5 ho5 hg5 => hK _ _ ?_)
  have hb5 := below_grown hg5 ho4' (Nat.le_refl _) hq4.2
  refine ⟨_, fun _ h => h, inC (hq4.low hb5), ?_⟩
  go_frame
  refine seg_held _ rfl ?_; go_big_quiet_step (fail); refine wpQuiet_nil ?_ -- 5 assign
  refine seg_nil ?_
  have hbz := ((Below.refl w.heap.size w).alloc (Nat.le_refl _) (.cells (headL c la ln nx hp sd).toArray 38)).trans ((hq4.low hb5).1.mono (by omega))
  clear hne hsl hg5 hbs4 ho4 hb4 ho4'
  go_wp2
  go_ret
  exact ⟨_, _, _, rfl, ho5.mono (by omega), hbz⟩

set_option maxRecDepth 8000 in
set_option maxHeartbeats 1000000 in
theorem rNearer_calls (A : Option Addr) (k cp : Nat) (l : List UInt8) (w : World) (h : Bs w A k cp l) (hsz : k ≤ 140737488351232) :
    Calls Try.prog 41 #[.slice A k cp] w fun e w' => ∃ A' n' c', e = .returned (.tuple #[.slice A' n' c', .int .i64 (nearE l)]) ∧ Own w' w.heap.size 5 A' n' c' (nearL l) ∧ Below w.heap.size w w' := by
  have hcp_k := (h).cap
  have hms_k := (h).most
  have hle_k : k ≤ (l).length := Nat.le_of_eq (h).len
  have hge_k : (l).length ≤ k := Nat.le_of_eq (h).len.symm
  have HH := hid h
  have HI0 : Hid ((Try.prog.info? 38).map (·.size) = some (headG l).length) := hid (by rw [headG_len]; kernel_rfl)
  have HN1 : Hid (0 + (headG l).length ≤ [Value.int .i64 0, Value.int .i64 0, Value.int .i64 0, Value.int .i64 0, Value.int .i64 0, Value.int .u8 0, Value.int .u8 0, Value.int .u8 0, Value.int .u8 0, Value.int .u8 0, Value.int .u8 0, Value.int .u8 0, Value.int .u8 0, Value.int .u8 0, Value.int .u8 0, Value.int .u8 0, Value.int .u8 0, Value.int .u8 0, Value.int .u8 0, Value.int .u8 0, Value.int .u8 0, Value.int .u8 0, Value.int .u8 0, Value.int .u8 0, Value.int .u8 0, Value.int .u8 0, Value.int .u8 0, Value.int .u8 0, Value.int .u8 0, Value.int .u8 0, Value.int .u8 0, Value.int .u8 0, Value.int .u8 0, Value.int .u8 0, Value.int .u8 0, Value.int .u8 0, Value.int .u8 0].length) := hid (by rw [headG_len]; exact Nat.le_refl _)
  have H1 : Hid (∀ v ∈ headG l, v.oneCell' = true) := hid (by unfold headG; split <;> exact headL_one)
  clear h
  go_enter Try.func41, Try.ntmps41
  go_wp2_with fail
  refine (rGetH_calls _ _ _ l _ HH.out).mono ?_; rintro e w1 ⟨rfl, hb1⟩
  have hz : Blk (w1.alloc (.cells #[Value.int .i64 0, Value.int .i64 0, Value.int .i64 0, Value.int .i64 0, Value.int .i64 0, Value.int .u8 0, Value.int .u8 0, Value.int .u8 0, Value.int .u8 0, Value.int .u8 0, Value.int .u8 0, Value.int .u8 0, Value.int .u8 0, Value.int .u8 0, Value.int .u8 0, Value.int .u8 0, Value.int .u8 0, Value.int .u8 0, Value.int .u8 0, Value.int .u8 0, Value.int .u8 0, Value.int .u8 0, Value.int .u8 0, Value.int .u8 0, Value.int .u8 0, Value.int .u8 0, Value.int .u8 0, Value.int .u8 0, Value.int .u8 0, Value.int .u8 0, Value.int .u8 0, Value.int .u8 0, Value.int .u8 0, Value.int .u8 0, Value.int .u8 0, Value.int .u8 0, Value.int .u8 0] 38)) w1.heap.size 38 [Value.int .i64 0, Value.int .i64 0, Value.int .i64 0, Value.int .i64 0, Value.int .i64 0, Value.int .u8 0, Value.int .u8 0, Value.int .u8 0, Value.int .u8 0, Value.int .u8 0, Value.int .u8 0, Value.int .u8 0, Value.int .u8 0, Value.int .u8 0, Value.int .u8 0, Value.int .u8 0, Value.int .u8 0, Value.int .u8 0, Value.int .u8 0, Value.int .u8 0, Value.int .u8 0, Value.int .u8 0, Value.int .u8 0, Value.int .u8 0, Value.int .u8 0, Value.int .u8 0, Value.int .u8 0, Value.int .u8 0, Value.int .u8 0, Value.int .u8 0, Value.int .u8 0, Value.int .u8 0, Value.int .u8 0, Value.int .u8 0, Value.int .u8 0, Value.int .u8 0, Value.int .u8 0] := Blk.new_at _ _ _ rfl
  have HZ := hid hz
  have HW1 := hid (id hb1)
  clear hz hb1
  go_wp2_with (with_reducible refine Blk.wpList_st rfl 38 (.tmp 4) (.tmp 9) rfl (HZ.out) (g := w1.heap.size) (o := 0) rfl rfl HN1.out HI0.out H1.out ?_; refine stop ?_)
  refine Stop.on ?_
  refine wpl_name ?_; intro w2 hw2
  have hb2 : Blk w2 w1.heap.size 38 (headG l) := by rw [hw2]; exact HZ.out.sets_all (by rw [headG_len]; rfl)
  have hx1 := HW1.out.size
  have hbw2 : Below w.heap.size w w2 := by rw [hw2]; exact below_setCells hx1 _ 0 (HW1.out.alloc hx1 _)
  have HW2 := hid hbw2
  have HB2G := hid hb2
  clear hw2 hb2 hbw2 HZ HW1 HN1 HI0 H1
  by_cases he : errG l = 0
  · have h40 : 40 ≤ k := by have := (errG_zero he).1; omega
    have hb2 := HB2G.out
    rw [headG_eq he] at hb2
    have HE := hid he
    have HSD := hid (sd_len he)
    have hr := rngG (l := l)
    rw [he]
    have hl2 := hb2.lt
    clear he
    have c4 := hb2.cell (j := 4) rfl
    have z4 := hb2.free 4
    obtain ⟨_, _, _, g0, g1⟩ := hr
    have HB2 := hid hb2
    clear hb2
    by_cases k1 : gt l 7 < 2
    · have HR : Hid (nearE l = 13) := hid (by unfold nearE errC nearR; rw [if_pos HE.out, if_pos (by omega)])
      have HL : Hid (nearL l = []) := hid (by unfold nearL outC nearR; rw [if_neg (by rw [if_pos (show gt l 7 ≤ 1 by omega)]; simp)])
      clear HB2
      go_wp2
      go_ret2
      exact ⟨_, _, _, by rw [HR.out]; rfl, by rw [HL.out]; exact Own.nil _ _ _, HW2.out⟩
    · have HE1 : Hid (nearE l = 0) := hid (by unfold nearE errC nearR; rw [if_pos HE.out, if_neg (by omega)])
      have HL1 : Hid (nearL l = putH (clsG l) (labG l) (lenG l) (gt l 6) (gt l 7 - 1) ((l.drop 8).take 32) ++ l.drop 40) := hid (by unfold nearL outC nearR; rw [if_pos ⟨HE.out, if_neg (by omega)⟩])
      have hb3 := HB2.out.set 4 (.int .i64 (gt l 7 - 1))
      have hld := hb3.ld_all (P := Try.prog) Try.underlying38 rfl (by rw [List.length_set, headL_len HSD.out]; kernel_rfl)
      have HLD : Hid ((Instr.loadAt 38 (.pointer (some ⟨w1.heap.size, 0, none⟩))).run Try.prog (w2.setCell ⟨w1.heap.size, 4, none⟩ (.int .i64 (gt l 7 - 1))) = .ok (.agg (headL (clsG l) (labG l) (lenG l) (gt l 6) (gt l 7 - 1) ((l.drop 8).take 32)).toArray) (w2.setCell ⟨w1.heap.size, 4, none⟩ (.int .i64 (gt l 7 - 1)))) := hid hld
      have HW3 := hid (HW2.out.setCell (p := ⟨w1.heap.size, 4, none⟩) hx1 (.int .i64 (gt l 7 - 1)))
      clear hb3 hld HB2
      go_wp2_with (with_reducible refine wpList_ld rfl (.agg (headL (clsG l) (labG l) (lenG l) (gt l 6) (gt l 7 - 1) ((l.drop 8).take 32)).toArray) 38 (.tmp 4) (.pointer (some ⟨w1.heap.size, 0, none⟩)) rfl rfl (HLD.out) ?_; refine stop ?_)
      refine Stop.on ?_
      go_wp2_with fail
      refine (With_calls A k cp l _ _ _ _ _ _ _ (HH.out.step HW3.out) h40 hsz HSD.out).mono ?_; rintro e w4 ⟨A4, n4, c4, rfl, ho4, hb4⟩
      have hx3 := HW3.out.size
      have hb5 := below_next HW3.out hb4
      clear hb4
      go_wp2
      go_ret2
      exact ⟨_, _, _, by rw [HE1.out]; rfl, by rw [HL1.out]; exact ho4.mono hx3, hb5⟩
  · have hne : (errG l != 0) = true := by simpa using he
    have HR : Hid (nearE l = errG l) := hid (if_neg he)
    have HL : Hid (nearL l = []) := hid (if_neg (fun h => he h.1))
    generalize hg : errG l = eg at *
    clear hg he
    go_wp2
    go_ret2
    exact ⟨_, _, _, by rw [HR.out]; rfl, by rw [HL.out]; exact Own.nil _ _ _, HW2.out⟩

set_option maxRecDepth 8000 in
set_option maxHeartbeats 1000000 in
theorem rSized_calls (A : Option Addr) (k cp : Nat) (l : List UInt8) (w : World) (h : Bs w A k cp l) (hsz : k ≤ 140737488351232) :
    Calls Try.prog 45 #[.slice A k cp] w fun e w' => ∃ A' n' c', e = .returned (.tuple #[.slice A' n' c', .int .i64 (sizE l)]) ∧ Own w' w.heap.size 5 A' n' c' (sizL l) ∧ Below w.heap.size w w' := by
  have hcp_k := (h).cap
  have hms_k := (h).most
  have hle_k : k ≤ (l).length := Nat.le_of_eq (h).len
  have hge_k : (l).length ≤ k := Nat.le_of_eq (h).len.symm
  have HH := hid h
  have HI0 : Hid ((Try.prog.info? 38).map (·.size) = some (headG l).length) := hid (by rw [headG_len]; kernel_rfl)
  have HN1 : Hid (0 + (headG l).length ≤ [Value.int .i64 0, Value.int .i64 0, Value.int .i64 0, Value.int .i64 0, Value.int .i64 0, Value.int .u8 0, Value.int .u8 0, Value.int .u8 0, Value.int .u8 0, Value.int .u8 0, Value.int .u8 0, Value.int .u8 0, Value.int .u8 0, Value.int .u8 0, Value.int .u8 0, Value.int .u8 0, Value.int .u8 0, Value.int .u8 0, Value.int .u8 0, Value.int .u8 0, Value.int .u8 0, Value.int .u8 0, Value.int .u8 0, Value.int .u8 0, Value.int .u8 0, Value.int .u8 0, Value.int .u8 0, Value.int .u8 0, Value.int .u8 0, Value.int .u8 0, Value.int .u8 0, Value.int .u8 0, Value.int .u8 0, Value.int .u8 0, Value.int .u8 0, Value.int .u8 0, Value.int .u8 0].length) := hid (by rw [headG_len]; exact Nat.le_refl _)
  have H1 : Hid (∀ v ∈ headG l, v.oneCell' = true) := hid (by unfold headG; split <;> exact headL_one)
  clear h
  go_enter Try.func45, Try.ntmps45
  go_wp2_with fail
  refine (rGetH_calls _ _ _ l _ HH.out).mono ?_; rintro e w1 ⟨rfl, hb1⟩
  have hz : Blk (w1.alloc (.cells #[Value.int .i64 0, Value.int .i64 0, Value.int .i64 0, Value.int .i64 0, Value.int .i64 0, Value.int .u8 0, Value.int .u8 0, Value.int .u8 0, Value.int .u8 0, Value.int .u8 0, Value.int .u8 0, Value.int .u8 0, Value.int .u8 0, Value.int .u8 0, Value.int .u8 0, Value.int .u8 0, Value.int .u8 0, Value.int .u8 0, Value.int .u8 0, Value.int .u8 0, Value.int .u8 0, Value.int .u8 0, Value.int .u8 0, Value.int .u8 0, Value.int .u8 0, Value.int .u8 0, Value.int .u8 0, Value.int .u8 0, Value.int .u8 0, Value.int .u8 0, Value.int .u8 0, Value.int .u8 0, Value.int .u8 0, Value.int .u8 0, Value.int .u8 0, Value.int .u8 0, Value.int .u8 0] 38)) w1.heap.size 38 [Value.int .i64 0, Value.int .i64 0, Value.int .i64 0, Value.int .i64 0, Value.int .i64 0, Value.int .u8 0, Value.int .u8 0, Value.int .u8 0, Value.int .u8 0, Value.int .u8 0, Value.int .u8 0, Value.int .u8 0, Value.int .u8 0, Value.int .u8 0, Value.int .u8 0, Value.int .u8 0, Value.int .u8 0, Value.int .u8 0, Value.int .u8 0, Value.int .u8 0, Value.int .u8 0, Value.int .u8 0, Value.int .u8 0, Value.int .u8 0, Value.int .u8 0, Value.int .u8 0, Value.int .u8 0, Value.int .u8 0, Value.int .u8 0, Value.int .u8 0, Value.int .u8 0, Value.int .u8 0, Value.int .u8 0, Value.int .u8 0, Value.int .u8 0, Value.int .u8 0, Value.int .u8 0] := Blk.new_at _ _ _ rfl
  have HZ := hid hz
  have HW1 := hid (id hb1)
  clear hz hb1
  go_wp2_with (with_reducible refine Blk.wpList_st rfl 38 (.tmp 4) (.tmp 9) rfl (HZ.out) (g := w1.heap.size) (o := 0) rfl rfl HN1.out HI0.out H1.out ?_; refine stop ?_)
  refine Stop.on ?_
  refine wpl_name ?_; intro w2 hw2
  have hb2 : Blk w2 w1.heap.size 38 (headG l) := by rw [hw2]; exact HZ.out.sets_all (by rw [headG_len]; rfl)
  have hx1 := HW1.out.size
  have hbw2 : Below w.heap.size w w2 := by rw [hw2]; exact below_setCells hx1 _ 0 (HW1.out.alloc hx1 _)
  have HW2 := hid hbw2
  have HB2G := hid hb2
  clear hw2 hb2 hbw2 HZ HW1 HN1 HI0 H1
  by_cases he : errG l = 0
  · have h40 : 40 ≤ k := by have := (errG_zero he).1; omega
    have hb2 := HB2G.out
    rw [headG_eq he] at hb2
    have HE := hid he
    have HSD := hid (sd_len he)
    have hr := rngG (l := l)
    rw [he]
    have hl2 := hb2.lt
    clear he
    have c2 := hb2.cell (j := 2) rfl
    have z2 := hb2.free 2
    have HB2 := hid hb2
    clear hb2 hr
    have hkl : (l.length : Int) = k := by omega
    by_cases k1 : 65535 < (k : Int) - 40
    · have HR : Hid (sizE l = 4) := hid (by unfold sizE errC sizR; rw [if_pos HE.out, if_pos (by omega)])
      have HL : Hid (sizL l = []) := hid (by unfold sizL outC sizR; rw [if_neg (by rw [if_pos (show 65535 < (l.length : Int) - 40 by omega)]; simp)])
      clear HB2 hkl
      go_wp2
      go_ret2
      exact ⟨_, _, _, by rw [HR.out]; rfl, by rw [HL.out]; exact Own.nil _ _ _, HW2.out.setCell hx1 _⟩
    · have HE1 : Hid (sizE l = 0) := hid (by unfold sizE errC sizR; rw [if_pos HE.out, if_neg (by omega)])
      have HL1 : Hid (sizL l = putH (clsG l) (labG l) ((k : Int) - 40) (gt l 6) (gt l 7) ((l.drop 8).take 32) ++ l.drop 40) := hid (by unfold sizL outC sizR; rw [if_pos ⟨HE.out, if_neg (by omega)⟩, hkl])
      have hb3 := HB2.out.set 2 (.int .i64 ((k : Int) - 40))
      have hld := hb3.ld_all (P := Try.prog) Try.underlying38 rfl (by rw [List.length_set, headL_len HSD.out]; kernel_rfl)
      have HLD : Hid ((Instr.loadAt 38 (.pointer (some ⟨w1.heap.size, 0, none⟩))).run Try.prog (w2.setCell ⟨w1.heap.size, 2, none⟩ (.int .i64 ((k : Int) - 40))) = .ok (.agg (headL (clsG l) (labG l) ((k : Int) - 40) (gt l 6) (gt l 7) ((l.drop 8).take 32)).toArray) (w2.setCell ⟨w1.heap.size, 2, none⟩ (.int .i64 ((k : Int) - 40)))) := hid hld
      have HW3 := hid (HW2.out.setCell (p := ⟨w1.heap.size, 2, none⟩) hx1 (.int .i64 ((k : Int) - 40)))
      clear hb3 hld HB2 hkl
      go_wp2_with (with_reducible refine wpList_ld rfl (.agg (headL (clsG l) (labG l) ((k : Int) - 40) (gt l 6) (gt l 7) ((l.drop 8).take 32)).toArray) 38 (.tmp 4) (.pointer (some ⟨w1.heap.size, 0, none⟩)) rfl rfl (HLD.out) ?_; refine stop ?_)
      refine Stop.on ?_
      go_wp2_with fail
      refine (With_calls A k cp l _ _ _ _ _ _ _ (HH.out.step HW3.out) h40 hsz HSD.out).mono ?_; rintro e w4 ⟨A4, n4, c4, rfl, ho4, hb4⟩
      have hx3 := HW3.out.size
      have hb5 := below_next HW3.out hb4
      clear hb4
      go_wp2
      go_ret2
      exact ⟨_, _, _, by rw [HE1.out]; rfl, by rw [HL1.out]; exact ho4.mono hx3, hb5⟩
  · have hne : (errG l != 0) = true := by simpa using he
    have HR : Hid (sizE l = errG l) := hid (if_neg he)
    have HL : Hid (sizL l = []) := hid (if_neg (fun h => he h.1))
    generalize hg : errG l = eg at *
    clear hg he
    go_wp2
    go_ret2
    exact ⟨_, _, _, by rw [HR.out]; rfl, by rw [HL.out]; exact Own.nil _ _ _, HW2.out⟩

set_option maxRecDepth 8000 in
set_option maxHeartbeats 1000000 in
theorem rTo_calls (A : Option Addr) (k cp : Nat) (l d : List UInt8) (w : World) (h : Bs w A k cp l) (hsz : k ≤ 140737488351232) (hdl : d.length = 16) :
    Calls Try.prog 43 #[.slice A k cp, .agg (d.map bv).toArray] w fun e w' => ∃ A' n' c', e = .returned (.tuple #[.slice A' n' c', .int .i64 (toE l)]) ∧ Own w' w.heap.size 5 A' n' c' (toL l d) ∧ Below w.heap.size w w' := by
  have hd := Blk.new w 36 (d.map bv)
  have HD := hid hd
  clear hd
  have hcp_k := (h).cap
  have hms_k := (h).most
  have hle_k : k ≤ (l).length := Nat.le_of_eq (h).len
  have hge_k : (l).length ≤ k := Nat.le_of_eq (h).len.symm
  have HH := hid h
  have HI0 : Hid ((Try.prog.info? 38).map (·.size) = some (headG l).length) := hid (by rw [headG_len]; kernel_rfl)
  have HN1 : Hid (0 + (headG l).length ≤ [Value.int .i64 0, Value.int .i64 0, Value.int .i64 0, Value.int .i64 0, Value.int .i64 0, Value.int .u8 0, Value.int .u8 0, Value.int .u8 0, Value.int .u8 0, Value.int .u8 0, Value.int .u8 0, Value.int .u8 0, Value.int .u8 0, Value.int .u8 0, Value.int .u8 0, Value.int .u8 0, Value.int .u8 0, Value.int .u8 0, Value.int .u8 0, Value.int .u8 0, Value.int .u8 0, Value.int .u8 0, Value.int .u8 0, Value.int .u8 0, Value.int .u8 0, Value.int .u8 0, Value.int .u8 0, Value.int .u8 0, Value.int .u8 0, Value.int .u8 0, Value.int .u8 0, Value.int .u8 0, Value.int .u8 0, Value.int .u8 0, Value.int .u8 0, Value.int .u8 0, Value.int .u8 0].length) := hid (by rw [headG_len]; exact Nat.le_refl _)
  have H1 : Hid (∀ v ∈ headG l, v.oneCell' = true) := hid (by unfold headG; split <;> exact headL_one)
  clear h
  go_enter Try.func43, Try.ntmps43
  go_wp2_with fail
  refine (rGetH_calls _ _ _ l _ (HH.out.alloc _)).mono ?_; rintro e w1 ⟨rfl, hb1⟩
  have hz : Blk (w1.alloc (.cells #[Value.int .i64 0, Value.int .i64 0, Value.int .i64 0, Value.int .i64 0, Value.int .i64 0, Value.int .u8 0, Value.int .u8 0, Value.int .u8 0, Value.int .u8 0, Value.int .u8 0, Value.int .u8 0, Value.int .u8 0, Value.int .u8 0, Value.int .u8 0, Value.int .u8 0, Value.int .u8 0, Value.int .u8 0, Value.int .u8 0, Value.int .u8 0, Value.int .u8 0, Value.int .u8 0, Value.int .u8 0, Value.int .u8 0, Value.int .u8 0, Value.int .u8 0, Value.int .u8 0, Value.int .u8 0, Value.int .u8 0, Value.int .u8 0, Value.int .u8 0, Value.int .u8 0, Value.int .u8 0, Value.int .u8 0, Value.int .u8 0, Value.int .u8 0, Value.int .u8 0, Value.int .u8 0] 38)) w1.heap.size 38 [Value.int .i64 0, Value.int .i64 0, Value.int .i64 0, Value.int .i64 0, Value.int .i64 0, Value.int .u8 0, Value.int .u8 0, Value.int .u8 0, Value.int .u8 0, Value.int .u8 0, Value.int .u8 0, Value.int .u8 0, Value.int .u8 0, Value.int .u8 0, Value.int .u8 0, Value.int .u8 0, Value.int .u8 0, Value.int .u8 0, Value.int .u8 0, Value.int .u8 0, Value.int .u8 0, Value.int .u8 0, Value.int .u8 0, Value.int .u8 0, Value.int .u8 0, Value.int .u8 0, Value.int .u8 0, Value.int .u8 0, Value.int .u8 0, Value.int .u8 0, Value.int .u8 0, Value.int .u8 0, Value.int .u8 0, Value.int .u8 0, Value.int .u8 0, Value.int .u8 0, Value.int .u8 0] := Blk.new_at _ _ _ rfl
  have HZ := hid hz
  have HWD := hid ((Below.refl (w.heap.size + 1) (w.alloc (.cells (d.map bv).toArray 36))).trans (hb1.mono (by simp)))
  have hg1 : w.heap.size + 1 ≤ w1.heap.size := by have := hb1.size; simpa using this
  have HW1 := hid (below_next ((Below.refl w.heap.size w).alloc (Nat.le_refl _) (.cells (d.map bv).toArray 36)) hb1)
  clear hz hb1
  go_wp2_with (with_reducible refine Blk.wpList_st rfl 38 (.tmp 6) (.tmp 11) rfl (HZ.out) (g := w1.heap.size) (o := 0) rfl rfl HN1.out HI0.out H1.out ?_; refine stop ?_)
  refine Stop.on ?_
  refine wpl_name ?_; intro w2 hw2
  have hb2 : Blk w2 w1.heap.size 38 (headG l) := by rw [hw2]; exact HZ.out.sets_all (by rw [headG_len]; rfl)
  have hx1 := HW1.out.size
  have hbw2 : Below w.heap.size w w2 := by rw [hw2]; exact below_setCells hx1 _ 0 (HW1.out.alloc hx1 _)
  have HW2 := hid hbw2
  have HWD2 : Hid (Below (w.heap.size + 1) (w.alloc (.cells (d.map bv).toArray 36)) w2) := hid (by rw [hw2]; exact below_setCells hg1 _ 0 (HWD.out.alloc hg1 _))
  have HB2G := hid hb2
  clear hw2 hb2 hbw2 HZ HW1 HN1 HI0 H1
  by_cases he : errG l = 0
  · have h40 : 40 ≤ k := by have := (errG_zero he).1; omega
    have hb2 := HB2G.out
    rw [headG_eq he] at hb2
    have HE := hid he
    have HSD := hid (sd_len he)
    have hr := rngG (l := l)
    rw [he]
    have hl2 := hb2.lt
    clear he
    have hdst : Blk w2 w.heap.size 36 (d.map bv) := HD.out.below (B := w.heap.size + 1) (by omega) HWD2.out
    have HI1 : Hid ((Try.prog.info? 36).map (·.size) = some (d.map bv).length) := hid (by rw [List.length_map, hdl]; kernel_rfl)
    have hld := hdst.ld_all (P := Try.prog) Try.underlying36 rfl HI1.out
    have HLDD := hid hld
    have HN2 : Hid (21 + (d.map bv).length ≤ (headL (clsG l) (labG l) (lenG l) (gt l 6) (gt l 7) ((l.drop 8).take 32)).length) := hid (by rw [List.length_map, hdl, headL_len HSD.out]; omega)
    have HE1 : Hid (toE l = 0) := hid (if_pos HE.out)
    have HL1 : Hid (toL l d = putH (clsG l) (labG l) (lenG l) (gt l 6) (gt l 7) ((l.drop 8).take 16 ++ d) ++ l.drop 40) := hid (if_pos ⟨HE.out, rfl⟩)
    have HB2 := hid hb2
    have hsd2 : ((l.drop 8).take 16 ++ d).length = 32 := by have := HSD.out; simp at this ⊢; omega
    have HSD2 := hid hsd2
    clear hb2 hr hdst hld hsd2
    go_wp2_with (with_reducible refine wpList_ld rfl (.agg (d.map bv).toArray) 36 (.tmp 3) (.pointer (some ⟨w.heap.size, 0, none⟩)) rfl rfl (HLDD.out) ?_; refine stop ?_)
    refine Stop.on ?_
    go_wp2_with (with_reducible refine Blk.wpList_st rfl 36 (.tmp 17) (.tmp 16) rfl (HB2.out) (g := w1.heap.size) (o := 21) rfl rfl HN2.out HI1.out (bv_one d) ?_; refine stop ?_)
    refine Stop.on ?_
    refine wpl_name ?_; intro w3 hw3
    have hb3 : Blk w3 w1.heap.size 38 (headL (clsG l) (labG l) (lenG l) (gt l 6) (gt l 7) ((l.drop 8).take 16 ++ d)) := by
      rw [hw3]
      have := HB2.out.sets (d.map bv) 21 HN2.out
      rw [List.length_map] at this
      have e := headL_sets (c := clsG l) (la := labG l) (ln := lenG l) (nx := gt l 6) (hp := gt l 7) (sd := (l.drop 8).take 32) (l := d) (i := 16)
      rw [show 21 = 5 + 16 from rfl, e, show ((l.drop 8).take 32).drop (16 + d.length) = [] from List.drop_eq_nil_of_le (by rw [HSD.out, hdl]; omega), List.append_nil, List.take_take] at this
      exact this
    have hw3' : Below w.heap.size w w3 := by rw [hw3]; exact below_setCells hx1 _ 21 HW2.out
    have hld := hb3.ld_all (P := Try.prog) Try.underlying38 rfl (by rw [headL_len HSD2.out]; kernel_rfl)
    have HLD := hid hld
    have HW3 := hid hw3'
    clear hw3 hb3 hw3' hld HLDD HB2
    go_wp2_with (with_reducible refine wpList_ld rfl (.agg (headL (clsG l) (labG l) (lenG l) (gt l 6) (gt l 7) ((l.drop 8).take 16 ++ d)).toArray) 38 (.tmp 6) (.pointer (some ⟨w1.heap.size, 0, none⟩)) rfl rfl (HLD.out) ?_; refine stop ?_)
    refine Stop.on ?_
    go_wp2_with fail
    refine (With_calls A k cp l _ _ _ _ _ _ _ (HH.out.step HW3.out) h40 hsz HSD2.out).mono ?_; rintro e w4 ⟨A4, n4, c4, rfl, ho4, hb4⟩
    have hx3 := HW3.out.size
    have hb5 := below_next HW3.out hb4
    clear hb4
    go_wp2
    go_ret2
    exact ⟨_, _, _, by rw [HE1.out]; rfl, by rw [HL1.out]; exact ho4.mono hx3, hb5⟩
  · have hne : (errG l != 0) = true := by simpa using he
    have HR : Hid (toE l = errG l) := hid (if_neg he)
    have HL : Hid (toL l d = []) := hid (if_neg (fun h => he h.1))
    generalize hg : errG l = eg at *
    clear hg he
    go_wp2
    go_ret2
    exact ⟨_, _, _, by rw [HR.out]; rfl, by rw [HL.out]; exact Own.nil _ _ _, HW2.out⟩
end Go.Proofs.Ytmenonijbcljdaa
