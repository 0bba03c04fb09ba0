/- The walks of package six, sixth part: the header that bytes begin with, in the reference. -/
import Derived.Test.YtmenonijbcljdaaSixe
namespace Go.Proofs.Ytmenonijbcljdaa
open Go.RowKit Go.Mix Go.Bas

def sdj (l : List UInt8) (j : Nat) : List UInt8 := (List.range 32).map fun i => if i % 16 < j then l.getD (8 + i) 0 else 0
theorem sdj_len (l : List UInt8) (j : Nat) : (sdj l j).length = 32 := by simp [sdj]
theorem sdj_zero (l : List UInt8) : sdj l 0 = List.replicate 32 0 := by
  apply List.ext_getElem
  · simp [sdj]
  · intro i h1 h2
    simp only [sdj, List.getElem_map, List.getElem_range, List.getElem_replicate]
    rw [if_neg (by omega)]
theorem sdj_full {l : List UInt8} (h : 40 ≤ l.length) : sdj l 16 = (l.drop 8).take 32 := by
  apply List.ext_getElem
  · rw [sdj_len]; simp; omega
  · intro i h1 h2
    rw [sdj_len] at h1
    simp only [sdj, List.getElem_map, List.getElem_range, List.getElem_take, List.getElem_drop]
    rw [if_pos (Nat.mod_lt _ (by omega)), List.getD_eq_getElem?_getD, List.getElem?_eq_getElem (by omega)]
    rfl
theorem sdj_step {l : List UInt8} {j : Nat} (hj : j < 16) : ((sdj l j).set j (l.getD (8 + j) 0)).set (16 + j) (l.getD (24 + j) 0) = sdj l (j + 1) := by
  apply List.ext_getElem
  · simp [sdj]
  · intro i h1 h2
    rw [sdj_len] at h2
    simp only [List.getElem_set, sdj, List.getElem_map, List.getElem_range]
    by_cases e1 : 16 + j = i
    · subst e1
      rw [if_pos rfl, if_pos (by omega)]
      congr 1
      omega
    · rw [if_neg e1]
      by_cases e2 : j = i
      · subst e2
        rw [if_pos rfl, if_pos (by omega)]
      · rw [if_neg e2]
        by_cases e3 : i % 16 < j
        · rw [if_pos e3, if_pos (by omega)]
        · rw [if_neg e3, if_neg (by omega)]
theorem headL_set {c la ln nx hp : Int} {sd : List UInt8} {i : Nat} (x : UInt8) : (headL c la ln nx hp sd).set (5 + i) (bv x) = headL c la ln nx hp (sd.set i x) := by
  have e : 5 + i = i + 5 := by omega
  unfold headL
  rw [e]
  simp only [List.set_cons_succ, List.map_set]
theorem headL_at {c la ln nx hp : Int} {sd : List UInt8} {i : Nat} (h : i < sd.length) : (headL c la ln nx hp sd)[5 + i]? = some (.int .u8 (gt sd i)) := by
  have e : 5 + i = i + 5 := by omega
  unfold headL
  rw [e]
  simp only [List.getElem?_cons_succ]
  exact bv_getElem? h

theorem Try.res_rGet : Try.f39.results = #[.cell 2 38, .tmp 3] := rfl
set_option maxRecDepth 8000 in
set_option maxHeartbeats 2000000 in
theorem rGetH_calls (A : Option Addr) (k cp : Nat) (l : List UInt8) (w : World) (h : Bs w A k cp l) :
    Calls Try.prog 39 #[.slice A k cp] w fun e w' => e = .returned (.tuple #[.agg (headG l).toArray, .int .i64 (errG l)]) ∧ Below w.heap.size w w' := by
  obtain ⟨i0, hi, hz0, hz1, hz2⟩ := info_parts Try.infob
  have hcp_k := (h).cap
  have hms_k := (h).most
  have hle_k : k ≤ (l).length := Nat.le_of_eq (h).len
  have hge_k : (l).length ≤ k := Nat.le_of_eq (h).len.symm
  have hz : Blk (w.alloc (.cells #[Value.int .i64 0, Value.int .i64 0, Value.int .i64 0, Value.int .i64 0, Value.int .i64 0, Value.int .u8 0, Value.int .u8 0, Value.int .u8 0, Value.int .u8 0, Value.int .u8 0, Value.int .u8 0, Value.int .u8 0, Value.int .u8 0, Value.int .u8 0, Value.int .u8 0, Value.int .u8 0, Value.int .u8 0, Value.int .u8 0, Value.int .u8 0, Value.int .u8 0, Value.int .u8 0, Value.int .u8 0, Value.int .u8 0, Value.int .u8 0, Value.int .u8 0, Value.int .u8 0, Value.int .u8 0, Value.int .u8 0, Value.int .u8 0, Value.int .u8 0, Value.int .u8 0, Value.int .u8 0, Value.int .u8 0, Value.int .u8 0, Value.int .u8 0, Value.int .u8 0, Value.int .u8 0] 38)) w.heap.size 38 [Value.int .i64 0, Value.int .i64 0, Value.int .i64 0, Value.int .i64 0, Value.int .i64 0, Value.int .u8 0, Value.int .u8 0, Value.int .u8 0, Value.int .u8 0, Value.int .u8 0, Value.int .u8 0, Value.int .u8 0, Value.int .u8 0, Value.int .u8 0, Value.int .u8 0, Value.int .u8 0, Value.int .u8 0, Value.int .u8 0, Value.int .u8 0, Value.int .u8 0, Value.int .u8 0, Value.int .u8 0, Value.int .u8 0, Value.int .u8 0, Value.int .u8 0, Value.int .u8 0, Value.int .u8 0, Value.int .u8 0, Value.int .u8 0, Value.int .u8 0, Value.int .u8 0, Value.int .u8 0, Value.int .u8 0, Value.int .u8 0, Value.int .u8 0, Value.int .u8 0, Value.int .u8 0] := Blk.new_at _ _ _ rfl
  have HZ := hid hz
  have hi0 : (Try.prog.info? 38).map (·.size) = some 37 := by kernel_rfl
  have HI0 := hid hi0
  have HN1 : Hid (0 + [Value.int .i64 0, Value.int .i64 0, Value.int .i64 0, Value.int .i64 0, Value.int .i64 0, Value.int .u8 0, Value.int .u8 0, Value.int .u8 0, Value.int .u8 0, Value.int .u8 0, Value.int .u8 0, Value.int .u8 0, Value.int .u8 0, Value.int .u8 0, Value.int .u8 0, Value.int .u8 0, Value.int .u8 0, Value.int .u8 0, Value.int .u8 0, Value.int .u8 0, Value.int .u8 0, Value.int .u8 0, Value.int .u8 0, Value.int .u8 0, Value.int .u8 0, Value.int .u8 0, Value.int .u8 0, Value.int .u8 0, Value.int .u8 0, Value.int .u8 0, Value.int .u8 0, Value.int .u8 0, Value.int .u8 0, Value.int .u8 0, Value.int .u8 0, Value.int .u8 0, Value.int .u8 0].length ≤ [Value.int .i64 0, Value.int .i64 0, Value.int .i64 0, Value.int .i64 0, Value.int .i64 0, Value.int .u8 0, Value.int .u8 0, Value.int .u8 0, Value.int .u8 0, Value.int .u8 0, Value.int .u8 0, Value.int .u8 0, Value.int .u8 0, Value.int .u8 0, Value.int .u8 0, Value.int .u8 0, Value.int .u8 0, Value.int .u8 0, Value.int .u8 0, Value.int .u8 0, Value.int .u8 0, Value.int .u8 0, Value.int .u8 0, Value.int .u8 0, Value.int .u8 0, Value.int .u8 0, Value.int .u8 0, Value.int .u8 0, Value.int .u8 0, Value.int .u8 0, Value.int .u8 0, Value.int .u8 0, Value.int .u8 0, Value.int .u8 0, Value.int .u8 0, Value.int .u8 0, Value.int .u8 0].length) := hid (Nat.le_refl _)
  have HI1 : Hid ((Try.prog.info? 38).map (·.size) = some [Value.int .i64 0, Value.int .i64 0, Value.int .i64 0, Value.int .i64 0, Value.int .i64 0, Value.int .u8 0, Value.int .u8 0, Value.int .u8 0, Value.int .u8 0, Value.int .u8 0, Value.int .u8 0, Value.int .u8 0, Value.int .u8 0, Value.int .u8 0, Value.int .u8 0, Value.int .u8 0, Value.int .u8 0, Value.int .u8 0, Value.int .u8 0, Value.int .u8 0, Value.int .u8 0, Value.int .u8 0, Value.int .u8 0, Value.int .u8 0, Value.int .u8 0, Value.int .u8 0, Value.int .u8 0, Value.int .u8 0, Value.int .u8 0, Value.int .u8 0, Value.int .u8 0, Value.int .u8 0, Value.int .u8 0, Value.int .u8 0, Value.int .u8 0, Value.int .u8 0, Value.int .u8 0].length) := hid hi0
  have hw0 := (Below.refl w.heap.size w).alloc (Nat.le_refl _) (.cells #[Value.int .i64 0, Value.int .i64 0, Value.int .i64 0, Value.int .i64 0, Value.int .i64 0, Value.int .u8 0, Value.int .u8 0, Value.int .u8 0, Value.int .u8 0, Value.int .u8 0, Value.int .u8 0, Value.int .u8 0, Value.int .u8 0, Value.int .u8 0, Value.int .u8 0, Value.int .u8 0, Value.int .u8 0, Value.int .u8 0, Value.int .u8 0, Value.int .u8 0, Value.int .u8 0, Value.int .u8 0, Value.int .u8 0, Value.int .u8 0, Value.int .u8 0, Value.int .u8 0, Value.int .u8 0, Value.int .u8 0, Value.int .u8 0, Value.int .u8 0, Value.int .u8 0, Value.int .u8 0, Value.int .u8 0, Value.int .u8 0, Value.int .u8 0, Value.int .u8 0, Value.int .u8 0] 38)
  have HW0 := hid hw0
  clear hz hi0 hw0
  by_cases hs : k < 40
  · have he : errG l = 3 := by unfold errG; rw [if_pos (by omega)]
    have hg : headG l = head0 := by unfold headG; rw [if_neg (by rw [he]; decide)]
    have hs' : (k : Int) < 40 := by omega
    have HE := hid he
    have HG := hid hg
    clear he hg h
    go_enter Try.func39, Try.ntmps39
    go_wp2_with (with_reducible refine Blk.wpList_st rfl 38 (.tmp 2) (.tmp 9) rfl (HZ.out) (g := w.heap.size) (o := 0) rfl rfl HN1.out HI1.out head0_one ?_; refine stop ?_)
    refine Stop.on ?_
    refine wpl_name ?_; intro w2 hw2
    have hb2 : Blk w2 w.heap.size 38 head0 := by rw [hw2, head0_lit]; exact HZ.out.sets_all rfl
    have hbw2 : Below w.heap.size w w2 := by rw [hw2]; exact below_setCells (Nat.le_refl _) _ 0 HW0.out
    have HB2 := hid hb2
    have HW2 := hid hbw2
    clear hb2 hbw2 hw2
    go_wp2_with fail
    refine bodyPost_ret (v := .tuple #[.agg head0.toArray, .int .i64 3]) ?_ rfl ⟨by rw [HE.out, HG.out], HW2.out⟩
    exact res_cell2 Try.res_rGet rfl HB2.out Try.underlying38 rfl HI0.out rfl
  · have hs' : ¬ (k : Int) < 40 := by omega
    obtain ⟨b, off, rfl, hb, hc⟩ := h.at_ (by omega)
    have HH := hid h
    have HC := hid hc
    clear hc
    have x0 := HC.out 0 (by omega)
    rw [Nat.add_zero] at x0
    have y0 := gt_lo l 0
    have y0' := gt_hi l 0
    by_cases hf : gt l 0 / 16 = 6
    · have he : errG l = 0 := by unfold errG; rw [if_neg (by omega), if_neg (by omega)]
      have hg : headG l = headL (clsG l) (labG l) (lenG l) (gt l 6) (gt l 7) ((l.drop 8).take 32) := by unfold headG; rw [if_pos he]
      have hf' : (gt l 0 / 16 != 6) = false := by rw [hf]; rfl
      have HE := hid he
      have HG := hid hg
      have HCL : Hid (clsG l = gt l 0 % 16 * 16 + gt l 1 / 16) := hid rfl
      have HLA : Hid (labG l = gt l 1 % 16 * 65536 + gt l 2 * 256 + gt l 3) := hid rfl
      have HLN : Hid (lenG l = gt l 4 * 256 + gt l 5) := hid rfl
      have x1 := HC.out 1 (by omega); have x2 := HC.out 2 (by omega); have x3 := HC.out 3 (by omega); have x4 := HC.out 4 (by omega)
      have x5 := HC.out 5 (by omega); have x6 := HC.out 6 (by omega); have x7 := HC.out 7 (by omega)
      have y1 := gt_lo l 1; have y1' := gt_hi l 1; have y2 := gt_lo l 2; have y2' := gt_hi l 2; have y3 := gt_lo l 3; have y3' := gt_hi l 3; have y4 := gt_lo l 4; have y4' := gt_hi l 4
      have y5 := gt_lo l 5; have y5' := gt_hi l 5; have y6 := gt_lo l 6; have y6' := gt_hi l 6; have y7 := gt_lo l 7; have y7' := gt_hi l 7
      clear he hg hf
      go_enter Try.func39, Try.ntmps39
      go_wp2_with fail
      refine wp_name ?_; intro w1 hw1
      have hbl1 : Blk w1 w.heap.size 38 head0 := by rw [hw1, head0_lit]; exact HZ.out
      have hbw1 : Below w.heap.size w w1 := by rw [hw1]; exact HW0.out
      have hs1 := hbl1.lt
      have hx := hbw1.size
      have hbn : Blk (w1.alloc (.cells #[Value.int .i64 0, Value.int .i64 0, Value.int .i64 0, Value.int .i64 0, Value.int .i64 0, Value.int .u8 0, Value.int .u8 0, Value.int .u8 0, Value.int .u8 0, Value.int .u8 0, Value.int .u8 0, Value.int .u8 0, Value.int .u8 0, Value.int .u8 0, Value.int .u8 0, Value.int .u8 0, Value.int .u8 0, Value.int .u8 0, Value.int .u8 0, Value.int .u8 0, Value.int .u8 0, Value.int .u8 0, Value.int .u8 0, Value.int .u8 0, Value.int .u8 0, Value.int .u8 0, Value.int .u8 0, Value.int .u8 0, Value.int .u8 0, Value.int .u8 0, Value.int .u8 0, Value.int .u8 0, Value.int .u8 0, Value.int .u8 0, Value.int .u8 0, Value.int .u8 0, Value.int .u8 0] 38)).drew w1.heap.size 38 [Value.int .i64 0, Value.int .i64 0, Value.int .i64 0, Value.int .i64 0, Value.int .i64 0, Value.int .u8 0, Value.int .u8 0, Value.int .u8 0, Value.int .u8 0, Value.int .u8 0, Value.int .u8 0, Value.int .u8 0, Value.int .u8 0, Value.int .u8 0, Value.int .u8 0, Value.int .u8 0, Value.int .u8 0, Value.int .u8 0, Value.int .u8 0, Value.int .u8 0, Value.int .u8 0, Value.int .u8 0, Value.int .u8 0, Value.int .u8 0, Value.int .u8 0, Value.int .u8 0, Value.int .u8 0, Value.int .u8 0, Value.int .u8 0, Value.int .u8 0, Value.int .u8 0, Value.int .u8 0, Value.int .u8 0, Value.int .u8 0, Value.int .u8 0, Value.int .u8 0, Value.int .u8 0] := (Blk.new_at _ _ _ rfl).drew
      have HBN := hid hbn
      have HB1 := hid hbl1
      have HW1 := hid hbw1
      have fc : ∀ (i : Nat) (u : SBW w1.heap.size w1), i < l.length → u.w.cell? ⟨b, off + i, none⟩ = some (.int .u8 (gt l i)) := fun i u hi => u.cell ((HW1.out.cell (p := ⟨b, off + i, none⟩) hb).trans (HC.out i hi)) (by omega)
      have f0 : ∀ u : SBW w1.heap.size w1, u.w.cell? ⟨b, off, none⟩ = some (.int .u8 (gt l 0)) := fun u => fc 0 u (by omega)
      have f1 : ∀ u : SBW w1.heap.size w1, u.w.cell? ⟨b, off + 1, none⟩ = some (.int .u8 (gt l 1)) := fun u => fc 1 u (by omega)
      have f2 : ∀ u : SBW w1.heap.size w1, u.w.cell? ⟨b, off + 2, none⟩ = some (.int .u8 (gt l 2)) := fun u => fc 2 u (by omega)
      have f3 : ∀ u : SBW w1.heap.size w1, u.w.cell? ⟨b, off + 3, none⟩ = some (.int .u8 (gt l 3)) := fun u => fc 3 u (by omega)
      have f4 : ∀ u : SBW w1.heap.size w1, u.w.cell? ⟨b, off + 4, none⟩ = some (.int .u8 (gt l 4)) := fun u => fc 4 u (by omega)
      have f5 : ∀ u : SBW w1.heap.size w1, u.w.cell? ⟨b, off + 5, none⟩ = some (.int .u8 (gt l 5)) := fun u => fc 5 u (by omega)
      have f6 : ∀ u : SBW w1.heap.size w1, u.w.cell? ⟨b, off + 6, none⟩ = some (.int .u8 (gt l 6)) := fun u => fc 6 u (by omega)
      have f7 : ∀ u : SBW w1.heap.size w1, u.w.cell? ⟨b, off + 7, none⟩ = some (.int .u8 (gt l 7)) := fun u => fc 7 u (by omega)
      have hne : Nonempty (SBW w1.heap.size w1) := Cls.ne (SB.refl (Nat.le_refl _))
      have hq := SB.start (w0 := w1) (Nat.le_refl _)
      clear hw1 hbl1 hbw1 hbn fc x0 x1 x2 x3 x4 x5 x6 x7
      refine wp_region_segs (fun wq => ∃ u : SBW (w1.heap.size) (w1), wq = u.w) ((0, 0) :: (1, 0) :: (2, 0) :: (3, 0) :: (4, 0) :: (5, 0) :: (6, 0) :: (7, 0) :: (8, 0) :: (9, 0) :: (10, 0) :: (11, 0) :: (12, 0) :: (13, 0) :: (14, 0) :: (15, 0) :: (16, 0) :: (17, 0) :: (18, 0) :: (19, 0) :: (20, 0) :: (21, 0) :: (22, 0) :: (23, 0) :: (24, 0) :: (25, 0) :: (26, 0) :: (27, 0) :: (28, 0) :: (29, 0) :: (30, 0) :: (31, 0) :: (32, 0) :: (33, 0) :: (34, 0) :: (35, 0) :: (36, 0) :: (37, 0) :: (38, 0) :: (39, 0) :: (40, 0) :: (41, 0) :: (42, 0) :: (43, 0) :: (44, 0) :: (45, 0) :: (46, 0) :: (47, 0) :: (48, 1) :: (49, 1) :: []) (by kernel_rfl) (by kernel_rfl) (by kernel_rfl) (by kernel_rfl) (inC hq) ?_
      refine seg_held _ rfl ?_; go_big_quiet_step (fail); refine wpQuiet_nil ?_ -- 0 move
      refine seg_held _ rfl ?_; go_big_quiet_step (fail); refine wpQuiet_nil ?_ -- 1 indexAddr
      refine seg_held _ rfl ?_; go_big_quiet_step (fail); refine wpQuiet_nil ?_ -- 2 load
      refine seg_held _ rfl ?_; go_big_quiet_step (fail); refine wpQuiet_nil ?_ -- 3 binOp
      refine seg_held _ rfl ?_; go_big_quiet_step (fail); refine wpQuiet_nil ?_ -- 4 convert
      refine seg_held _ rfl ?_; go_big_quiet_step (fail); refine wpQuiet_nil ?_ -- 5 binOp
      refine seg_held _ rfl ?_; go_big_quiet_step (fail); refine wpQuiet_nil ?_ -- 6 move
      refine seg_held _ rfl ?_; go_big_quiet_step (fail); refine wpQuiet_nil ?_ -- 7 indexAddr
      refine seg_held _ rfl ?_; go_big_quiet_step (fail); refine wpQuiet_nil ?_ -- 8 load
      refine seg_held _ rfl ?_; go_big_quiet_step (fail); refine wpQuiet_nil ?_ -- 9 binOp
      refine seg_held _ rfl ?_; go_big_quiet_step (fail); refine wpQuiet_nil ?_ -- 10 convert
      refine seg_held _ rfl ?_; go_big_quiet_step (fail); refine wpQuiet_nil ?_ -- 11 binOp
      refine seg_held _ rfl ?_; go_big_quiet_step (fail); refine wpQuiet_nil ?_ -- 12 move
      refine seg_held _ rfl ?_; go_big_quiet_step (fail); refine wpQuiet_nil ?_ -- 13 indexAddr
      refine seg_held _ rfl ?_; go_big_quiet_step (fail); refine wpQuiet_nil ?_ -- 14 load
      refine seg_held _ rfl ?_; go_big_quiet_step (fail); refine wpQuiet_nil ?_ -- 15 binOp
      refine seg_held _ rfl ?_; go_big_quiet_step (fail); refine wpQuiet_nil ?_ -- 16 convert
      refine seg_held _ rfl ?_; go_big_quiet_step (fail); refine wpQuiet_nil ?_ -- 17 binOp
      refine seg_held _ rfl ?_; go_big_quiet_step (fail); refine wpQuiet_nil ?_ -- 18 move
      refine seg_held _ rfl ?_; go_big_quiet_step (fail); refine wpQuiet_nil ?_ -- 19 indexAddr
      refine seg_held _ rfl ?_; go_big_quiet_step (fail); refine wpQuiet_nil ?_ -- 20 load
      refine seg_held _ rfl ?_; go_big_quiet_step (fail); refine wpQuiet_nil ?_ -- 21 convert
      refine seg_held _ rfl ?_; go_big_quiet_step (fail); refine wpQuiet_nil ?_ -- 22 binOp
      refine seg_held _ rfl ?_; go_big_quiet_step (fail); refine wpQuiet_nil ?_ -- 23 binOp
      refine seg_held _ rfl ?_; go_big_quiet_step (fail); refine wpQuiet_nil ?_ -- 24 move
      refine seg_held _ rfl ?_; go_big_quiet_step (fail); refine wpQuiet_nil ?_ -- 25 indexAddr
      refine seg_held _ rfl ?_; go_big_quiet_step (fail); refine wpQuiet_nil ?_ -- 26 load
      refine seg_held _ rfl ?_; go_big_quiet_step (fail); refine wpQuiet_nil ?_ -- 27 convert
      refine seg_held _ rfl ?_; go_big_quiet_step (fail); refine wpQuiet_nil ?_ -- 28 binOp
      refine seg_held _ rfl ?_; go_big_quiet_step (fail); refine wpQuiet_nil ?_ -- 29 move
      refine seg_held _ rfl ?_; go_big_quiet_step (fail); refine wpQuiet_nil ?_ -- 30 indexAddr
      refine seg_held _ rfl ?_; go_big_quiet_step (fail); refine wpQuiet_nil ?_ -- 31 load
      refine seg_held _ rfl ?_; go_big_quiet_step (fail); refine wpQuiet_nil ?_ -- 32 convert
      refine seg_held _ rfl ?_; go_big_quiet_step (fail); refine wpQuiet_nil ?_ -- 33 binOp
      refine seg_held _ rfl ?_; go_big_quiet_step (fail); refine wpQuiet_nil ?_ -- 34 move
      refine seg_held _ rfl ?_; go_big_quiet_step (fail); refine wpQuiet_nil ?_ -- 35 indexAddr
      refine seg_held _ rfl ?_; go_big_quiet_step (fail); refine wpQuiet_nil ?_ -- 36 load
      refine seg_held _ rfl ?_; go_big_quiet_step (fail); refine wpQuiet_nil ?_ -- 37 convert
      refine seg_held _ rfl ?_; go_big_quiet_step (fail); refine wpQuiet_nil ?_ -- 38 binOp
      refine seg_held _ rfl ?_; go_big_quiet_step (fail); refine wpQuiet_nil ?_ -- 39 move
      refine seg_held _ rfl ?_; go_big_quiet_step (fail); refine wpQuiet_nil ?_ -- 40 indexAddr
      refine seg_held _ rfl ?_; go_big_quiet_step (fail); refine wpQuiet_nil ?_ -- 41 load
      refine seg_held _ rfl ?_; go_big_quiet_step (fail); refine wpQuiet_nil ?_ -- 42 convert
      refine seg_held _ rfl ?_; go_big_quiet_step (fail); refine wpQuiet_nil ?_ -- 43 move
      refine seg_held _ rfl ?_; go_big_quiet_step (fail); refine wpQuiet_nil ?_ -- 44 indexAddr
      refine seg_held _ rfl ?_; go_big_quiet_step (fail); refine wpQuiet_nil ?_ -- 45 load
      refine seg_held _ rfl ?_; go_big_quiet_step (fail); refine wpQuiet_nil ?_ -- 46 convert
      refine seg_held _ rfl ?_; go_big_quiet_step (fail); refine wpQuiet_nil ?_ -- 47 build
      refine seg_loud _ rfl rfl ?_; intro K hK -- 48 alloc
      go_wp2_with fail
      refine ⟨_, fun _ h => h, inC (by repeat (first | with_reducible assumption | with_reducible refine SB.drew ?_ | with_reducible refine SB.set ?_ (by first | exact Nat.le_refl _ | omega | (simp; omega)) _ | with_reducible refine SB.alloc ?_ _ | with_reducible refine sb_sets ?_ (by first | exact Nat.le_refl _ | omega | (simp; omega)) _ _ | with_reducible exact SB.refl (by omega))), ?_⟩
      refine seg_loud _ rfl rfl ?_; intro K hK -- 49 store
      refine Blk.wp_st 38 (.tmp 4) (.tmp 63) rfl HBN.out (vs := headL (clsG l) (labG l) (lenG l) (gt l 6) (gt l 7) (List.replicate 32 0)) rfl rfl (by rw [headL_len (by simp)]; exact Nat.le_refl _) (by rw [headL_len (by simp)]; exact HI0.out) headL_one (hK _ _ ?_)
      refine ⟨_, fun _ h => h, inC (by repeat (first | with_reducible assumption | with_reducible refine SB.drew ?_ | with_reducible refine SB.set ?_ (by first | exact Nat.le_refl _ | omega | (simp; omega)) _ | with_reducible refine SB.alloc ?_ _ | with_reducible refine sb_sets ?_ (by first | exact Nat.le_refl _ | omega | (simp; omega)) _ _ | with_reducible exact SB.refl (by omega))), ?_⟩
      go_frame
      refine seg_name ?_; intro w2 hw2
      have hb2 : Blk w2 w1.heap.size 38 (headL (clsG l) (labG l) (lenG l) (gt l 6) (gt l 7) (sdj l 0)) := by rw [hw2, sdj_zero]; exact HBN.out.sets_all (by rw [headL_len (by simp)]; rfl)
      have hb2' : Blk w2 w.heap.size 38 head0 := by rw [hw2]; exact Blk.others (by omega) _ 0 (HB1.out.alloc _).drew
      have hbw2 : Below w.heap.size w w2 := by rw [hw2]; exact below_setCells hx _ 0 ((HW1.out.alloc hx _).drew)
      have hle2 : w1.heap.size < w2.heap.size := hb2.lt
      have HB2 := hid hb2
      have HB2' := hid hb2'
      have HW2 := hid hbw2
      clear hne hq f0 f1 f2 f3 f4 f5 f6 f7 HBN HB1 HW1 hw2 hb2 hb2' hbw2 HCL HLA HLN
      generalize clsG l = cg at *
      generalize labG l = lg at *
      generalize lenG l = ng at *
      go_wp2_with fail
      go_loopw [5] (fun i wr => ∃ j : Nat, j ≤ 16 ∧ i = .int .i64 j ∧ Hid (Blk wr w1.heap.size 38 (headL cg lg ng (gt l 6) (gt l 7) (sdj l j))) ∧ Hid (Blk wr w.heap.size 38 head0) ∧ Hid (Below w.heap.size w wr)) (fun i _ => 16 - (intOf i).toNat)
      case atStart => exact ⟨0, by omega, rfl, HB2, HB2', HW2⟩
      case round =>
        obtain ⟨j, hj, rfl, HBj, HBj', HWj⟩ := hrel
        have hlr := HBj.out.lt
        by_cases hlt : j < 16
        · have hlt' : (j : Int) < 16 := by omega
          have u0 := HC.out (8 + j) (by omega)
          have u1 := HC.out (24 + j) (by omega)
          have hst := sdj_step (l := l) hlt
          have hg1 : bv (l.getD (8 + j) 0) = .int .u8 (gt l (8 + j)) := rfl
          have hg2 : bv (l.getD (24 + j) 0) = .int .u8 (gt l (24 + j)) := rfl
          have v0 := gt_lo l (8 + j); have v0' := gt_hi l (8 + j); have v1 := gt_lo l (24 + j); have v1' := gt_hi l (24 + j)
          have f0 : ∀ u : SBW w1.heap.size wr, u.w.cell? ⟨b, off + (8 + j), none⟩ = some (.int .u8 (gt l (8 + j))) := fun u => u.cell ((HWj.out.cell (p := ⟨b, off + (8 + j), none⟩) hb).trans u0) (by omega)
          have f1 : ∀ u : SBW w1.heap.size wr, u.w.cell? ⟨b, off + (24 + j), none⟩ = some (.int .u8 (gt l (24 + j))) := fun u => u.cell ((HWj.out.cell (p := ⟨b, off + (24 + j), none⟩) hb).trans u1) (by omega)
          have c0 : wr.cell? ⟨w1.heap.size, 5 + j, none⟩ = some (.int .u8 (gt (sdj l j) j)) := HBj.out.cell (headL_at (by rw [sdj_len]; omega))
          have c1 : wr.cell? ⟨w1.heap.size, 21 + j, none⟩ = some (.int .u8 (gt (sdj l j) (16 + j))) := by
            have := HBj.out.cell (headL_at (c := cg) (la := lg) (ln := ng) (nx := gt l 6) (hp := gt l 7) (sd := sdj l j) (i := 16 + j) (by rw [sdj_len]; omega))
            rwa [show 5 + (16 + j) = 21 + j by omega] at this
          have z0 := HBj.out.free (5 + j)
          have z1 := HBj.out.free (21 + j)
          have HST := hid hst
          have HG1 := hid hg1
          have HG2 := hid hg2
          clear hst hg1 hg2 u0 u1
          go_wp2_with fail
          have hne : Nonempty (SBW w1.heap.size wr) := Cls.ne (SB.refl (by omega))
          have hq := SB.start (B := w1.heap.size) (w0 := wr) (by omega)
          refine wp_region_segs (fun wq => ∃ u : SBW (w1.heap.size) (wr), wq = u.w) ((0, 0) :: (1, 0) :: (2, 0) :: (3, 0) :: (4, 0) :: (5, 0) :: (6, 0) :: (7, 0) :: (8, 0) :: (9, 0) :: (10, 0) :: (11, 0) :: (12, 0) :: (13, 0) :: (15, 0) :: (14, 1) :: (16, 0) :: (17, 1) :: []) (by kernel_rfl) (by kernel_rfl) (by kernel_rfl) (by kernel_rfl) (inC hq) ?_
          refine seg_held _ rfl ?_; go_big_quiet_step (fail); refine wpQuiet_nil ?_ -- 0 move
          refine seg_held _ rfl ?_; go_big_quiet_step (fail); refine wpQuiet_nil ?_ -- 1 move
          refine seg_held _ rfl ?_; go_big_quiet_step (fail); refine wpQuiet_nil ?_ -- 2 move
          refine seg_held _ rfl ?_; go_big_quiet_step (fail); refine wpQuiet_nil ?_ -- 3 move
          refine seg_held _ rfl ?_; go_big_quiet_step (fail); refine wpQuiet_nil ?_ -- 4 binOp
          refine seg_held _ rfl ?_; go_big_quiet_step (fail); refine wpQuiet_nil ?_ -- 5 indexAddr
          refine seg_held _ rfl ?_; go_big_quiet_step (fail); refine wpQuiet_nil ?_ -- 6 load
          refine seg_held _ rfl ?_; go_big_quiet_step (fail); refine wpQuiet_nil ?_ -- 7 move
          refine seg_held _ rfl ?_; go_big_quiet_step (fail); refine wpQuiet_nil ?_ -- 8 move
          refine seg_held _ rfl ?_; go_big_quiet_step (fail); refine wpQuiet_nil ?_ -- 9 binOp
          refine seg_held _ rfl ?_; go_big_quiet_step (fail); refine wpQuiet_nil ?_ -- 10 indexAddr
          refine seg_held _ rfl ?_; go_big_quiet_step (fail); refine wpQuiet_nil ?_ -- 11 load
          refine seg_held _ rfl ?_; go_big_quiet_step (fail); refine wpQuiet_nil ?_ -- 12 fieldAddr
          refine seg_held _ rfl ?_; go_big_quiet_step (fail); refine wpQuiet_nil ?_ -- 13 indexAddr
          refine seg_held _ rfl ?_; go_big_quiet_step (fail); refine wpQuiet_nil ?_ -- 15 fieldAddr
          refine seg_loud _ rfl rfl ?_; intro K hK -- 14 store
          go_wp2_with fail
          refine ⟨_, fun _ h => h, inC (by repeat (first | with_reducible assumption | with_reducible refine SB.drew ?_ | with_reducible refine SB.set ?_ (by first | exact Nat.le_refl _ | omega | (simp; omega)) _ | with_reducible refine SB.alloc ?_ _ | with_reducible refine sb_sets ?_ (by first | exact Nat.le_refl _ | omega | (simp; omega)) _ _ | with_reducible exact SB.refl (by omega))), ?_⟩
          refine seg_held _ rfl ?_; go_big_quiet_step (fail); refine wpQuiet_nil ?_ -- 16 indexAddr
          refine seg_loud _ rfl rfl ?_; intro K hK -- 17 store
          go_wp2_with fail
          refine ⟨_, fun _ h => h, inC (by repeat (first | with_reducible assumption | with_reducible refine SB.drew ?_ | with_reducible refine SB.set ?_ (by first | exact Nat.le_refl _ | omega | (simp; omega)) _ | with_reducible refine SB.alloc ?_ _ | with_reducible refine sb_sets ?_ (by first | exact Nat.le_refl _ | omega | (simp; omega)) _ _ | with_reducible exact SB.refl (by omega))), ?_⟩
          refine seg_name ?_; intro w3 hw3
          have hb3 : Blk w3 w1.heap.size 38 (headL cg lg ng (gt l 6) (gt l 7) (sdj l (j + 1))) := by
            have := (HBj.out.set (5 + j) (bv (l.getD (8 + j) 0))).set (21 + j) (bv (l.getD (24 + j) 0))
            rw [headL_set, show 21 + j = 5 + (16 + j) by omega, headL_set, HST.out, show 5 + (16 + j) = 21 + j by omega, HG1.out, HG2.out] at this
            rw [hw3]
            exact this.drew
          have hb3' : Blk w3 w.heap.size 38 head0 := by rw [hw3]; exact ((HBj'.out.other (by simp; omega) _).other (by simp; omega) _).drew
          have hbw3 : Below w.heap.size w w3 := by rw [hw3]; exact ((HWj.out.setCell (by simpa using hx) _).setCell (by simpa using hx) _).drew
          have HB3 := hid hb3
          have HB3' := hid hb3'
          have HW3 := hid hbw3
          clear hne hq f0 f1 c0 c1 z0 z1 hw3 hb3 hb3' hbw3 HBj HBj' HWj HST HG1 HG2
          go_wp2
          go_roundw
          case rel => exact ⟨j + 1, by omega, by go_num, HB3, HB3', HW3⟩
          case measure => simp [intOf]; omega
        · obtain rfl : j = 16 := by omega
          have hb6 := HBj.out
          rw [sdj_full (by omega)] at hb6
          have hl32 : ((l.drop 8).take 32).length = 32 := by simp; omega
          have HL37 := hid (headL_len (c := cg) (la := lg) (ln := ng) (nx := gt l 6) (hp := gt l 7) hl32)
          have hld := hb6.ld_all (P := Try.prog) Try.underlying38 rfl (by rw [HL37.out]; exact HI0.out)
          have HLD := hid hld
          clear hb6 hl32 hld
          have HN2 : Hid (0 + (headL cg lg ng (gt l 6) (gt l 7) ((l.drop 8).take 32)).length ≤ head0.length) := hid (by rw [HL37.out]; exact Nat.le_refl _)
          have HI2 : Hid ((Try.prog.info? 38).map (·.size) = some (headL cg lg ng (gt l 6) (gt l 7) ((l.drop 8).take 32)).length) := hid (by rw [HL37.out]; exact HI0.out)
          go_wp2_with (with_reducible refine wpList_ld rfl (.agg (headL cg lg ng (gt l 6) (gt l 7) ((l.drop 8).take 32)).toArray) 38 (.tmp 4) (.pointer (some ⟨w1.heap.size, 0, none⟩)) rfl rfl (HLD.out) ?_; refine stop ?_)
          refine Stop.on ?_
          go_wp2_with (with_reducible refine Blk.wpList_st rfl 38 (.tmp 2) (.tmp 84) rfl (HBj'.out) (g := w.heap.size) (o := 0) rfl rfl HN2.out HI2.out headL_one ?_; refine stop ?_)
          refine Stop.on ?_
          refine wpl_name ?_; intro w7 hw7
          have hb7 : Blk w7 w.heap.size 38 (headL cg lg ng (gt l 6) (gt l 7) ((l.drop 8).take 32)) := by rw [hw7]; exact HBj'.out.sets_all (by rw [HL37.out]; rfl)
          have hbw7 : Below w.heap.size w w7 := by rw [hw7]; exact below_setCells (Nat.le_refl _) _ 0 HWj.out
          have HB7 := hid hb7
          have HW7 := hid hbw7
          clear hw7 hb7 hbw7 HLD HBj HBj' HWj HN2 HI2
          go_wp2_with fail
          refine bodyPost_ret (v := .tuple #[.agg (headL cg lg ng (gt l 6) (gt l 7) ((l.drop 8).take 32)).toArray, .int .i64 0]) ?_ rfl ⟨by rw [HE.out, HG.out], HW7.out⟩
          exact res_cell2 Try.res_rGet rfl HB7.out Try.underlying38 rfl (by rw [HL37.out]; exact HI0.out) rfl
    · have he : errG l = 5 := by unfold errG; rw [if_neg (by omega), if_pos hf]
      have hg : headG l = head0 := by unfold headG; rw [if_neg (by rw [he]; decide)]
      have hf' : (gt l 0 / 16 != 6) = true := by rw [bne_iff_ne]; exact hf
      have HE := hid he
      have HG := hid hg
      clear he hg hf
      go_enter Try.func39, Try.ntmps39
      go_wp2_with (with_reducible refine Blk.wpList_st rfl 38 (.tmp 2) (.tmp 15) rfl (HZ.out) (g := w.heap.size) (o := 0) rfl rfl HN1.out HI1.out head0_one ?_; refine stop ?_)
      refine Stop.on ?_
      refine wpl_name ?_; intro w2 hw2
      have hb2 : Blk w2 w.heap.size 38 head0 := by rw [hw2, head0_lit]; exact HZ.out.sets_all rfl
      have hbw2 : Below w.heap.size w w2 := by rw [hw2]; exact below_setCells (Nat.le_refl _) _ 0 HW0.out
      have HB2 := hid hb2
      have HW2 := hid hbw2
      clear hb2 hbw2 hw2
      go_wp2_with fail
      refine bodyPost_ret (v := .tuple #[.agg head0.toArray, .int .i64 5]) ?_ rfl ⟨by rw [HE.out, HG.out], HW2.out⟩
      exact res_cell2 Try.res_rGet rfl HB2.out Try.underlying38 rfl HI0.out rfl
end Go.Proofs.Ytmenonijbcljdaa
