/- The walks of package six, fifth part: the header that bytes begin with. -/
import Derived.Test.YtmenonijbcljdaaSixd
namespace Go.Proofs.Ytmenonijbcljdaa
open Go.RowKit Go.Mix Go.Bas

def errG (l : List UInt8) : Int := if l.length < 40 then 3 else if gt l 0 / 16 ≠ 6 then 5 else 0
def clsG (l : List UInt8) : Int := gt l 0 % 16 * 16 + gt l 1 / 16
def labG (l : List UInt8) : Int := gt l 1 % 16 * 65536 + gt l 2 * 256 + gt l 3
def lenG (l : List UInt8) : Int := gt l 4 * 256 + gt l 5
def head0 : List Value := headL 0 0 0 0 0 (List.replicate 32 0)
def headG (l : List UInt8) : List Value := if errG l = 0 then headL (clsG l) (labG l) (lenG l) (gt l 6) (gt l 7) ((l.drop 8).take 32) else head0
theorem head0_lit : head0 = [Value.int .i64 0, Value.int .i64 0, Value.int .i64 0, Value.int .i64 0, Value.int .i64 0, Value.int .u8 0, Value.int .u8 0, Value.int .u8 0, Value.int .u8 0, Value.int .u8 0, Value.int .u8 0, Value.int .u8 0, Value.int .u8 0, Value.int .u8 0, Value.int .u8 0, Value.int .u8 0, Value.int .u8 0, Value.int .u8 0, Value.int .u8 0, Value.int .u8 0, Value.int .u8 0, Value.int .u8 0, Value.int .u8 0, Value.int .u8 0, Value.int .u8 0, Value.int .u8 0, Value.int .u8 0, Value.int .u8 0, Value.int .u8 0, Value.int .u8 0, Value.int .u8 0, Value.int .u8 0, Value.int .u8 0, Value.int .u8 0, Value.int .u8 0, Value.int .u8 0, Value.int .u8 0] := rfl
theorem errG_zero {l : List UInt8} (h : errG l = 0) : 40 ≤ l.length ∧ gt l 0 / 16 = 6 := by
  unfold errG at h
  by_cases h1 : l.length < 40
  · rw [if_pos h1] at h; cases h
  · rw [if_neg h1] at h
    by_cases h2 : gt l 0 / 16 ≠ 6
    · rw [if_pos h2] at h; cases h
    · exact ⟨by omega, by omega⟩
theorem head0_one : ∀ v ∈ [Value.int .i64 0, Value.int .i64 0, Value.int .i64 0, Value.int .i64 0, Value.int .i64 0, Value.int .u8 0, Value.int .u8 0, Value.int .u8 0, Value.int .u8 0, Value.int .u8 0, Value.int .u8 0, Value.int .u8 0, Value.int .u8 0, Value.int .u8 0, Value.int .u8 0, Value.int .u8 0, Value.int .u8 0, Value.int .u8 0, Value.int .u8 0, Value.int .u8 0, Value.int .u8 0, Value.int .u8 0, Value.int .u8 0, Value.int .u8 0, Value.int .u8 0, Value.int .u8 0, Value.int .u8 0, Value.int .u8 0, Value.int .u8 0, Value.int .u8 0, Value.int .u8 0, Value.int .u8 0, Value.int .u8 0, Value.int .u8 0, Value.int .u8 0, Value.int .u8 0, Value.int .u8 0], v.oneCell' = true := by rw [← head0_lit]; exact headL_one
theorem headG_len (l : List UInt8) : (headG l).length = 37 := by
  unfold headG
  by_cases h : errG l = 0
  · rw [if_pos h]
    exact headL_len (by have := (errG_zero h).1; simp; omega)
  · rw [if_neg h]
    rfl

theorem Try.res_Get : Try.f38.results = #[.cell 2 38, .tmp 3] := rfl
set_option maxRecDepth 8000 in
set_option maxHeartbeats 1000000 in
theorem GetH_calls (A : Option Addr) (k cp : Nat) (l : List UInt8) (w : World) (h : Bs w A k cp l) :
    Calls Try.prog 38 #[.slice A k cp] w fun e w' => e = .returned (.tuple #[.agg (headG l).toArray, .int .i64 (errG l)]) ∧ Below w.heap.size w w' := by
  obtain ⟨i0, hi, hz0, hz1, hz2⟩ := info_parts Try.infob
  have hcp_k := (h).cap
  have hms_k := (h).most
  have hle_k : k ≤ (l).length := Nat.le_of_eq (h).len
  have hge_k : (l).length ≤ k := Nat.le_of_eq (h).len.symm
  have hz : Blk (w.alloc (.cells #[Value.int .i64 0, Value.int .i64 0, Value.int .i64 0, Value.int .i64 0, Value.int .i64 0, Value.int .u8 0, Value.int .u8 0, Value.int .u8 0, Value.int .u8 0, Value.int .u8 0, Value.int .u8 0, Value.int .u8 0, Value.int .u8 0, Value.int .u8 0, Value.int .u8 0, Value.int .u8 0, Value.int .u8 0, Value.int .u8 0, Value.int .u8 0, Value.int .u8 0, Value.int .u8 0, Value.int .u8 0, Value.int .u8 0, Value.int .u8 0, Value.int .u8 0, Value.int .u8 0, Value.int .u8 0, Value.int .u8 0, Value.int .u8 0, Value.int .u8 0, Value.int .u8 0, Value.int .u8 0, Value.int .u8 0, Value.int .u8 0, Value.int .u8 0, Value.int .u8 0, Value.int .u8 0] 38)) w.heap.size 38 [Value.int .i64 0, Value.int .i64 0, Value.int .i64 0, Value.int .i64 0, Value.int .i64 0, Value.int .u8 0, Value.int .u8 0, Value.int .u8 0, Value.int .u8 0, Value.int .u8 0, Value.int .u8 0, Value.int .u8 0, Value.int .u8 0, Value.int .u8 0, Value.int .u8 0, Value.int .u8 0, Value.int .u8 0, Value.int .u8 0, Value.int .u8 0, Value.int .u8 0, Value.int .u8 0, Value.int .u8 0, Value.int .u8 0, Value.int .u8 0, Value.int .u8 0, Value.int .u8 0, Value.int .u8 0, Value.int .u8 0, Value.int .u8 0, Value.int .u8 0, Value.int .u8 0, Value.int .u8 0, Value.int .u8 0, Value.int .u8 0, Value.int .u8 0, Value.int .u8 0, Value.int .u8 0] := Blk.new_at _ _ _ rfl
  have HZ := hid hz
  have hi0 : (Try.prog.info? 38).map (·.size) = some 37 := by kernel_rfl
  have HI0 := hid hi0
  have HN1 : Hid (0 + [Value.int .i64 0, Value.int .i64 0, Value.int .i64 0, Value.int .i64 0, Value.int .i64 0, Value.int .u8 0, Value.int .u8 0, Value.int .u8 0, Value.int .u8 0, Value.int .u8 0, Value.int .u8 0, Value.int .u8 0, Value.int .u8 0, Value.int .u8 0, Value.int .u8 0, Value.int .u8 0, Value.int .u8 0, Value.int .u8 0, Value.int .u8 0, Value.int .u8 0, Value.int .u8 0, Value.int .u8 0, Value.int .u8 0, Value.int .u8 0, Value.int .u8 0, Value.int .u8 0, Value.int .u8 0, Value.int .u8 0, Value.int .u8 0, Value.int .u8 0, Value.int .u8 0, Value.int .u8 0, Value.int .u8 0, Value.int .u8 0, Value.int .u8 0, Value.int .u8 0, Value.int .u8 0].length ≤ [Value.int .i64 0, Value.int .i64 0, Value.int .i64 0, Value.int .i64 0, Value.int .i64 0, Value.int .u8 0, Value.int .u8 0, Value.int .u8 0, Value.int .u8 0, Value.int .u8 0, Value.int .u8 0, Value.int .u8 0, Value.int .u8 0, Value.int .u8 0, Value.int .u8 0, Value.int .u8 0, Value.int .u8 0, Value.int .u8 0, Value.int .u8 0, Value.int .u8 0, Value.int .u8 0, Value.int .u8 0, Value.int .u8 0, Value.int .u8 0, Value.int .u8 0, Value.int .u8 0, Value.int .u8 0, Value.int .u8 0, Value.int .u8 0, Value.int .u8 0, Value.int .u8 0, Value.int .u8 0, Value.int .u8 0, Value.int .u8 0, Value.int .u8 0, Value.int .u8 0, Value.int .u8 0].length) := hid (Nat.le_refl _)
  have HI1 : Hid ((Try.prog.info? 38).map (·.size) = some [Value.int .i64 0, Value.int .i64 0, Value.int .i64 0, Value.int .i64 0, Value.int .i64 0, Value.int .u8 0, Value.int .u8 0, Value.int .u8 0, Value.int .u8 0, Value.int .u8 0, Value.int .u8 0, Value.int .u8 0, Value.int .u8 0, Value.int .u8 0, Value.int .u8 0, Value.int .u8 0, Value.int .u8 0, Value.int .u8 0, Value.int .u8 0, Value.int .u8 0, Value.int .u8 0, Value.int .u8 0, Value.int .u8 0, Value.int .u8 0, Value.int .u8 0, Value.int .u8 0, Value.int .u8 0, Value.int .u8 0, Value.int .u8 0, Value.int .u8 0, Value.int .u8 0, Value.int .u8 0, Value.int .u8 0, Value.int .u8 0, Value.int .u8 0, Value.int .u8 0, Value.int .u8 0].length) := hid hi0
  have hw0 := (Below.refl w.heap.size w).alloc (Nat.le_refl _) (.cells #[Value.int .i64 0, Value.int .i64 0, Value.int .i64 0, Value.int .i64 0, Value.int .i64 0, Value.int .u8 0, Value.int .u8 0, Value.int .u8 0, Value.int .u8 0, Value.int .u8 0, Value.int .u8 0, Value.int .u8 0, Value.int .u8 0, Value.int .u8 0, Value.int .u8 0, Value.int .u8 0, Value.int .u8 0, Value.int .u8 0, Value.int .u8 0, Value.int .u8 0, Value.int .u8 0, Value.int .u8 0, Value.int .u8 0, Value.int .u8 0, Value.int .u8 0, Value.int .u8 0, Value.int .u8 0, Value.int .u8 0, Value.int .u8 0, Value.int .u8 0, Value.int .u8 0, Value.int .u8 0, Value.int .u8 0, Value.int .u8 0, Value.int .u8 0, Value.int .u8 0, Value.int .u8 0] 38)
  have HW0 := hid hw0
  clear hz hi0 hw0
  by_cases hs : k < 40
  · have he : errG l = 3 := by unfold errG; rw [if_pos (by omega)]
    have hg : headG l = head0 := by unfold headG; rw [if_neg (by rw [he]; decide)]
    have hs' : (k : Int) < 40 := by omega
    have HE := hid he
    have HG := hid hg
    clear he hg h
    go_enter Try.func38, Try.ntmps38
    go_wp2_with (with_reducible refine Blk.wpList_st rfl 38 (.tmp 2) (.tmp 10) rfl (HZ.out) (g := w.heap.size) (o := 0) rfl rfl HN1.out HI1.out head0_one ?_; refine stop ?_)
    refine Stop.on ?_
    refine wpl_name ?_; intro w2 hw2
    have hb2 : Blk w2 w.heap.size 38 head0 := by rw [hw2, head0_lit]; exact HZ.out.sets_all rfl
    have hbw2 : Below w.heap.size w w2 := by rw [hw2]; exact below_setCells (Nat.le_refl _) _ 0 HW0.out
    have HB2 := hid hb2
    have HW2 := hid hbw2
    clear hb2 hbw2 hw2
    go_wp2_with fail
    refine bodyPost_ret (v := .tuple #[.agg head0.toArray, .int .i64 3]) ?_ rfl ⟨by rw [HE.out, HG.out], HW2.out⟩
    exact res_cell2 Try.res_Get rfl HB2.out Try.underlying38 rfl HI0.out rfl
  · have hs' : ¬ (k : Int) < 40 := by omega
    have hu : u32 l (0 : Int) = (be32 l 0, true) := by unfold u32; rw [if_pos (by omega)]; rfl
    have HU := hid hu
    obtain ⟨b, off, rfl, hb, hc⟩ := h.at_ (by omega)
    have HH := hid h
    have HC := hid hc
    clear hu hc
    have hbe : be32 l 0 / 268435456 = gt l 0 / 16 := by
      have a1 := gt_lo l 1; have a2 := gt_lo l 2; have a3 := gt_lo l 3
      have b1 := gt_hi l 1; have b2 := gt_hi l 2; have b3 := gt_hi l 3
      unfold be32
      simp only [Nat.zero_add]
      omega
    by_cases hf : gt l 0 / 16 = 6
    · have hf' : (be32 l 0 / 268435456 != 6) = false := by rw [hbe, hf]; rfl
      have he : errG l = 0 := by unfold errG; rw [if_neg (by omega), if_neg (by omega)]
      have hg : headG l = headL (clsG l) (labG l) (lenG l) (gt l 6) (gt l 7) ((l.drop 8).take 32) := by unfold headG; rw [if_pos he]
      have g0 := gt_lo l 0; have g1 := gt_lo l 1; have g2 := gt_lo l 2; have g3 := gt_lo l 3
      have j0 := gt_hi l 0; have j1 := gt_hi l 1; have j2 := gt_hi l 2; have j3 := gt_hi l 3
      have b0 : 0 ≤ be32 l 0 := by unfold be32; simp only [Nat.zero_add]; omega
      have b1 : be32 l 0 < 4294967296 := by unfold be32; simp only [Nat.zero_add]; omega
      have hcl : bits .and .u32 (be32 l 0 / 1048576) 255 = clsG l := by
        have := and_mask_u32 (be32 l 0 / 1048576) 8 (by omega) (by omega) (by omega)
        rw [show ((2 ^ 8 - 1 : Nat) : Int) = 255 from rfl, show ((2 ^ 8 : Nat) : Int) = 256 from rfl] at this
        rw [this]
        unfold clsG be32
        simp only [Nat.zero_add]
        omega
      have hla : bits .and .u32 (be32 l 0) 1048575 = labG l := by
        have := and_mask_u32 (be32 l 0) 20 (by omega) b0 b1
        rw [show ((2 ^ 20 - 1 : Nat) : Int) = 1048575 from rfl, show ((2 ^ 20 : Nat) : Int) = 1048576 from rfl] at this
        rw [this]
        unfold labG be32
        simp only [Nat.zero_add]
        omega
      have c0 : 0 ≤ clsG l ∧ clsG l ≤ 255 := by unfold clsG; omega
      have d0 : 0 ≤ labG l ∧ labG l ≤ 1048575 := by unfold labG; omega
      have hu16 : u16 l (4 : Int) = (lenG l, true) := by unfold u16; rw [if_pos (by omega)]; rfl
      have HE := hid he
      have HG := hid hg
      have HU16 := hid hu16
      generalize clsG l = cg at *
      generalize labG l = lg at *
      generalize lenG l = ng at *
      generalize be32 l 0 = be at *
      obtain ⟨c1, c2⟩ := c0
      obtain ⟨d1, d2⟩ := d0
      have x6 := HC.out 6 (by omega)
      have x7 := HC.out 7 (by omega)
      have y6 := gt_lo l 6; have y6' := gt_hi l 6; have y7 := gt_lo l 7; have y7' := gt_hi l 7
      clear he hg hf hbe g0 g1 g2 g3 j0 j1 j2 j3 hu16
      go_enter Try.func38, Try.ntmps38
      go_wp2_with fail
      refine (U32_calls _ _ _ l _ _ (h.alloc _)).mono ?_; rintro e w1 ⟨rfl, rfl⟩
      rw [HU.out]
      go_wp2_with fail
      refine wp_name ?_; intro w1 hw1
      have hbl1 : Blk w1 w.heap.size 38 head0 := by rw [hw1, head0_lit]; exact HZ.out
      have hbw1 : Below w.heap.size w w1 := by rw [hw1]; exact HW0.out
      have hs1 := hbl1.lt
      have HB1 := hid hbl1
      have HW1 := hid hbw1
      clear hw1 hbl1 hbw1
      have hne : Nonempty (SBW w1.heap.size w1) := Cls.ne (SB.refl (Nat.le_refl _))
      have hx := HW1.out.size
      have hbs1 := HH.out.step HW1.out
      have f6 : ∀ u : SBW w1.heap.size w1, u.w.cell? ⟨b, off + 6, none⟩ = some (.int .u8 (gt l 6)) := fun u => u.cell ((HW1.out.cell (p := ⟨b, off + 6, none⟩) hb).trans x6) (by omega)
      have f7 : ∀ u : SBW w1.heap.size w1, u.w.cell? ⟨b, off + 7, none⟩ = some (.int .u8 (gt l 7)) := fun u => u.cell ((HW1.out.cell (p := ⟨b, off + 7, none⟩) hb).trans x7) (by omega)
      have HBS1 := hid hbs1
      have hq := SB.start (w0 := w1) (Nat.le_refl _)
      have hbn : Blk (w1.alloc (.cells #[Value.int .i64 0, Value.int .i64 0, Value.int .i64 0, Value.int .i64 0, Value.int .i64 0, Value.int .u8 0, Value.int .u8 0, Value.int .u8 0, Value.int .u8 0, Value.int .u8 0, Value.int .u8 0, Value.int .u8 0, Value.int .u8 0, Value.int .u8 0, Value.int .u8 0, Value.int .u8 0, Value.int .u8 0, Value.int .u8 0, Value.int .u8 0, Value.int .u8 0, Value.int .u8 0, Value.int .u8 0, Value.int .u8 0, Value.int .u8 0, Value.int .u8 0, Value.int .u8 0, Value.int .u8 0, Value.int .u8 0, Value.int .u8 0, Value.int .u8 0, Value.int .u8 0, Value.int .u8 0, Value.int .u8 0, Value.int .u8 0, Value.int .u8 0, Value.int .u8 0, Value.int .u8 0] 38)).drew w1.heap.size 38 [Value.int .i64 0, Value.int .i64 0, Value.int .i64 0, Value.int .i64 0, Value.int .i64 0, Value.int .u8 0, Value.int .u8 0, Value.int .u8 0, Value.int .u8 0, Value.int .u8 0, Value.int .u8 0, Value.int .u8 0, Value.int .u8 0, Value.int .u8 0, Value.int .u8 0, Value.int .u8 0, Value.int .u8 0, Value.int .u8 0, Value.int .u8 0, Value.int .u8 0, Value.int .u8 0, Value.int .u8 0, Value.int .u8 0, Value.int .u8 0, Value.int .u8 0, Value.int .u8 0, Value.int .u8 0, Value.int .u8 0, Value.int .u8 0, Value.int .u8 0, Value.int .u8 0, Value.int .u8 0, Value.int .u8 0, Value.int .u8 0, Value.int .u8 0, Value.int .u8 0, Value.int .u8 0] := (Blk.new_at _ _ _ rfl).drew
      have HBN := hid hbn
      clear hbn hbs1 x6 x7
      refine wp_region_segs (fun wq => ∃ u : SBW (w1.heap.size) (w1), wq = u.w) ((0, 0) :: (1, 0) :: (2, 0) :: (3, 0) :: (4, 0) :: (5, 0) :: (6, 0) :: (7, 0) :: (8, 0) :: (9, 0) :: (10, 0) :: (11, 0) :: (12, 0) :: (13, 0) :: (14, 0) :: (15, 0) :: (16, 1) :: (17, 1) :: []) (by kernel_rfl) (by kernel_rfl) (by kernel_rfl) (by kernel_rfl) (inC hq) ?_
      refine seg_held _ rfl ?_; go_big_quiet_step (fail); refine wpQuiet_nil ?_ -- 0 move
      refine seg_held _ rfl ?_; go_big_quiet_step (fail); refine wpQuiet_nil ?_ -- 1 binOp
      refine seg_held _ rfl ?_; go_big_quiet_step (fail); refine wpQuiet_nil ?_ -- 2 binOp
      refine seg_held _ rfl ?_; go_big_quiet_step (fail); refine wpQuiet_nil ?_ -- 3 convert
      refine seg_held _ rfl ?_; go_big_quiet_step (fail); refine wpQuiet_nil ?_ -- 4 move
      refine seg_held _ rfl ?_; go_big_quiet_step (fail); refine wpQuiet_nil ?_ -- 5 binOp
      refine seg_held _ rfl ?_; go_big_quiet_step (fail); refine wpQuiet_nil ?_ -- 6 convert
      refine seg_held _ rfl ?_; go_big_quiet_step (fail); refine wpQuiet_nil ?_ -- 7 move
      refine seg_held _ rfl ?_; go_big_quiet_step (fail); refine wpQuiet_nil ?_ -- 8 indexAddr
      refine seg_held _ rfl ?_; go_big_quiet_step (fail); refine wpQuiet_nil ?_ -- 9 load
      refine seg_held _ rfl ?_; go_big_quiet_step (fail); refine wpQuiet_nil ?_ -- 10 convert
      refine seg_held _ rfl ?_; go_big_quiet_step (fail); refine wpQuiet_nil ?_ -- 11 move
      refine seg_held _ rfl ?_; go_big_quiet_step (fail); refine wpQuiet_nil ?_ -- 12 indexAddr
      refine seg_held _ rfl ?_; go_big_quiet_step (fail); refine wpQuiet_nil ?_ -- 13 load
      refine seg_held _ rfl ?_; go_big_quiet_step (fail); refine wpQuiet_nil ?_ -- 14 convert
      refine seg_held _ rfl ?_; go_big_quiet_step (fail); refine wpQuiet_nil ?_ -- 15 build
      refine seg_loud _ rfl rfl ?_; intro K hK -- 16 alloc
      go_wp2_with fail
      refine ⟨_, fun _ h => h, inC (by repeat (first | with_reducible assumption | with_reducible refine SB.drew ?_ | with_reducible refine SB.set ?_ (by first | exact Nat.le_refl _ | omega | (simp; omega)) _ | with_reducible refine SB.alloc ?_ _ | with_reducible refine sb_sets ?_ (by first | exact Nat.le_refl _ | omega | (simp; omega)) _ _ | with_reducible exact SB.refl (by omega))), ?_⟩
      refine seg_loud _ rfl rfl ?_; intro K hK -- 17 store
      refine Blk.wp_st 38 (.tmp 6) (.tmp 35) rfl HBN.out (vs := headL cg lg 0 (gt l 6) (gt l 7) (List.replicate 32 0)) rfl rfl (by rw [headL_len (by simp)]; exact Nat.le_refl _) (by rw [headL_len (by simp)]; exact HI0.out) headL_one (hK _ _ ?_)
      refine ⟨_, fun _ h => h, inC (by repeat (first | with_reducible assumption | with_reducible refine SB.drew ?_ | with_reducible refine SB.set ?_ (by first | exact Nat.le_refl _ | omega | (simp; omega)) _ | with_reducible refine SB.alloc ?_ _ | with_reducible refine sb_sets ?_ (by first | exact Nat.le_refl _ | omega | (simp; omega)) _ _ | with_reducible exact SB.refl (by omega))), ?_⟩
      go_frame
      refine seg_name ?_; intro w2 hw2
      have hb2 : Blk w2 w1.heap.size 38 (headL cg lg 0 (gt l 6) (gt l 7) (List.replicate 32 0)) := by rw [hw2]; exact HBN.out.sets_all (by rw [headL_len (by simp)]; rfl)
      have hb1 : Blk w2 w.heap.size 38 head0 := by rw [hw2]; exact Blk.others (by omega) _ 0 (HB1.out.alloc _).drew
      have hbw2 : Below w.heap.size w w2 := by rw [hw2]; exact below_setCells hx _ 0 ((HW1.out.alloc hx _).drew)
      have hbs2 : Bs w2 (some ⟨b, off, none⟩) k cp l := by rw [hw2]; exact HBS1.out.step (below_setCells (Nat.le_refl _) _ 0 (((Below.refl _ _).alloc (Nat.le_refl _) _).drew))
      have hc2 := hb2.cell (j := 2) rfl
      have hz2 := hb2.free 2
      have HB2 := hid hb2
      have HB1' := hid hb1
      have HW2 := hid hbw2
      have HBS2 := hid hbs2
      clear hne f6 f7 hq HBN HB1 HW1 HBS1 hw2 hb2 hb1 hbw2 hbs2
      go_wp2_with fail
      refine (U16_calls _ _ _ l _ _ HBS2.out).mono ?_; rintro e w3 ⟨rfl, hq3⟩
      rw [HU16.out]
      have hb3 := HB2.out.step (below_quiet hq3)
      have hb3' := HB1'.out.step (below_quiet hq3)
      have hw3 := HW2.out.trans (below_quiet hq3)
      have hbs3 := HBS2.out.step (below_quiet hq3)
      have hc3 := hb3.cell (j := 2) rfl
      have hz3 := hb3.free 2
      have HB3 := hid hb3
      have HB3' := hid hb3'
      have HW3 := hid hw3
      have HBS3 := hid hbs3
      clear HB2 HB1' HW2 HBS2 hq3 hc2 hz2 hb3 hb3' hw3 hbs3
      go_wp2_with fail
      refine wp_name ?_; intro w4 hw4
      have hb4 : Blk w4 w1.heap.size 38 (headL cg lg ng (gt l 6) (gt l 7) (List.replicate 32 0)) := by rw [hw4]; exact HB3.out.set 2 _
      have hb4' : Blk w4 w.heap.size 38 head0 := by rw [hw4]; exact HB3'.out.other (by simp; omega) _
      have hbw4 : Below w.heap.size w w4 := by rw [hw4]; exact HW3.out.setCell (by simpa using hx) _
      have hbs4 : Bs w4 (some ⟨b, off, none⟩) k cp l := HH.out.step hbw4
      clear HB3 HB3' HW3 HBS3 hc3 hz3 hw4
      have hs4 := hb4.lt
      have hsrc := (hbs4.sub (i := 8) (j := 24) (c' := cp - 8) (by omega) (by omega) (by omega) (by omega)).drew
      have hsl1 := fun w => run_slice2 (P := Try.prog) 22 5 i0 Try.underlying22 hi hz1 (some ⟨b, off, none⟩) k cp 8 24 .i64 .i64 8 24 rfl rfl (by omega) (by omega) w
      have hsl2 := fun w => run_slice2 (P := Try.prog) 22 5 i0 Try.underlying22 hi hz1 (some ⟨b, off, none⟩) k cp 24 40 .i64 .i64 24 40 rfl rfl (by omega) (by omega) w
      have HS1 : Hid ((Try.prog.info? 5).map (·.size) = some 1) := by show _ = _; kernel_rfl
      have hq := SB.start (B := w1.heap.size) (w0 := w4) (by omega)
      have hne : Nonempty (SBW w1.heap.size w4) := Cls.ne (SB.refl (by omega))
      have HB4 := hid hb4
      have HB4' := hid hb4'
      have HW4 := hid hbw4
      have HSRC := hid hsrc
      clear hb4 hb4' hbw4 hbs4 hsrc
      refine wp_region_segs (fun wq => ∃ u : SBW (w1.heap.size) (w4), wq = u.w) ((0, 0) :: (1, 0) :: (2, 0) :: (3, 0) :: (4, 1) :: []) (by kernel_rfl) (by kernel_rfl) (by kernel_rfl) (by kernel_rfl) (inC hq) ?_
      refine seg_held _ rfl ?_; go_big_quiet_step (fail); refine wpQuiet_nil ?_ -- 0 fieldAddr
      refine seg_held _ rfl ?_; go_big_quiet_step (fail); refine wpQuiet_nil ?_ -- 1 slice
      refine seg_held _ rfl ?_; go_big_quiet_step (fail); refine wpQuiet_nil ?_ -- 2 move
      refine seg_held _ rfl ?_; go_big_quiet_step (fail); refine wpQuiet_nil ?_ -- 3 slice
      refine seg_loud _ rfl rfl ?_; intro K hK -- 4 builtin:copy
      refine HB4.out.drew.wp_cp (.tmp 43) (.tmp 45) 22 22 rfl 5 Try.underlying22 HS1.out (off := 5) rfl rfl HSRC.out (by omega) (by rw [headL_len (by simp)]; omega) (hK _ _ ?_)
      refine ⟨_, fun _ h => h, inC (by repeat (first | with_reducible assumption | with_reducible refine SB.drew ?_ | with_reducible refine SB.set ?_ (by first | exact Nat.le_refl _ | omega | (simp; omega)) _ | with_reducible refine SB.alloc ?_ _ | with_reducible refine sb_sets ?_ (by first | exact Nat.le_refl _ | omega | (simp; omega)) _ _ | with_reducible exact SB.refl (by omega))), ?_⟩
      go_frame
      refine seg_name ?_; intro w5 hw5
      have hl16 : ((l.drop 8).take (24 - 8)).length = 16 := by simp; omega
      have hb5 : Blk w5 w1.heap.size 38 (headL cg lg ng (gt l 6) (gt l 7) ((l.drop 8).take 16 ++ List.replicate 16 0)) := by
        rw [hw5]
        have := HB4.out.drew.sets (((l.drop 8).take (24 - 8)).map bv) 5 (by rw [headL_len (by simp), List.length_map, hl16]; omega)
        have e := headL_sets (c := cg) (la := lg) (ln := ng) (nx := gt l 6) (hp := gt l 7) (sd := List.replicate 32 0) (l := (l.drop 8).take (24 - 8)) (i := 0)
        rw [List.length_map] at this
        rw [Nat.add_zero] at e
        rw [e] at this
        rw [hl16] at this
        exact this
      have hb5' : Blk w5 w.heap.size 38 head0 := by rw [hw5]; exact Blk.others (by omega) _ 5 HB4'.out.drew
      have hbw5 : Below w.heap.size w w5 := by rw [hw5]; exact below_setCells hx _ 5 HW4.out.drew
      have hs5 := hb5.lt
      have hsrc := ((HH.out.step hbw5).sub (i := 24) (j := 40) (c' := cp - 24) (by omega) (by omega) (by omega) (by omega)).drew
      clear hne hq HB4 HB4' HW4 HSRC hw5 hs4
      go_wp2_with fail
      have hq := SB.start (B := w1.heap.size) (w0 := w5) (by omega)
      have hne : Nonempty (SBW w1.heap.size w5) := Cls.ne (SB.refl (by omega))
      have HB5 := hid hb5
      have HB5' := hid hb5'
      have HW5 := hid hbw5
      have HSRC := hid hsrc
      clear hb5 hb5' hbw5 hsrc
      have hl16' : ((l.drop 8).take 16).length = 16 := by simp; omega
      have HL16 := hid hl16'
      clear hl16 hl16'
      refine wp_region_segs (fun wq => ∃ u : SBW (w1.heap.size) (w5), wq = u.w) ((0, 0) :: (1, 0) :: (2, 0) :: (3, 0) :: (4, 1) :: []) (by kernel_rfl) (by kernel_rfl) (by kernel_rfl) (by kernel_rfl) (inC hq) ?_
      refine seg_held _ rfl ?_; go_big_quiet_step (fail); refine wpQuiet_nil ?_ -- 0 fieldAddr
      refine seg_held _ rfl ?_; go_big_quiet_step (fail); refine wpQuiet_nil ?_ -- 1 slice
      refine seg_held _ rfl ?_; go_big_quiet_step (fail); refine wpQuiet_nil ?_ -- 2 move
      refine seg_held _ rfl ?_; go_big_quiet_step (fail); refine wpQuiet_nil ?_ -- 3 slice
      refine seg_loud _ rfl rfl ?_; intro K hK -- 4 builtin:copy
      refine HB5.out.drew.wp_cp (.tmp 48) (.tmp 50) 22 22 rfl 5 Try.underlying22 HS1.out (off := 21) rfl rfl HSRC.out (by omega) (by rw [headL_len (by rw [List.length_append, HL16.out, List.length_replicate])]; omega) (hK _ _ ?_)
      refine ⟨_, fun _ h => h, inC (by repeat (first | with_reducible assumption | with_reducible refine SB.drew ?_ | with_reducible refine SB.set ?_ (by first | exact Nat.le_refl _ | omega | (simp; omega)) _ | with_reducible refine SB.alloc ?_ _ | with_reducible refine sb_sets ?_ (by first | exact Nat.le_refl _ | omega | (simp; omega)) _ _ | with_reducible exact SB.refl (by omega))), ?_⟩
      go_frame
      refine seg_name ?_; intro w6 hw6
      have hl16 : ((l.drop 24).take (40 - 24)).length = 16 := by simp; omega
      have hb6 : Blk w6 w1.heap.size 38 (headL cg lg ng (gt l 6) (gt l 7) ((l.drop 8).take 32)) := by
        rw [hw6]
        have := HB5.out.drew.sets (((l.drop 24).take (40 - 24)).map bv) 21 (by rw [headL_len (by rw [List.length_append, HL16.out, List.length_replicate]), List.length_map, hl16]; omega)
        have e := headL_sets (c := cg) (la := lg) (ln := ng) (nx := gt l 6) (hp := gt l 7) (sd := (l.drop 8).take 16 ++ List.replicate 16 0) (l := (l.drop 24).take (40 - 24)) (i := 16)
        rw [List.length_map] at this
        rw [e] at this
        have e2 : ((l.drop 8).take 16 ++ List.replicate 16 0).take 16 ++ ((l.drop 24).take (40 - 24) ++ ((l.drop 8).take 16 ++ List.replicate 16 0).drop (16 + ((l.drop 24).take (40 - 24)).length)) = (l.drop 8).take 32 := by
          have e3 : ((l.drop 8).take 16 ++ List.replicate 16 (0 : UInt8)).drop (16 + ((l.drop 24).take (40 - 24)).length) = [] := List.drop_eq_nil_of_le (by rw [List.length_append, HL16.out, List.length_replicate, hl16]; omega)
          rw [e3, List.take_append_of_le_length (Nat.le_of_eq HL16.out.symm), List.take_of_length_le (Nat.le_of_eq HL16.out), List.append_nil]
          rw [show (32 : Nat) = 16 + 16 from rfl, List.take_add, List.drop_drop]
        rw [e2] at this
        exact this
      have hb6' : Blk w6 w.heap.size 38 head0 := by rw [hw6]; exact Blk.others (by omega) _ 21 HB5'.out.drew
      have hbw6 : Below w.heap.size w w6 := by rw [hw6]; exact below_setCells hx _ 21 HW5.out.drew
      have hl32 : ((l.drop 8).take 32).length = 32 := by simp; omega
      have HL37 := hid (headL_len (c := cg) (la := lg) (ln := ng) (nx := gt l 6) (hp := gt l 7) hl32)
      have hld := hb6.ld_all (P := Try.prog) Try.underlying38 rfl (by rw [HL37.out]; exact HI0.out)
      have HLD := hid hld
      have HB6 := hid hb6'
      have HW6 := hid hbw6
      clear hne hq HB5 HB5' HW5 HSRC hw6 hs5 hb6 hb6' hbw6 hl16 hl32 hld hsl1 hsl2 hcl hla HL16
      have HN2 : Hid (0 + (headL cg lg ng (gt l 6) (gt l 7) ((l.drop 8).take 32)).length ≤ head0.length) := hid (by rw [HL37.out]; exact Nat.le_refl _)
      have HI2 : Hid ((Try.prog.info? 38).map (·.size) = some (headL cg lg ng (gt l 6) (gt l 7) ((l.drop 8).take 32)).length) := hid (by rw [HL37.out]; exact HI0.out)
      go_wp2_with (with_reducible refine wpList_ld rfl (.agg (headL cg lg ng (gt l 6) (gt l 7) ((l.drop 8).take 32)).toArray) 38 (.tmp 6) (.pointer (some ⟨w1.heap.size, 0, none⟩)) rfl rfl (HLD.out) ?_; refine stop ?_)
      refine Stop.on ?_
      go_wp2_with (with_reducible refine Blk.wpList_st rfl 38 (.tmp 2) (.tmp 52) rfl (HB6.out) (g := w.heap.size) (o := 0) rfl rfl HN2.out HI2.out headL_one ?_; refine stop ?_)
      refine Stop.on ?_
      refine wpl_name ?_; intro w7 hw7
      have hb7 : Blk w7 w.heap.size 38 (headL cg lg ng (gt l 6) (gt l 7) ((l.drop 8).take 32)) := by rw [hw7]; exact HB6.out.sets_all (by rw [HL37.out]; rfl)
      have hbw7 : Below w.heap.size w w7 := by rw [hw7]; exact below_setCells (Nat.le_refl _) _ 0 HW6.out
      have HB7 := hid hb7
      have HW7 := hid hbw7
      clear hw7 hb7 hbw7 HLD HB6 HW6 HN2 HI2
      go_wp2_with fail
      refine bodyPost_ret (v := .tuple #[.agg (headL cg lg ng (gt l 6) (gt l 7) ((l.drop 8).take 32)).toArray, .int .i64 0]) ?_ rfl ⟨by rw [HE.out, HG.out], HW7.out⟩
      exact res_cell2 Try.res_Get rfl HB7.out Try.underlying38 rfl (by rw [HL37.out]; exact HI0.out) rfl
    · have he : errG l = 5 := by unfold errG; rw [if_neg (by omega), if_pos hf]
      have hg : headG l = head0 := by unfold headG; rw [if_neg (by rw [he]; decide)]
      have hf' : (be32 l 0 / 268435456 != 6) = true := by rw [bne_iff_ne, hbe]; exact hf
      have HE := hid he
      have HG := hid hg
      clear he hg hf hbe
      go_enter Try.func38, Try.ntmps38
      go_wp2_with fail
      refine (U32_calls _ _ _ l _ _ (h.alloc _)).mono ?_; rintro e w1 ⟨rfl, rfl⟩
      rw [HU.out]
      go_wp2_with (with_reducible refine Blk.wpList_st rfl 38 (.tmp 2) (.tmp 19) rfl (HZ.out) (g := w.heap.size) (o := 0) rfl rfl HN1.out HI1.out head0_one ?_; refine stop ?_)
      refine Stop.on ?_
      refine wpl_name ?_; intro w2 hw2
      have hb2 : Blk w2 w.heap.size 38 head0 := by rw [hw2, head0_lit]; exact HZ.out.sets_all rfl
      have hbw2 : Below w.heap.size w w2 := by rw [hw2]; exact below_setCells (Nat.le_refl _) _ 0 HW0.out
      have HB2 := hid hb2
      have HW2 := hid hbw2
      clear hb2 hbw2 hw2
      go_wp2_with fail
      refine bodyPost_ret (v := .tuple #[.agg head0.toArray, .int .i64 5]) ?_ rfl ⟨by rw [HE.out, HG.out], HW2.out⟩
      exact res_cell2 Try.res_Get rfl HB2.out Try.underlying38 rfl HI0.out rfl
end Go.Proofs.Ytmenonijbcljdaa
