/- The walks of package six, first part: whether a header can be. -/
import Derived.Test.YtmenonijbcljdaaSixp
namespace Go.Proofs.Ytmenonijbcljdaa
open Go.RowKit Go.Mix Go.Bas

theorem within_calls (n m : Int) (w : World) :
    Calls Try.prog 97 #[.int .i64 n, .int .i64 m] w fun e w' => e = .returned (.int .i64 (within n m)) ∧ w = w' := by
  go_enter Try.func97, Try.ntmps97
  go_wp2
  all_goals
    go_ret
    exact ⟨ret_int (by unfold within; omega), rfl⟩

set_option maxRecDepth 8000 in
set_option maxHeartbeats 1000000 in
theorem CanH_calls (c la ln nx hp : Int) (sd : List UInt8) (w : World) (hsd : sd.length = 32) :
    Calls Try.prog 34 #[.agg (headL c la ln nx hp sd).toArray] w fun e w' => e = .returned (.int .i64 (canH c la ln nx hp)) ∧ Below w.heap.size w w' := by
  have HL := hid (headL_len (c := c) (la := la) (ln := ln) (nx := nx) (hp := hp) hsd)
  have HSD := hid hsd
  clear hsd
  have hd1 := Blk.new w 38 (headL c la ln nx hp sd)
  have hld := hd1.ld_all (P := Try.prog) Try.underlying38 rfl (by rw [HL.out]; kernel_rfl)
  have hz : Blk ((w.alloc (.cells (headL c la ln nx hp sd).toArray 38)).alloc (.cells #[Value.int .i64 0, Value.int .i64 0, Value.int .i64 0, Value.int .i64 0, Value.int .i64 0, Value.int .u8 0, Value.int .u8 0, Value.int .u8 0, Value.int .u8 0, Value.int .u8 0, Value.int .u8 0, Value.int .u8 0, Value.int .u8 0, Value.int .u8 0, Value.int .u8 0, Value.int .u8 0, Value.int .u8 0, Value.int .u8 0, Value.int .u8 0, Value.int .u8 0, Value.int .u8 0, Value.int .u8 0, Value.int .u8 0, Value.int .u8 0, Value.int .u8 0, Value.int .u8 0, Value.int .u8 0, Value.int .u8 0, Value.int .u8 0, Value.int .u8 0, Value.int .u8 0, Value.int .u8 0, Value.int .u8 0, Value.int .u8 0, Value.int .u8 0, Value.int .u8 0, Value.int .u8 0] 38)) (w.heap.size + 1) 38 [Value.int .i64 0, Value.int .i64 0, Value.int .i64 0, Value.int .i64 0, Value.int .i64 0, Value.int .u8 0, Value.int .u8 0, Value.int .u8 0, Value.int .u8 0, Value.int .u8 0, Value.int .u8 0, Value.int .u8 0, Value.int .u8 0, Value.int .u8 0, Value.int .u8 0, Value.int .u8 0, Value.int .u8 0, Value.int .u8 0, Value.int .u8 0, Value.int .u8 0, Value.int .u8 0, Value.int .u8 0, Value.int .u8 0, Value.int .u8 0, Value.int .u8 0, Value.int .u8 0, Value.int .u8 0, Value.int .u8 0, Value.int .u8 0, Value.int .u8 0, Value.int .u8 0, Value.int .u8 0, Value.int .u8 0, Value.int .u8 0, Value.int .u8 0, Value.int .u8 0, Value.int .u8 0] := Blk.new_at _ _ _ (by simp)
  have hl0 : 0 + (headL c la ln nx hp sd).length ≤ [Value.int .i64 0, Value.int .i64 0, Value.int .i64 0, Value.int .i64 0, Value.int .i64 0, Value.int .u8 0, Value.int .u8 0, Value.int .u8 0, Value.int .u8 0, Value.int .u8 0, Value.int .u8 0, Value.int .u8 0, Value.int .u8 0, Value.int .u8 0, Value.int .u8 0, Value.int .u8 0, Value.int .u8 0, Value.int .u8 0, Value.int .u8 0, Value.int .u8 0, Value.int .u8 0, Value.int .u8 0, Value.int .u8 0, Value.int .u8 0, Value.int .u8 0, Value.int .u8 0, Value.int .u8 0, Value.int .u8 0, Value.int .u8 0, Value.int .u8 0, Value.int .u8 0, Value.int .u8 0, Value.int .u8 0, Value.int .u8 0, Value.int .u8 0, Value.int .u8 0, Value.int .u8 0].length := by rw [HL.out]; exact Nat.le_refl _
  have hi0 : (Try.prog.info? 38).map (·.size) = some (headL c la ln nx hp sd).length := by rw [HL.out]; kernel_rfl
  have h1 := headL_one (c := c) (la := la) (ln := ln) (nx := nx) (hp := hp) (sd := sd)
  have hb1 := hd1.alloc (.cells #[Value.int .i64 0, Value.int .i64 0, Value.int .i64 0, Value.int .i64 0, Value.int .i64 0, Value.int .u8 0, Value.int .u8 0, Value.int .u8 0, Value.int .u8 0, Value.int .u8 0, Value.int .u8 0, Value.int .u8 0, Value.int .u8 0, Value.int .u8 0, Value.int .u8 0, Value.int .u8 0, Value.int .u8 0, Value.int .u8 0, Value.int .u8 0, Value.int .u8 0, Value.int .u8 0, Value.int .u8 0, Value.int .u8 0, Value.int .u8 0, Value.int .u8 0, Value.int .u8 0, Value.int .u8 0, Value.int .u8 0, Value.int .u8 0, Value.int .u8 0, Value.int .u8 0, Value.int .u8 0, Value.int .u8 0, Value.int .u8 0, Value.int .u8 0, Value.int .u8 0, Value.int .u8 0] 38)
  have hbl : Below w.heap.size w ((w.alloc (.cells (headL c la ln nx hp sd).toArray 38)).alloc (.cells #[Value.int .i64 0, Value.int .i64 0, Value.int .i64 0, Value.int .i64 0, Value.int .i64 0, Value.int .u8 0, Value.int .u8 0, Value.int .u8 0, Value.int .u8 0, Value.int .u8 0, Value.int .u8 0, Value.int .u8 0, Value.int .u8 0, Value.int .u8 0, Value.int .u8 0, Value.int .u8 0, Value.int .u8 0, Value.int .u8 0, Value.int .u8 0, Value.int .u8 0, Value.int .u8 0, Value.int .u8 0, Value.int .u8 0, Value.int .u8 0, Value.int .u8 0, Value.int .u8 0, Value.int .u8 0, Value.int .u8 0, Value.int .u8 0, Value.int .u8 0, Value.int .u8 0, Value.int .u8 0, Value.int .u8 0, Value.int .u8 0, Value.int .u8 0, Value.int .u8 0, Value.int .u8 0] 38)) := ((Below.refl _ _).alloc (Nat.le_refl _) _).alloc (by simp) _
  have HD1 := hid hd1
  have HLD := hid hld
  have HZ := hid hz
  have HI0 := hid hi0
  have HL0 := hid hl0
  have H1 := hid h1
  have HB1 := hid hb1
  have HBL := hid hbl
  clear hd1 hld hz hi0 h1 hl0 hb1 hbl
  go_enter Try.func34, Try.ntmps34
  go_wp2_with (with_reducible refine wpList_ld rfl (.agg (headL c la ln nx hp sd).toArray) 38 (.tmp 1) (.pointer (some ⟨w.heap.size, 0, none⟩)) rfl rfl (HLD.out) ?_; refine stop ?_)
  refine Stop.on ?_
  go_wp2_with (with_reducible refine Blk.wpList_st rfl 38 (.tmp 3) (.tmp 4) rfl (HZ.out) (g := w.heap.size + 1) (o := 0) rfl rfl HL0.out HI0.out H1.out ?_; refine stop ?_)
  refine Stop.on ?_
  have hb2 := HZ.out.sets_all (vs := headL c la ln nx hp sd) (by rw [HL.out]; rfl)
  have hb3 := Blk.others (g' := w.heap.size + 1) (by omega) (headL c la ln nx hp sd) 0 HB1.out
  have hbl2 := below_setCells (B := w.heap.size) (g := w.heap.size + 1) (by omega) (headL c la ln nx hp sd) 0 HBL.out
  have hsz : (((w.alloc (.cells (headL c la ln nx hp sd).toArray 38)).alloc (.cells #[Value.int .i64 0, Value.int .i64 0, Value.int .i64 0, Value.int .i64 0, Value.int .i64 0, Value.int .u8 0, Value.int .u8 0, Value.int .u8 0, Value.int .u8 0, Value.int .u8 0, Value.int .u8 0, Value.int .u8 0, Value.int .u8 0, Value.int .u8 0, Value.int .u8 0, Value.int .u8 0, Value.int .u8 0, Value.int .u8 0, Value.int .u8 0, Value.int .u8 0, Value.int .u8 0, Value.int .u8 0, Value.int .u8 0, Value.int .u8 0, Value.int .u8 0, Value.int .u8 0, Value.int .u8 0, Value.int .u8 0, Value.int .u8 0, Value.int .u8 0, Value.int .u8 0, Value.int .u8 0, Value.int .u8 0, Value.int .u8 0, Value.int .u8 0, Value.int .u8 0, Value.int .u8 0] 38)).setCells (w.heap.size + 1) 0 (headL c la ln nx hp sd)).heap.size = w.heap.size + 2 := by rw [size_setCells]; simp
  clear HD1 HLD HZ HI0 HL0 H1 HB1 HBL
  generalize hw2 : ((w.alloc (.cells (headL c la ln nx hp sd).toArray 38)).alloc (.cells #[Value.int .i64 0, Value.int .i64 0, Value.int .i64 0, Value.int .i64 0, Value.int .i64 0, Value.int .u8 0, Value.int .u8 0, Value.int .u8 0, Value.int .u8 0, Value.int .u8 0, Value.int .u8 0, Value.int .u8 0, Value.int .u8 0, Value.int .u8 0, Value.int .u8 0, Value.int .u8 0, Value.int .u8 0, Value.int .u8 0, Value.int .u8 0, Value.int .u8 0, Value.int .u8 0, Value.int .u8 0, Value.int .u8 0, Value.int .u8 0, Value.int .u8 0, Value.int .u8 0, Value.int .u8 0, Value.int .u8 0, Value.int .u8 0, Value.int .u8 0, Value.int .u8 0, Value.int .u8 0, Value.int .u8 0, Value.int .u8 0, Value.int .u8 0, Value.int .u8 0, Value.int .u8 0] 38)).setCells (w.heap.size + 1) 0 (headL c la ln nx hp sd) = w2 at *
  clear hw2
  go_wp2_with fail
  have hq := SB.start (B := w.heap.size + 1) (w0 := w2) (by omega)
  have hne : Nonempty (SBW (w.heap.size + 1) w2) := Cls.ne (SB.refl (by omega))
  have f0 : ∀ u : SBW (w.heap.size + 1) w2, u.w.cell? ⟨w.heap.size, 0, none⟩ = some (.int .i64 c) := fun u => u.cell (hb3.cell (j := 0) rfl) (by omega)
  have f1 : ∀ u : SBW (w.heap.size + 1) w2, u.w.cell? ⟨w.heap.size, 1, none⟩ = some (.int .i64 la) := fun u => u.cell (hb3.cell (j := 1) rfl) (by omega)
  have c0 : w2.cell? ⟨w.heap.size + 1, 0, none⟩ = some (.int .i64 c) := hb2.cell (j := 0) rfl
  have c1 : w2.cell? ⟨w.heap.size + 1, 1, none⟩ = some (.int .i64 la) := hb2.cell (j := 1) rfl
  have z0 : w2.frozen? ⟨w.heap.size + 1, 0, none⟩ = false := hb2.free 0
  have z1 : w2.frozen? ⟨w.heap.size + 1, 1, none⟩ = false := hb2.free 1
  have HB2 := hid hb2
  have HB3 := hid hb3
  have HBL2 := hid hbl2
  have HSZ := hid hsz
  clear hb2 hb3 hbl2 hsz
  refine wp_region_segs (fun wq => ∃ u : SBW (w.heap.size + 1) (w2), wq = u.w) ((0, 0) :: (1, 0) :: (3, 0) :: (4, 0) :: (2, 1) :: (6, 0) :: (5, 1) :: (7, 1) :: (8, 0) :: (9, 1) :: []) (by kernel_rfl) (by kernel_rfl) (by kernel_rfl) (by kernel_rfl) (inC hq) ?_
  have hs2 : w.heap.size + 2 ≤ w2.heap.size := Nat.le_of_eq HSZ.out.symm
  refine seg_held _ rfl ?_; go_big_quiet_step (fail); refine wpQuiet_nil ?_ -- 0 fieldAddr
  refine seg_held _ rfl ?_; go_big_quiet_step (fail); refine wpQuiet_nil ?_ -- 1 load
  refine seg_held _ rfl ?_; go_big_quiet_step (fail); refine wpQuiet_nil ?_ -- 3 fieldAddr
  refine seg_held _ rfl ?_; go_big_quiet_step (fail); refine wpQuiet_nil ?_ -- 4 load
  refine seg_loud _ rfl rfl ?_; intro K hK -- 2 call harrier/six.within
  go_wp2_with fail
  refine (within_calls _ _ _).mono ?_
  rintro e w' ⟨rfl, rfl⟩
  go_wp2_with fail
  refine ⟨_, fun _ h => h, inC (by repeat (first | with_reducible assumption | with_reducible refine SB.drew ?_ | with_reducible refine SB.set ?_ (by first | exact Nat.le_refl _ | omega | (simp; omega)) _ | with_reducible refine SB.alloc ?_ _ | with_reducible refine sb_sets ?_ (by first | exact Nat.le_refl _ | omega | (simp; omega)) _ _ | with_reducible exact SB.refl (by omega))), ?_⟩
  refine seg_held _ rfl ?_; go_big_quiet_step (fail); refine wpQuiet_nil ?_ -- 6 fieldAddr
  refine seg_loud _ rfl rfl ?_; intro K hK -- 5 call harrier/six.within
  go_wp2_with fail
  refine (within_calls _ _ _).mono ?_
  rintro e w' ⟨rfl, rfl⟩
  go_wp2_with fail
  refine ⟨_, fun _ h => h, inC (by repeat (first | with_reducible assumption | with_reducible refine SB.drew ?_ | with_reducible refine SB.set ?_ (by first | exact Nat.le_refl _ | omega | (simp; omega)) _ | with_reducible refine SB.alloc ?_ _ | with_reducible refine sb_sets ?_ (by first | exact Nat.le_refl _ | omega | (simp; omega)) _ _ | with_reducible exact SB.refl (by omega))), ?_⟩
  refine seg_loud _ rfl rfl ?_; intro K hK -- 7 store
  go_wp2_with fail
  refine ⟨_, fun _ h => h, inC (by repeat (first | with_reducible assumption | with_reducible refine SB.drew ?_ | with_reducible refine SB.set ?_ (by first | exact Nat.le_refl _ | omega | (simp; omega)) _ | with_reducible refine SB.alloc ?_ _ | with_reducible refine sb_sets ?_ (by first | exact Nat.le_refl _ | omega | (simp; omega)) _ _ | with_reducible exact SB.refl (by omega))), ?_⟩
  refine seg_held _ rfl ?_; go_big_quiet_step (fail); refine wpQuiet_nil ?_ -- 8 fieldAddr
  refine seg_loud _ rfl rfl ?_; intro K hK -- 9 store
  go_wp2_with fail
  refine ⟨_, fun _ h => h, inC (by repeat (first | with_reducible assumption | with_reducible refine SB.drew ?_ | with_reducible refine SB.set ?_ (by first | exact Nat.le_refl _ | omega | (simp; omega)) _ | with_reducible refine SB.alloc ?_ _ | with_reducible refine sb_sets ?_ (by first | exact Nat.le_refl _ | omega | (simp; omega)) _ _ | with_reducible exact SB.refl (by omega))), ?_⟩
  refine seg_name ?_; intro w3 hw3
  have hb4 : Blk w3 (w.heap.size + 1) 38 (headL (within c 255) (within la 1048575) ln nx hp sd) := by rw [hw3]; exact ((HB2.out.set 0 _).set 1 _).drew
  have hb5 : Blk w3 w.heap.size 38 (headL c la ln nx hp sd) := by rw [hw3]; exact ((HB3.out.other (by simp) _).other (by simp) _).drew
  have hbl3 : Below w.heap.size w w3 := by rw [hw3]; exact ((HBL2.out.setCell (by simp) _).setCell (by simp) _).drew
  have hs3 : w.heap.size + 2 ≤ w3.heap.size := by rw [hw3]; simpa using hs2
  clear hne f0 f1 c0 c1 z0 z1 HB2 HB3 HBL2 HSZ hs2 hq hw3
  go_wp2_with fail
  have hq := SB.start (B := w.heap.size + 1) (w0 := w3) (by omega)
  have hne : Nonempty (SBW (w.heap.size + 1) w3) := Cls.ne (SB.refl (by omega))
  have f0 : ∀ u : SBW (w.heap.size + 1) w3, u.w.cell? ⟨w.heap.size, 2, none⟩ = some (.int .i64 ln) := fun u => u.cell (hb5.cell (j := 2) rfl) (by omega)
  have f1 : ∀ u : SBW (w.heap.size + 1) w3, u.w.cell? ⟨w.heap.size, 3, none⟩ = some (.int .i64 nx) := fun u => u.cell (hb5.cell (j := 3) rfl) (by omega)
  have f2 : ∀ u : SBW (w.heap.size + 1) w3, u.w.cell? ⟨w.heap.size, 4, none⟩ = some (.int .i64 hp) := fun u => u.cell (hb5.cell (j := 4) rfl) (by omega)
  have c0 : w3.cell? ⟨w.heap.size + 1, 2, none⟩ = some (.int .i64 ln) := hb4.cell (j := 2) rfl
  have c1 : w3.cell? ⟨w.heap.size + 1, 3, none⟩ = some (.int .i64 nx) := hb4.cell (j := 3) rfl
  have c2 : w3.cell? ⟨w.heap.size + 1, 4, none⟩ = some (.int .i64 hp) := hb4.cell (j := 4) rfl
  have z0 := hb4.free 2
  have z1 := hb4.free 3
  have z2 := hb4.free 4
  have HB2 := hid hb4
  have HB3 := hid hb5
  have HBL2 := hid hbl3
  clear hb4 hb5 hbl3
  refine wp_region_segs (fun wq => ∃ u : SBW (w.heap.size + 1) (w3), wq = u.w) ((0, 0) :: (1, 0) :: (3, 0) :: (4, 0) :: (6, 0) :: (7, 0) :: (2, 1) :: (9, 0) :: (5, 1) :: (8, 1) :: (10, 1) :: (11, 0) :: (12, 1) :: (13, 0) :: (14, 1) :: []) (by kernel_rfl) (by kernel_rfl) (by kernel_rfl) (by kernel_rfl) (inC hq) ?_
  refine seg_held _ rfl ?_; go_big_quiet_step (fail); refine wpQuiet_nil ?_ -- 0 fieldAddr
  refine seg_held _ rfl ?_; go_big_quiet_step (fail); refine wpQuiet_nil ?_ -- 1 load
  refine seg_held _ rfl ?_; go_big_quiet_step (fail); refine wpQuiet_nil ?_ -- 3 fieldAddr
  refine seg_held _ rfl ?_; go_big_quiet_step (fail); refine wpQuiet_nil ?_ -- 4 load
  refine seg_held _ rfl ?_; go_big_quiet_step (fail); refine wpQuiet_nil ?_ -- 6 fieldAddr
  refine seg_held _ rfl ?_; go_big_quiet_step (fail); refine wpQuiet_nil ?_ -- 7 load
  refine seg_loud _ rfl rfl ?_; intro K hK -- 2 call harrier/six.within
  go_wp2_with fail
  refine (within_calls _ _ _).mono ?_
  rintro e w' ⟨rfl, rfl⟩
  go_wp2_with fail
  refine ⟨_, fun _ h => h, inC (by repeat (first | with_reducible assumption | with_reducible refine SB.drew ?_ | with_reducible refine SB.set ?_ (by first | exact Nat.le_refl _ | omega | (simp; omega)) _ | with_reducible refine SB.alloc ?_ _ | with_reducible refine sb_sets ?_ (by first | exact Nat.le_refl _ | omega | (simp; omega)) _ _ | with_reducible exact SB.refl (by omega))), ?_⟩
  refine seg_held _ rfl ?_; go_big_quiet_step (fail); refine wpQuiet_nil ?_ -- 9 fieldAddr
  refine seg_loud _ rfl rfl ?_; intro K hK -- 5 call harrier/six.within
  go_wp2_with fail
  refine (within_calls _ _ _).mono ?_
  rintro e w' ⟨rfl, rfl⟩
  go_wp2_with fail
  refine ⟨_, fun _ h => h, inC (by repeat (first | with_reducible assumption | with_reducible refine SB.drew ?_ | with_reducible refine SB.set ?_ (by first | exact Nat.le_refl _ | omega | (simp; omega)) _ | with_reducible refine SB.alloc ?_ _ | with_reducible refine sb_sets ?_ (by first | exact Nat.le_refl _ | omega | (simp; omega)) _ _ | with_reducible exact SB.refl (by omega))), ?_⟩
  refine seg_loud _ rfl rfl ?_; intro K hK -- 8 call harrier/six.within
  go_wp2_with fail
  refine (within_calls _ _ _).mono ?_
  rintro e w' ⟨rfl, rfl⟩
  go_wp2_with fail
  refine ⟨_, fun _ h => h, inC (by repeat (first | with_reducible assumption | with_reducible refine SB.drew ?_ | with_reducible refine SB.set ?_ (by first | exact Nat.le_refl _ | omega | (simp; omega)) _ | with_reducible refine SB.alloc ?_ _ | with_reducible refine sb_sets ?_ (by first | exact Nat.le_refl _ | omega | (simp; omega)) _ _ | with_reducible exact SB.refl (by omega))), ?_⟩
  refine seg_loud _ rfl rfl ?_; intro K hK -- 10 store
  go_wp2_with fail
  refine ⟨_, fun _ h => h, inC (by repeat (first | with_reducible assumption | with_reducible refine SB.drew ?_ | with_reducible refine SB.set ?_ (by first | exact Nat.le_refl _ | omega | (simp; omega)) _ | with_reducible refine SB.alloc ?_ _ | with_reducible refine sb_sets ?_ (by first | exact Nat.le_refl _ | omega | (simp; omega)) _ _ | with_reducible exact SB.refl (by omega))), ?_⟩
  refine seg_held _ rfl ?_; go_big_quiet_step (fail); refine wpQuiet_nil ?_ -- 11 fieldAddr
  refine seg_loud _ rfl rfl ?_; intro K hK -- 12 store
  go_wp2_with fail
  refine ⟨_, fun _ h => h, inC (by repeat (first | with_reducible assumption | with_reducible refine SB.drew ?_ | with_reducible refine SB.set ?_ (by first | exact Nat.le_refl _ | omega | (simp; omega)) _ | with_reducible refine SB.alloc ?_ _ | with_reducible refine sb_sets ?_ (by first | exact Nat.le_refl _ | omega | (simp; omega)) _ _ | with_reducible exact SB.refl (by omega))), ?_⟩
  refine seg_held _ rfl ?_; go_big_quiet_step (fail); refine wpQuiet_nil ?_ -- 13 fieldAddr
  refine seg_loud _ rfl rfl ?_; intro K hK -- 14 store
  go_wp2_with fail
  refine ⟨_, fun _ h => h, inC (by repeat (first | with_reducible assumption | with_reducible refine SB.drew ?_ | with_reducible refine SB.set ?_ (by first | exact Nat.le_refl _ | omega | (simp; omega)) _ | with_reducible refine SB.alloc ?_ _ | with_reducible refine sb_sets ?_ (by first | exact Nat.le_refl _ | omega | (simp; omega)) _ _ | with_reducible exact SB.refl (by omega))), ?_⟩
  refine seg_name ?_; intro w4 hw4
  have hb4 : Blk w4 (w.heap.size + 1) 38 (headL (within c 255) (within la 1048575) (within ln 65535) (within nx 255) (within hp 255) sd) := by rw [hw4]; exact (((HB2.out.set 2 _).set 3 _).set 4 _).drew
  have hb5 : Blk w4 w.heap.size 38 (headL c la ln nx hp sd) := by rw [hw4]; exact (((HB3.out.other (by simp) _).other (by simp) _).other (by simp) _).drew
  have hbl3 : Below w.heap.size w w4 := by rw [hw4]; exact (((HBL2.out.setCell (by simp) _).setCell (by simp) _).setCell (by simp) _).drew
  clear hne f0 f1 f2 c0 c1 c2 z0 z1 z2 HB2 HB3 HBL2 hs3 hq hw4
  have hl1 := hb4.ld_all (P := Try.prog) Try.underlying38 rfl (by rw [headL_len HSD.out]; kernel_rfl)
  have hl2 := hb5.ld_all (P := Try.prog) Try.underlying38 rfl (by rw [headL_len HSD.out]; kernel_rfl)
  have HL1 := hid hl1
  have HL2 := hid hl2
  have HBL := hid hbl3
  clear hb4 hb5 hl1 hl2 hbl3
  have hne := fun w => neq_flat (P := Try.prog) (d := 3) (t := 38) (ks := headK) (by kernel_rfl) rfl (by kernel_rfl) (headN_len (c := within c 255) (la := within la 1048575) (ln := within ln 65535) (nx := within nx 255) (hp := within hp 255) HSD.out) (headN_len (c := c) (la := la) (ln := ln) (nx := nx) (hp := hp) HSD.out) w
  rw [← headL_ints HSD.out, ← headL_ints HSD.out] at hne
  go_wp2_with (with_reducible refine wpList_ld rfl (.agg (headL (within c 255) (within la 1048575) (within ln 65535) (within nx 255) (within hp 255) sd).toArray) 38 (.tmp 3) (.pointer (some ⟨w.heap.size + 1, 0, none⟩)) rfl rfl (HL1.out) ?_; refine stop ?_)
  refine Stop.on ?_
  go_wp2_with (with_reducible refine wpList_ld rfl (.agg (headL c la ln nx hp sd).toArray) 38 (.tmp 1) (.pointer (some ⟨w.heap.size, 0, none⟩)) rfl rfl (HL2.out) ?_; refine stop ?_)
  refine Stop.on ?_
  have hgd := fun w => run_eqGuard_agg (P := Try.prog) w .neq 38 (.tmp 25) (.tmp 26) (headL (within c 255) (within la 1048575) (within ln 65535) (within nx 255) (within hp 255) sd).toArray (headL c la ln nx hp sd).toArray (by kernel_rfl)
  have hin : headN (within c 255) (within la 1048575) (within ln 65535) (within nx 255) (within hp 255) sd = headN c la ln nx hp sd ↔ okH c la ln nx hp := by
    rw [headN_inj, within_eq (by omega), within_eq (by omega), within_eq (by omega), within_eq (by omega), within_eq (by omega)]
    rfl
  by_cases ok : okH c la ln nx hp
  · have hbb : (headN (within c 255) (within la 1048575) (within ln 65535) (within nx 255) (within hp 255) sd != headN c la ln nx hp sd) = false := by rw [hin.2 ok]; simp
    have hc : canH c la ln nx hp = 0 := by unfold canH; rw [if_pos ok]
    rw [hbb] at hne
    have HC := hid hc
    clear hin ok hbb hc HL1 HL2
    go_wp2
    go_ret
    exact ⟨by rw [HC.out]; rfl, HBL.out⟩
  · have hbb : (headN (within c 255) (within la 1048575) (within ln 65535) (within nx 255) (within hp 255) sd != headN c la ln nx hp sd) = true := by
      rw [bne_iff_ne]; exact mt hin.1 ok
    have hc : canH c la ln nx hp = 2 := by unfold canH; rw [if_neg ok]
    rw [hbb] at hne
    have HC := hid hc
    clear hin ok hbb hc HL1 HL2
    go_wp2
    go_ret
    exact ⟨by rw [HC.out]; rfl, HBL.out⟩
end Go.Proofs.Ytmenonijbcljdaa
