/- The laws of layer 2: the checks, and what is fine. -/
import Derived.Test.YtkibjkpmdlikiaaCksl
import Derived.Test.YtkibjkpmdlikiaaMem
namespace Go.Proofs.Ytkibjkpmdlikiaa
open Go.RowKit Go.Mix Go.Bas

theorem end_src (e : List UInt8) (he : e.length = 32) {w : World} {b : Nat} (hc : ∀ j, j < e.length → w.cell? ⟨b, j, none⟩ = some (.int .u8 (gt e j))) :
    (Instr.loadAt 31 (.pointer (some ⟨b, 0, none⟩))).run Try.prog w = .ok (av (e.take 16)) w := by
  have h := ld_bytes (P := Try.prog) (t := 31) (off := 0) (m := 16) Try.underlying31 rfl (by kernel_rfl) hc (by omega)
  rwa [List.drop_zero] at h
theorem end_dst (e : List UInt8) (he : e.length = 32) {w : World} {b : Nat} (hc : ∀ j, j < e.length → w.cell? ⟨b, j, none⟩ = some (.int .u8 (gt e j))) :
    (Instr.loadAt 31 (.pointer (some ⟨b, 16, none⟩))).run Try.prog w = .ok (av (e.drop 16)) w := by
  have h := ld_bytes (P := Try.prog) (t := 31) (off := 16) (m := 16) Try.underlying31 rfl (by kernel_rfl) hc (by omega)
  rwa [List.take_of_length_le (by simp; omega)] at h

set_option maxHeartbeats 1000000 in
theorem CksumChecks_calls (en : List UInt8) (y z : Int) (A : Option Addr) (n c : Nat) (l : List UInt8) (w : World) (he : en.length = 32) (h : Bs w A n c l) (hsz : n ≤ 140737488355327) :
    Calls Try.prog 4 #[av en, .agg #[.int .i64 y, .int .i64 z], .slice A n c] w fun e w' => e = .returned (.bool true) ∧ Below w.heap.size w w' := by
  have hsz' : n ≤ 140737488355328 := by omega
  obtain ⟨src, hsrc⟩ : ∃ s, s = en.take 16 := ⟨_, rfl⟩
  obtain ⟨dst, hdst⟩ : ∃ s, s = en.drop 16 := ⟨_, rfl⟩
  have hs : src.length = 16 := by subst hsrc; simp; omega
  have hd : dst.length = 16 := by subst hdst; simp; omega
  have hb0 : Below w.heap.size w ((w.alloc (.cells (en.map bv).toArray 33)).alloc (.cells #[.int .i64 y, .int .i64 z] 34)) := ((Below.refl _ _).alloc (Nat.le_refl _) _).alloc (by simp) _
  have hcn := cells_new w en 33
  have hce : ∀ j, j < en.length → ((w.alloc (.cells (en.map bv).toArray 33)).alloc (.cells #[.int .i64 y, .int .i64 z] 34)).cell? ⟨w.heap.size, j, none⟩ = some (.int .u8 (gt en j)) := fun j hj => by
    exact (((Below.refl _ _).alloc (B := (w.alloc (.cells (en.map bv).toArray 33)).heap.size) (Nat.le_refl _) _).cell (p := ⟨w.heap.size, j, none⟩) (by simp)).trans (hcn j hj)
  have hc0 : ((w.alloc (.cells (en.map bv).toArray 33)).alloc (.cells #[.int .i64 y, .int .i64 z] 34)).cell? ⟨w.heap.size + 1, 0, none⟩ = some (.int .i64 y) := by
    simp
  have hc1 : ((w.alloc (.cells (en.map bv).toArray 33)).alloc (.cells #[.int .i64 y, .int .i64 z] 34)).cell? ⟨w.heap.size + 1, 1, none⟩ = some (.int .i64 z) := by
    simp
  have hz : ((w.alloc (.cells (en.map bv).toArray 33)).alloc (.cells #[.int .i64 y, .int .i64 z] 34)).heap.size = w.heap.size + 2 := by simp
  have h0 := h.step hb0
  clear hcn
  unfold av
  go_enter Try.func4, Try.ntmps4
  go_wp2_with fail
  generalize ((w.alloc (.cells (en.map bv).toArray 33)).alloc (.cells #[.int .i64 y, .int .i64 z] 34)) = w0 at *
  have hne : Nonempty (SBW w0.heap.size w0) := Cls.ne (SB.refl (Nat.le_refl _))
  have hk0 : ∀ u : SBW w0.heap.size w0, u.w.cell? ⟨w.heap.size + 1, 0, none⟩ = some (.int .i64 y) := fun u => u.cell hc0 (by omega)
  have hk1 : ∀ u : SBW w0.heap.size w0, u.w.cell? ⟨w.heap.size + 1, 1, none⟩ = some (.int .i64 z) := fun u => u.cell hc1 (by omega)
  have LS := hid (show ∀ w1, (∃ u : SBW w0.heap.size w0, w1 = u.w) → (Instr.loadAt 31 (.pointer (some ⟨w.heap.size, 0, none⟩))).run Try.prog w1 = .ok (av src) w1 by
    rintro _ ⟨u, rfl⟩; rw [hsrc]; exact end_src en he fun j hj => u.cell (hce j hj) (by omega))
  have LD := hid (show ∀ w1, (∃ u : SBW w0.heap.size w0, w1 = u.w) → (Instr.loadAt 31 (.pointer (some ⟨w.heap.size, 16, none⟩))).run Try.prog w1 = .ok (av dst) w1 by
    rintro _ ⟨u, rfl⟩; rw [hdst]; exact end_dst en he fun j hj => u.cell (hce j hj) (by omega))
  have hq := SB.start (w0 := w0) (Nat.le_refl _)
  have HLN := hid h.len
  have HE := hid hsrc
  have HD := hid hdst
  clear hc0 hc1 hz hce hsrc hdst
  refine wp_region_segs (fun w1 => ∃ u : SBW w0.heap.size w0, w1 = u.w) ((0, 0) :: (1, 0) :: (2, 0) :: (3, 0) :: (4, 0) :: (5, 0) :: (6, 0) :: (7, 0) :: (9, 0) :: (10, 0) :: (11, 0) :: (12, 0) :: (13, 0) :: (14, 0) :: (15, 0) :: (16, 0) :: (8, 1) :: (17, 1) :: (18, 0) :: (19, 0) :: (20, 0) :: (21, 0) :: (22, 0) :: (23, 0) :: (24, 0) :: (25, 0) :: (26, 0) :: (28, 0) :: (29, 0) :: (30, 0) :: (31, 0) :: (32, 0) :: (33, 0) :: (34, 0) :: (27, 1) :: (35, 1) :: (36, 0) :: (37, 0) :: (38, 0) :: (39, 0) :: (40, 0) :: (41, 0) :: (42, 0) :: (43, 0) :: (44, 0) :: (45, 0) :: (47, 0) :: (48, 0) :: (49, 0) :: (50, 0) :: (51, 0) :: (52, 0) :: (53, 0) :: (46, 1) :: (54, 1) :: (55, 0) :: (56, 0) :: (57, 0) :: (58, 1) :: (59, 0) :: (60, 0) :: []) (by kernel_rfl) (by kernel_rfl) (by kernel_rfl) (by kernel_rfl) (inC hq) ?_
  refine seg_held _ rfl ?_; go_big_quiet_step (fail); refine wpQuiet_nil ?_ -- 0 fieldAddr
  (first | refine seg_ld _ (av src) _ _ _ LS.out rfl rfl rfl rfl ?_ | refine seg_ld _ (av dst) _ _ _ LD.out rfl rfl rfl rfl ?_); go_frame -- 1 load
  refine seg_held _ rfl ?_; go_big_quiet_step (fail); refine wpQuiet_nil ?_ -- 2 fieldAddr
  (first | refine seg_ld _ (av src) _ _ _ LS.out rfl rfl rfl rfl ?_ | refine seg_ld _ (av dst) _ _ _ LD.out rfl rfl rfl rfl ?_); go_frame -- 3 load
  refine seg_held _ rfl ?_; go_big_quiet_step (fail); refine wpQuiet_nil ?_ -- 4 indexAddr
  refine seg_held _ rfl ?_; go_big_quiet_step (fail); refine wpQuiet_nil ?_ -- 5 load
  refine seg_held _ rfl ?_; go_big_quiet_step (fail); refine wpQuiet_nil ?_ -- 6 indexAddr
  refine seg_held _ rfl ?_; go_big_quiet_step (fail); refine wpQuiet_nil ?_ -- 7 load
  refine seg_held _ rfl ?_; go_big_quiet_step (fail); refine wpQuiet_nil ?_ -- 9 fieldAddr
  (first | refine seg_ld _ (av src) _ _ _ LS.out rfl rfl rfl rfl ?_ | refine seg_ld _ (av dst) _ _ _ LD.out rfl rfl rfl rfl ?_); go_frame -- 10 load
  refine seg_held _ rfl ?_; go_big_quiet_step (fail); refine wpQuiet_nil ?_ -- 11 fieldAddr
  (first | refine seg_ld _ (av src) _ _ _ LS.out rfl rfl rfl rfl ?_ | refine seg_ld _ (av dst) _ _ _ LD.out rfl rfl rfl rfl ?_); go_frame -- 12 load
  refine seg_held _ rfl ?_; go_big_quiet_step (fail); refine wpQuiet_nil ?_ -- 13 indexAddr
  refine seg_held _ rfl ?_; go_big_quiet_step (fail); refine wpQuiet_nil ?_ -- 14 load
  refine seg_held _ rfl ?_; go_big_quiet_step (fail); refine wpQuiet_nil ?_ -- 15 indexAddr
  refine seg_held _ rfl ?_; go_big_quiet_step (fail); refine wpQuiet_nil ?_ -- 16 load
  refine seg_loud _ rfl rfl ?_; intro K hK -- 8 call harrier/cksum.Pseudo
  go_wp2_with fail
  refine (Pseudo_calls src dst _ _ _ hs hd).mono ?_
  rintro e w' ⟨rfl, hb'⟩
  go_wp2_with fail
  replace hq := hq.step hb'; clear hb'
  refine ⟨_, fun _ h => h, inC hq, ?_⟩
  refine seg_loud _ rfl rfl ?_; intro K hK -- 17 call harrier/harrierref02.Pseudo
  go_wp2_with fail
  refine (rPseudo_calls src dst _ _ _ hs hd).mono ?_
  rintro e w' ⟨rfl, hb'⟩
  go_wp2_with fail
  replace hq := hq.step hb'; clear hb'
  refine ⟨_, fun _ h => h, inC hq, ?_⟩
  refine seg_held _ rfl ?_; go_big_quiet_step (fail); refine wpQuiet_nil ?_ -- 18 binOp
  refine seg_held _ rfl ?_; go_big_quiet_step (fail); refine wpQuiet_nil ?_ -- 19 move
  refine seg_held _ rfl ?_; go_big_quiet_step (fail); refine wpQuiet_nil ?_ -- 20 fieldAddr
  (first | refine seg_ld _ (av src) _ _ _ LS.out rfl rfl rfl rfl ?_ | refine seg_ld _ (av dst) _ _ _ LD.out rfl rfl rfl rfl ?_); go_frame -- 21 load
  refine seg_held _ rfl ?_; go_big_quiet_step (fail); refine wpQuiet_nil ?_ -- 22 fieldAddr
  (first | refine seg_ld _ (av src) _ _ _ LS.out rfl rfl rfl rfl ?_ | refine seg_ld _ (av dst) _ _ _ LD.out rfl rfl rfl rfl ?_); go_frame -- 23 load
  refine seg_held _ rfl ?_; go_big_quiet_step (fail); refine wpQuiet_nil ?_ -- 24 indexAddr
  refine seg_held _ rfl ?_; go_big_quiet_step (fail); refine wpQuiet_nil ?_ -- 25 load
  refine seg_held _ rfl ?_; go_big_quiet_step (fail); refine wpQuiet_nil ?_ -- 26 move
  refine seg_held _ rfl ?_; go_big_quiet_step (fail); refine wpQuiet_nil ?_ -- 28 fieldAddr
  (first | refine seg_ld _ (av src) _ _ _ LS.out rfl rfl rfl rfl ?_ | refine seg_ld _ (av dst) _ _ _ LD.out rfl rfl rfl rfl ?_); go_frame -- 29 load
  refine seg_held _ rfl ?_; go_big_quiet_step (fail); refine wpQuiet_nil ?_ -- 30 fieldAddr
  (first | refine seg_ld _ (av src) _ _ _ LS.out rfl rfl rfl rfl ?_ | refine seg_ld _ (av dst) _ _ _ LD.out rfl rfl rfl rfl ?_); go_frame -- 31 load
  refine seg_held _ rfl ?_; go_big_quiet_step (fail); refine wpQuiet_nil ?_ -- 32 indexAddr
  refine seg_held _ rfl ?_; go_big_quiet_step (fail); refine wpQuiet_nil ?_ -- 33 load
  refine seg_held _ rfl ?_; go_big_quiet_step (fail); refine wpQuiet_nil ?_ -- 34 move
  refine seg_loud _ rfl rfl ?_; intro K hK -- 27 call harrier/cksum.Check
  go_wp2_with fail
  refine (Check_calls src dst _ _ _ _ l _ hs hd (h0.step hq.1) hsz').mono ?_
  rintro e w' ⟨rfl, hb'⟩
  go_wp2_with fail
  replace hq := hq.step hb'; clear hb'
  refine ⟨_, fun _ h => h, inC hq, ?_⟩
  refine seg_loud _ rfl rfl ?_; intro K hK -- 35 call harrier/harrierref02.Check
  go_wp2_with fail
  refine (rCheck_calls src dst _ _ _ _ l _ hs hd (h0.step hq.1) hsz).mono ?_
  rintro e w' ⟨rfl, hb'⟩
  go_wp2_with fail
  replace hq := hq.step hb'; clear hb'
  refine ⟨_, fun _ h => h, inC hq, ?_⟩
  refine seg_held _ rfl ?_; go_big_quiet_step (fail); refine wpQuiet_nil ?_ -- 36 binOp
  refine seg_held _ rfl ?_; go_big_quiet_step (fail); refine wpQuiet_nil ?_ -- 37 pick
  refine seg_held _ rfl ?_; go_big_quiet_step (fail); refine wpQuiet_nil ?_ -- 38 move
  refine seg_held _ rfl ?_; go_big_quiet_step (fail); refine wpQuiet_nil ?_ -- 39 fieldAddr
  (first | refine seg_ld _ (av src) _ _ _ LS.out rfl rfl rfl rfl ?_ | refine seg_ld _ (av dst) _ _ _ LD.out rfl rfl rfl rfl ?_); go_frame -- 40 load
  refine seg_held _ rfl ?_; go_big_quiet_step (fail); refine wpQuiet_nil ?_ -- 41 fieldAddr
  (first | refine seg_ld _ (av src) _ _ _ LS.out rfl rfl rfl rfl ?_ | refine seg_ld _ (av dst) _ _ _ LD.out rfl rfl rfl rfl ?_); go_frame -- 42 load
  refine seg_held _ rfl ?_; go_big_quiet_step (fail); refine wpQuiet_nil ?_ -- 43 indexAddr
  refine seg_held _ rfl ?_; go_big_quiet_step (fail); refine wpQuiet_nil ?_ -- 44 load
  refine seg_held _ rfl ?_; go_big_quiet_step (fail); refine wpQuiet_nil ?_ -- 45 move
  refine seg_held _ rfl ?_; go_big_quiet_step (fail); refine wpQuiet_nil ?_ -- 47 fieldAddr
  (first | refine seg_ld _ (av src) _ _ _ LS.out rfl rfl rfl rfl ?_ | refine seg_ld _ (av dst) _ _ _ LD.out rfl rfl rfl rfl ?_); go_frame -- 48 load
  refine seg_held _ rfl ?_; go_big_quiet_step (fail); refine wpQuiet_nil ?_ -- 49 fieldAddr
  (first | refine seg_ld _ (av src) _ _ _ LS.out rfl rfl rfl rfl ?_ | refine seg_ld _ (av dst) _ _ _ LD.out rfl rfl rfl rfl ?_); go_frame -- 50 load
  refine seg_held _ rfl ?_; go_big_quiet_step (fail); refine wpQuiet_nil ?_ -- 51 indexAddr
  refine seg_held _ rfl ?_; go_big_quiet_step (fail); refine wpQuiet_nil ?_ -- 52 load
  refine seg_held _ rfl ?_; go_big_quiet_step (fail); refine wpQuiet_nil ?_ -- 53 move
  refine seg_loud _ rfl rfl ?_; intro K hK -- 46 call harrier/cksum.Fine
  go_wp2_with fail
  refine (Fine_calls src dst _ _ _ _ l _ hs hd (h0.step hq.1) hsz').mono ?_
  rintro e w' ⟨rfl, hb'⟩
  go_wp2_with fail
  replace hq := hq.step hb'; clear hb'
  refine ⟨_, fun _ h => h, inC hq, ?_⟩
  refine seg_loud _ rfl rfl ?_; intro K hK -- 54 call harrier/harrierref02.Fine
  go_wp2_with fail
  refine (rFine_calls src dst _ _ _ _ l _ hs hd (h0.step hq.1) hsz).mono ?_
  rintro e w' ⟨rfl, hb'⟩
  go_wp2_with fail
  replace hq := hq.step hb'; clear hb'
  refine ⟨_, fun _ h => h, inC hq, ?_⟩
  refine seg_held _ rfl ?_; go_big_quiet_step (fail); refine wpQuiet_nil ?_ -- 55 binOp
  refine seg_held _ rfl ?_; go_big_quiet_step (fail); refine wpQuiet_nil ?_ -- 56 pick
  refine seg_held _ rfl ?_; go_big_quiet_step (fail); refine wpQuiet_nil ?_ -- 57 move
  refine seg_loud _ rfl rfl ?_; intro K hK -- 58 call harrier/harrierlaw02.lives
  go_wp2_with fail
  refine (lives2_calls _).mono ?_
  rintro e w' ⟨rfl, hb'⟩
  go_wp2_with fail
  replace hq := hq.step hb'; clear hb'
  refine ⟨_, fun _ h => h, inC hq, ?_⟩
  refine seg_held _ rfl ?_; go_big_quiet_step (fail); refine wpQuiet_nil ?_ -- 59 pick
  refine seg_held _ rfl ?_; go_big_quiet_step (fail); refine wpQuiet_nil ?_ -- 60 assign
  refine seg_nil ?_
  have hbz := hb0.trans (hq.1.mono (Nat.le_trans hb0.size (Nat.le_refl _)))
  go_wp2
  go_ret
  exact ⟨rfl, hbz⟩

end Go.Proofs.Ytkibjkpmdlikiaa
