/- The laws of layer 2: the example, the sums, the updates. -/
import Derived.Test.YtkibjkpmdlikiaaCksc
import Derived.Test.YtkibjkpmdlikiaaCkspl
import Derived.Test.YtkibjkpmdlikiaaOctc
import Derived.Test.YtkibjkpmdlikiaaFrame
namespace Go.Proofs.Ytkibjkpmdlikiaa
open Go.RowKit Go.Mix Go.Bas

set_option maxHeartbeats 1000000 in
theorem lives2_calls (w : World) :
    Calls Try.prog 23 #[] w fun e w' => e = .returned (.bool true) ∧ Below w.heap.size w w' := by
  go_enter Try.func23, Try.ntmps23
  go_wp2_with fail
  refine (Sum_calls _ _ _ [1, 2, 3] _ (made_bs _ _ _ _ rfl rfl rfl (by simp)) (Nat.le_of_ble_eq_true rfl)).mono ?_; rintro e w1 ⟨rfl, q1⟩
  rw [show wsum 0 [1, 2, 3] = 1026 from by decide +kernel]
  have hb1 : Below w.heap.size w w1 := ((Below.refl _ _).alloc (Nat.le_refl _) _).trans (q1.mono (by simp))
  have hs1 := hb1.size
  clear q1
  go_wp2_with fail
  refine (jn_calls _ _ _).mono ?_; rintro e w2 ⟨rfl, rfl⟩
  rw [show jn 65535 2 = 2 from rfl]
  go_wp2_with fail
  refine (nt_calls _ _).mono ?_; rintro e w2 ⟨rfl, rfl⟩
  rw [show nt 0 = 65535 from rfl]
  go_wp2_with fail
  refine (Fine_calls (List.replicate 16 0) (List.replicate 16 0) 6 _ _ _ [] _ rfl rfl (Bs.nil _ _ _ (by omega)) (by omega)).mono ?_; rintro e w2 ⟨rfl, q2⟩
  rw [show (both (List.replicate 16 0) (List.replicate 16 0) 6 [] == 65535) = false from by decide +kernel]
  have hb2 := below_next hb1 q2
  clear q2 hb1
  go_wp2
  go_ret
  exact ⟨rfl, hb2⟩

set_option maxHeartbeats 1000000 in
theorem CksumSums_calls (A : Option Addr) (n c : Nat) (l : List UInt8) (x y z : Int) (w : World) (h : Bs w A n c l) (hsz : n ≤ 140737488355327) :
    Calls Try.prog 3 #[.slice A n c, .agg #[.int .i64 x, .int .i64 y, .int .i64 z]] w fun e w' => e = .returned (.bool true) ∧ Below w.heap.size w w' := by
  have hsz' : n ≤ 140737488355328 := by omega
  have hb0 : Below w.heap.size w (w.alloc (.cells #[.int .i64 x, .int .i64 y, .int .i64 z] 23)) := (Below.refl _ _).alloc (Nat.le_refl _) _
  have hc0 : (w.alloc (.cells #[.int .i64 x, .int .i64 y, .int .i64 z] 23)).cell? ⟨w.heap.size, 0, none⟩ = some (.int .i64 x) := by simp
  have hc1 : (w.alloc (.cells #[.int .i64 x, .int .i64 y, .int .i64 z] 23)).cell? ⟨w.heap.size, 1, none⟩ = some (.int .i64 y) := by simp
  have hc2 : (w.alloc (.cells #[.int .i64 x, .int .i64 y, .int .i64 z] 23)).cell? ⟨w.heap.size, 2, none⟩ = some (.int .i64 z) := by simp
  have hz : (w.alloc (.cells #[.int .i64 x, .int .i64 y, .int .i64 z] 23)).heap.size = w.heap.size + 1 := by simp
  have h0 := h.step hb0
  go_enter Try.func3, Try.ntmps3
  go_wp2_with fail
  generalize w.alloc (.cells #[.int .i64 x, .int .i64 y, .int .i64 z] 23) = w0 at *
  have hne : Nonempty (SBW w0.heap.size w0) := Cls.ne (SB.refl (Nat.le_refl _))
  have hk0 : ∀ u : SBW w0.heap.size w0, u.w.cell? ⟨w.heap.size, 0, none⟩ = some (.int .i64 x) := fun u => u.cell hc0 (by omega)
  have hk1 : ∀ u : SBW w0.heap.size w0, u.w.cell? ⟨w.heap.size, 1, none⟩ = some (.int .i64 y) := fun u => u.cell hc1 (by omega)
  have hk2 : ∀ u : SBW w0.heap.size w0, u.w.cell? ⟨w.heap.size, 2, none⟩ = some (.int .i64 z) := fun u => u.cell hc2 (by omega)
  have hq := SB.start (w0 := w0) (Nat.le_refl _)
  clear hc0 hc1 hc2 hz
  refine wp_region_segs (fun w1 => ∃ u : SBW w0.heap.size w0, w1 = u.w) ((0, 0) :: (2, 0) :: (1, 1) :: (3, 1) :: (4, 0) :: (5, 0) :: (6, 0) :: (7, 0) :: (8, 0) :: (9, 0) :: (11, 0) :: (12, 0) :: (13, 0) :: (14, 0) :: (10, 1) :: (15, 1) :: (16, 0) :: (17, 0) :: (18, 0) :: (19, 0) :: (20, 0) :: (22, 0) :: (23, 0) :: (21, 1) :: (24, 1) :: (25, 0) :: (26, 0) :: (27, 0) :: (28, 0) :: (29, 0) :: (30, 0) :: (31, 0) :: (32, 0) :: (33, 0) :: (35, 0) :: (36, 0) :: (37, 0) :: (38, 0) :: (39, 0) :: (40, 0) :: (34, 1) :: (41, 1) :: (42, 0) :: (43, 0) :: (44, 0) :: (45, 1) :: (46, 0) :: (47, 0) :: []) (by kernel_rfl) (by kernel_rfl) (by kernel_rfl) (by kernel_rfl) (inC hq) ?_
  refine seg_held _ rfl ?_; go_big_quiet_step (fail); refine wpQuiet_nil ?_ -- 0 move
  refine seg_held _ rfl ?_; go_big_quiet_step (fail); refine wpQuiet_nil ?_ -- 2 move
  refine seg_loud _ rfl rfl ?_; intro K hK -- 1 call harrier/cksum.Sum
  go_wp2_with fail
  refine (Sum_calls _ _ _ l _ (h0.step hq.1) hsz').mono ?_
  rintro e w' ⟨rfl, hb'⟩
  go_wp2_with fail
  replace hq := hq.step hb'; clear hb'
  refine ⟨_, fun _ h => h, inC hq, ?_⟩
  refine seg_loud _ rfl rfl ?_; intro K hK -- 3 call harrier/harrierref02.Sum
  go_wp2_with fail
  refine (rSum_calls _ _ _ l _ (h0.step hq.1) hsz).mono ?_
  rintro e w' ⟨rfl, hb'⟩
  go_wp2_with fail
  replace hq := hq.step hb'; clear hb'
  refine ⟨_, fun _ h => h, inC hq, ?_⟩
  refine seg_held _ rfl ?_; go_big_quiet_step (fail); refine wpQuiet_nil ?_ -- 4 binOp
  refine seg_held _ rfl ?_; go_big_quiet_step (fail); refine wpQuiet_nil ?_ -- 5 move
  refine seg_held _ rfl ?_; go_big_quiet_step (fail); refine wpQuiet_nil ?_ -- 6 indexAddr
  refine seg_held _ rfl ?_; go_big_quiet_step (fail); refine wpQuiet_nil ?_ -- 7 load
  refine seg_held _ rfl ?_; go_big_quiet_step (fail); refine wpQuiet_nil ?_ -- 8 indexAddr
  refine seg_held _ rfl ?_; go_big_quiet_step (fail); refine wpQuiet_nil ?_ -- 9 load
  refine seg_held _ rfl ?_; go_big_quiet_step (fail); refine wpQuiet_nil ?_ -- 11 indexAddr
  refine seg_held _ rfl ?_; go_big_quiet_step (fail); refine wpQuiet_nil ?_ -- 12 load
  refine seg_held _ rfl ?_; go_big_quiet_step (fail); refine wpQuiet_nil ?_ -- 13 indexAddr
  refine seg_held _ rfl ?_; go_big_quiet_step (fail); refine wpQuiet_nil ?_ -- 14 load
  refine seg_loud _ rfl rfl ?_; intro K hK -- 10 call harrier/cksum.Join
  go_wp2_with fail
  refine (jn_calls _ _ _).mono ?_
  rintro e w' ⟨rfl, rfl⟩
  go_wp2_with fail
  refine ⟨_, fun _ h => h, inC hq, ?_⟩
  refine seg_loud _ rfl rfl ?_; intro K hK -- 15 call harrier/harrierref02.Join
  go_wp2_with fail
  refine (rjn_calls _ _ _).mono ?_
  rintro e w' ⟨rfl, rfl⟩
  go_wp2_with fail
  refine ⟨_, fun _ h => h, inC hq, ?_⟩
  refine seg_held _ rfl ?_; go_big_quiet_step (fail); refine wpQuiet_nil ?_ -- 16 binOp
  refine seg_held _ rfl ?_; go_big_quiet_step (fail); refine wpQuiet_nil ?_ -- 17 pick
  refine seg_held _ rfl ?_; go_big_quiet_step (fail); refine wpQuiet_nil ?_ -- 18 move
  refine seg_held _ rfl ?_; go_big_quiet_step (fail); refine wpQuiet_nil ?_ -- 19 indexAddr
  refine seg_held _ rfl ?_; go_big_quiet_step (fail); refine wpQuiet_nil ?_ -- 20 load
  refine seg_held _ rfl ?_; go_big_quiet_step (fail); refine wpQuiet_nil ?_ -- 22 indexAddr
  refine seg_held _ rfl ?_; go_big_quiet_step (fail); refine wpQuiet_nil ?_ -- 23 load
  refine seg_loud _ rfl rfl ?_; intro K hK -- 21 call harrier/cksum.Not
  go_wp2_with fail
  refine (nt_calls _ _).mono ?_
  rintro e w' ⟨rfl, rfl⟩
  go_wp2_with fail
  refine ⟨_, fun _ h => h, inC hq, ?_⟩
  refine seg_loud _ rfl rfl ?_; intro K hK -- 24 call harrier/harrierref02.Not
  go_wp2_with fail
  refine (rnt_calls _ _).mono ?_
  rintro e w' ⟨rfl, rfl⟩
  go_wp2_with fail
  refine ⟨_, fun _ h => h, inC hq, ?_⟩
  refine seg_held _ rfl ?_; go_big_quiet_step (fail); refine wpQuiet_nil ?_ -- 25 binOp
  refine seg_held _ rfl ?_; go_big_quiet_step (fail); refine wpQuiet_nil ?_ -- 26 pick
  refine seg_held _ rfl ?_; go_big_quiet_step (fail); refine wpQuiet_nil ?_ -- 27 move
  refine seg_held _ rfl ?_; go_big_quiet_step (fail); refine wpQuiet_nil ?_ -- 28 indexAddr
  refine seg_held _ rfl ?_; go_big_quiet_step (fail); refine wpQuiet_nil ?_ -- 29 load
  refine seg_held _ rfl ?_; go_big_quiet_step (fail); refine wpQuiet_nil ?_ -- 30 indexAddr
  refine seg_held _ rfl ?_; go_big_quiet_step (fail); refine wpQuiet_nil ?_ -- 31 load
  refine seg_held _ rfl ?_; go_big_quiet_step (fail); refine wpQuiet_nil ?_ -- 32 indexAddr
  refine seg_held _ rfl ?_; go_big_quiet_step (fail); refine wpQuiet_nil ?_ -- 33 load
  refine seg_held _ rfl ?_; go_big_quiet_step (fail); refine wpQuiet_nil ?_ -- 35 indexAddr
  refine seg_held _ rfl ?_; go_big_quiet_step (fail); refine wpQuiet_nil ?_ -- 36 load
  refine seg_held _ rfl ?_; go_big_quiet_step (fail); refine wpQuiet_nil ?_ -- 37 indexAddr
  refine seg_held _ rfl ?_; go_big_quiet_step (fail); refine wpQuiet_nil ?_ -- 38 load
  refine seg_held _ rfl ?_; go_big_quiet_step (fail); refine wpQuiet_nil ?_ -- 39 indexAddr
  refine seg_held _ rfl ?_; go_big_quiet_step (fail); refine wpQuiet_nil ?_ -- 40 load
  refine seg_loud _ rfl rfl ?_; intro K hK -- 34 call harrier/cksum.Update
  go_wp2_with fail
  refine (upd_calls _ _ _ _).mono ?_
  rintro e w' ⟨rfl, rfl⟩
  go_wp2_with fail
  refine ⟨_, fun _ h => h, inC hq, ?_⟩
  refine seg_loud _ rfl rfl ?_; intro K hK -- 41 call harrier/harrierref02.Update
  go_wp2_with fail
  refine (rupd_calls _ _ _ _).mono ?_
  rintro e w' ⟨rfl, rfl⟩
  go_wp2_with fail
  refine ⟨_, fun _ h => h, inC hq, ?_⟩
  refine seg_held _ rfl ?_; go_big_quiet_step (fail); refine wpQuiet_nil ?_ -- 42 binOp
  refine seg_held _ rfl ?_; go_big_quiet_step (fail); refine wpQuiet_nil ?_ -- 43 pick
  refine seg_held _ rfl ?_; go_big_quiet_step (fail); refine wpQuiet_nil ?_ -- 44 move
  refine seg_loud _ rfl rfl ?_; intro K hK -- 45 call harrier/harrierlaw02.lives
  go_wp2_with fail
  refine (lives2_calls _).mono ?_
  rintro e w' ⟨rfl, hb'⟩
  go_wp2_with fail
  replace hq := hq.step hb'; clear hb'
  refine ⟨_, fun _ h => h, inC hq, ?_⟩
  refine seg_held _ rfl ?_; go_big_quiet_step (fail); refine wpQuiet_nil ?_ -- 46 pick
  refine seg_held _ rfl ?_; go_big_quiet_step (fail); refine wpQuiet_nil ?_ -- 47 assign
  refine seg_nil ?_
  have hbz := hb0.trans (hq.1.mono (Nat.le_trans hb0.size (Nat.le_refl _)))
  go_wp2
  go_ret
  exact ⟨rfl, hbz⟩

set_option maxHeartbeats 4000000 in
theorem CksumUpdates_calls (A : Option Addr) (n c : Nat) (l : List UInt8) (i k : Int) (w : World) (h : Bs w A n c l) (hsz : n ≤ 140737488355327) :
    Calls Try.prog 6 #[.slice A n c, .int .i64 i, .int .i64 k] w fun e w' => e = .returned (.bool true) ∧ Below w.heap.size w w' := by
  have hsz' : n ≤ 140737488355328 := by omega
  go_enter Try.func6, Try.ntmps6
  go_wp2_with fail
  refine (rU16_calls _ _ _ l _ _ h).mono ?_; rintro e w1 ⟨rfl, q1⟩
  have hb1 : Below w.heap.size w w1 := below_quiet q1
  have hs1 := hb1.size
  clear q1
  have h1 := h.step hb1
  by_cases hin : 0 ≤ i ∧ i + 2 ≤ l.length
  · obtain ⟨j, rfl⟩ := Int.eq_ofNat_of_zero_le hin.1
    have hj : j + 2 ≤ l.length := by omega
    clear hin
    rw [u16_at hj]
    by_cases hp : j % 2 = 1
    · have t1 : (((j : Nat) : Int).tmod 2 == 1) = true := by simp [Int.tmod_eq_emod_of_nonneg]; omega
      go_wp2_with fail
      refine (lives2_calls _).mono ?_; rintro e w2 ⟨rfl, q2⟩
      have hb2 := below_next hb1 q2
      clear q2 hb1
      go_wp2
      go_ret
      exact ⟨rfl, hb2⟩
    · have t1 : (((j : Nat) : Int).tmod 2 == 1) = false := by simp [Int.tmod_eq_emod_of_nonneg]; omega
      go_wp2_with fail
      refine (rSet16_calls _ _ _ l _ _ _ h1 hsz').mono ?_; rintro e w2 ⟨A2, n2, c2, rfl, ho2, q2⟩
      have hb2 := below_next hb1 q2
      clear q2 hb1
      have es : set16 l (j : Int) k = (l.take j ++ (two k ++ l.drop (j + 2)), true) := by unfold set16; rw [if_pos (by omega)]; simp
      rw [es] at ho2 ⊢
      have hx2 : Bs w2 A2 n2 c2 (l.take j ++ (two k ++ l.drop (j + 2))) := ho2.bs
      clear ho2 es
      have hx2l := hx2.len
      have hxl : (l.take j ++ (two k ++ l.drop (j + 2))).length = l.length := by simp [two]; omega
      have hll := h.len
      have hn2 : n2 ≤ 140737488355328 := by omega
      have HN2 := hid hn2
      have E0 := hid (update_law l j k hj (by omega))
      generalize hxs : l.take j ++ (two k ++ l.drop (j + 2)) = xs at *
      generalize hg : gt l j * 256 + gt l (j + 1) = g at *
      clear hxs hg hx2l hxl hll hn2 h1 hj hp t1
      by_cases hz : zeros xs = true
      · go_wp2_with fail
        refine (rZeros_calls _ _ _ _ _ hx2).mono ?_; rintro e w3 ⟨rfl, rfl⟩
        rw [hz]
        go_wp2_with fail
        refine (lives2_calls _).mono ?_; rintro e w3 ⟨rfl, q3⟩
        have hb3 := below_next hb2 q3
        clear q3 hb2
        go_wp2
        go_ret
        exact ⟨rfl, hb3⟩
      · have hz' := Bool.eq_false_iff.2 hz
        have E := hid (E0.out hz')
        clear E0 hz
        go_wp2_with fail
        refine (rZeros_calls _ _ _ _ _ hx2).mono ?_; rintro e w3 ⟨rfl, rfl⟩
        rw [hz']
        go_wp2_with fail
        refine (Sum_calls _ _ _ l _ (h.step hb2) hsz').mono ?_; rintro e w3 ⟨rfl, q3⟩
        have hb3 := below_next hb2 q3
        have hx3 := hx2.step q3
        clear q3 hb2 hx2
        go_wp2_with fail
        refine (nt_calls _ _).mono ?_; rintro e w' ⟨rfl, rfl⟩
        go_wp2_with fail
        refine (upd_calls _ _ _ _).mono ?_; rintro e w' ⟨rfl, rfl⟩
        go_wp2_with fail
        refine (Sum_calls _ _ _ _ _ hx3 HN2.out).mono ?_; rintro e w4 ⟨rfl, q4⟩
        have hb4 := below_next hb3 q4
        clear q4 hb3
        go_wp2_with fail
        refine (nt_calls _ _).mono ?_; rintro e w' ⟨rfl, rfl⟩
        rw [E.out]
        go_wp2_with fail
        refine (lives2_calls _).mono ?_; rintro e w5 ⟨rfl, q5⟩
        have hb5 := below_next hb4 q5
        clear q5 hb4
        go_wp2
        go_ret
        exact ⟨rfl, hb5⟩
  · have eu : u16 l i = (0, false) := by unfold u16; rw [if_neg (by omega)]
    rw [eu]
    go_wp2_with fail
    refine (lives2_calls _).mono ?_; rintro e w2 ⟨rfl, q2⟩
    have hb2 := below_next hb1 q2
    clear q2 hb1
    go_wp2
    go_ret
    exact ⟨rfl, hb2⟩
end Go.Proofs.Ytkibjkpmdlikiaa
