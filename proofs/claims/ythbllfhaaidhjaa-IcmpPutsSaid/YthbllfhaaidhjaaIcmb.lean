/- The walks of package icmp, second part: the bytes of a message, in the reference. -/
import Derived.Test.YthbllfhaaidhjaaIcma
namespace Go.Proofs.Ythbllfhaaidhjaa
open Go.RowKit Go.Mix Go.Bas

theorem set_two {l : List UInt8} {c : Int} (h : 4 ≤ l.length) : (l.set 2 (b8 (c / 256))).set 3 (b8 c) = l.take 2 ++ (two c ++ l.drop 4) := by
  match l, h with
  | a :: b :: x :: y :: r, _ => rfl

set_option maxRecDepth 8000 in
set_option maxHeartbeats 2000000 in
theorem rIPut_calls (src dst : List UInt8) (kd cd wd : Int) (A : Option Addr) (n c : Nat) (body : List UInt8) (w : World) (hs : src.length = 16) (hd : dst.length = 16) (h : Bs w A n c body) (hsz : n ≤ 140737488351232) (hw0 : 0 ≤ wd) (hw1 : wd < 4294967296) :
    Calls Try.prog 22 #[av src, av dst, .agg #[.int .i64 kd, .int .i64 cd, .int .u32 wd, .slice A n c]] w fun e w' => ∃ A' n' c', e = .returned (.slice A' n' c') ∧ Own w' w.heap.size 5 A' n' c' (putM src dst kd cd wd body) ∧ Below w.heap.size w w' := by
  obtain ⟨i0, hi, hz0, hz1, hz2⟩ := info_parts Try.infob
  unfold av
  have HH := hid h
  have HS := hid hs
  have HD := hid hd
  have HW1 := hid hw1
  clear h hs hd hw1
  by_cases r0 : 0 ≤ kd ∧ kd ≤ 255
  · obtain ⟨r00, r01⟩ := r0
    by_cases r1 : 0 ≤ cd ∧ cd ≤ 255
    · obtain ⟨r10, r11⟩ := r1
      have HP : Hid (putM src dst kd cd wd body = (msg0 kd cd wd body).take 2 ++ (two (chk src dst 58 (msg0 kd cd wd body)) ++ (msg0 kd cd wd body).drop 4)) := hid (if_pos ⟨octB_iff.2 ⟨r00, r01⟩, octB_iff.2 ⟨r10, r11⟩⟩)
      have d0 : decide (kd < 0) = false := by simp; omega
      have d1 : decide (255 < kd) = false := by simp; omega
      have d2 : decide (cd < 0) = false := by simp; omega
      have d3 : decide (255 < cd) = false := by simp; omega
      go_enter Try.func22, Try.ntmps22
      go_wp2_with fail
      refine wp_name ?_; intro w3 hw3
      have hS : Blk w3 w.heap.size 23 (src.map bv) := by rw [hw3]; exact ((Blk.new _ _ _).alloc _).alloc _
      have hD : Blk w3 (w.heap.size + 1) 23 (dst.map bv) := by rw [hw3]; exact (Blk.new_at _ _ _ (by simp)).alloc _
      have hM : Blk w3 (w.heap.size + 1 + 1) 29 [.int .i64 kd, .int .i64 cd, .int .u32 wd, .slice A n c] := by rw [hw3]; exact Blk.new_at _ _ _ (by simp)
      have hb3 : Below w.heap.size w w3 := by rw [hw3]; exact (((Below.refl _ _).alloc (Nat.le_refl _) _).alloc (by simp) _).alloc (by simp; omega) _
      have hx3 := hb3.size
      have hlM := hM.lt
      clear hw3
      have hne : Nonempty (SBW w3.heap.size w3) := Cls.ne (SB.refl (Nat.le_refl _))
      have f0 : ∀ u : SBW w3.heap.size w3, u.w.cell? ⟨w.heap.size + 1 + 1, 0, none⟩ = some (.int .i64 kd) := fun u => u.cell (hM.cell (j := 0) rfl) hlM
      have f1 : ∀ u : SBW w3.heap.size w3, u.w.cell? ⟨w.heap.size + 1 + 1, 1, none⟩ = some (.int .i64 cd) := fun u => u.cell (hM.cell (j := 1) rfl) hlM
      have f2 : ∀ u : SBW w3.heap.size w3, u.w.cell? ⟨w.heap.size + 1 + 1, 2, none⟩ = some (.int .u32 wd) := fun u => u.cell (hM.cell (j := 2) rfl) hlM
      have hq := SB.start (w0 := w3) (Nat.le_refl _)
      have HS3 := hid hS
      have HD3 := hid hD
      have HM3 := hid hM
      have HB3 := hid hb3
      clear hS hD hM hb3
      refine wp_region_segs (fun wq => ∃ u : SBW (w3.heap.size) (w3), wq = u.w) ((0, 0) :: (1, 0) :: (2, 0) :: (3, 0) :: (4, 0) :: (5, 0) :: (7, 0) :: (8, 0) :: (6, 2) :: (9, 2) :: (10, 1) :: (11, 0) :: []) (by kernel_rfl) (by kernel_rfl) (by kernel_rfl) (by kernel_rfl) (inC hq) ?_
      refine seg_held _ rfl ?_; go_big_quiet_step (fail); refine wpQuiet_nil ?_ -- 0 fieldAddr
      refine seg_held _ rfl ?_; go_big_quiet_step (fail); refine wpQuiet_nil ?_ -- 1 load
      refine seg_held _ rfl ?_; go_big_quiet_step (fail); refine wpQuiet_nil ?_ -- 2 convert
      refine seg_held _ rfl ?_; go_big_quiet_step (fail); refine wpQuiet_nil ?_ -- 3 fieldAddr
      refine seg_held _ rfl ?_; go_big_quiet_step (fail); refine wpQuiet_nil ?_ -- 4 load
      refine seg_held _ rfl ?_; go_big_quiet_step (fail); refine wpQuiet_nil ?_ -- 5 convert
      refine seg_held _ rfl ?_; go_big_quiet_step (fail); refine wpQuiet_nil ?_ -- 7 fieldAddr
      refine seg_held _ rfl ?_; go_big_quiet_step (fail); refine wpQuiet_nil ?_ -- 8 load
      refine seg_fork _ _ (fun a w2 => ∃ (A5 : Option Addr) (n5 c5 g : Nat), a = { tmps := #[.agg (List.map bv src).toArray, .agg (List.map bv dst).toArray, .agg #[.int .i64 kd, .int .i64 cd, .int .u32 wd, .slice A n c], .pointer (some ⟨w.heap.size, 0, none⟩), .pointer (some ⟨w.heap.size + 1, 0, none⟩), .pointer (some ⟨w.heap.size + 1 + 1, 0, none⟩), .slice none 0 0, undef, undef, .pointer (some ⟨w.heap.size + 1 + 1, 0, none⟩), .int .i64 kd, .bool false, .bool false, .pointer (some ⟨w.heap.size + 1 + 1, 0, none⟩), .int .i64 kd, .bool false, .bool false, .bool false, .pointer (some ⟨w.heap.size + 1 + 1, 1, none⟩), .int .i64 cd, .bool false, .bool false, .bool false, .pointer (some ⟨w.heap.size + 1 + 1, 1, none⟩), .int .i64 cd, .bool false, .bool false, .pointer (some ⟨w.heap.size + 1 + 1, 0, none⟩), .int .i64 kd, .int .u8 kd, .pointer (some ⟨w.heap.size + 1 + 1, 1, none⟩), .int .i64 cd, .int .u8 cd, .slice (some ⟨g, 0, none⟩) 4 4, .pointer (some ⟨w.heap.size + 1 + 1, 2, none⟩), .int .u32 wd, .slice A5 n5 c5, undef, undef, undef, undef, undef, undef, undef, undef, undef, undef, undef, undef, undef, undef, undef, undef, undef, undef, undef, undef, undef], defers := [] } ∧ Own w2 w3.heap.size 5 (some ⟨g, 0, none⟩) 4 4 [b8 kd, b8 cd, 0, 0] ∧ Own w2 w3.heap.size 5 A5 n5 c5 (four wd) ∧ SB w3.heap.size w3 w2) rfl rfl rfl rfl ?_ ?_ ?_
      · intro K hK
        go_wp2_with fail
        have hoA := (Own.made_at (base := w3.heap.size) (g := w3.heap.size) (m := 4) w3 5 [b8 kd, b8 cd, 0, 0] #[.int .u8 kd, .int .u8 cd, .int .u8 0, .int .u8 0] rfl rfl (by simp [bv_b8]; exact ⟨by omega, by omega, rfl⟩) (by simp) (Nat.le_refl _)).drew
        have hq4 : SB w3.heap.size w3 (w3.alloc (.cells #[.int .u8 kd, .int .u8 cd, .int .u8 0, .int .u8 0] 5)).drew := ((SB.refl (Nat.le_refl _)).alloc _).drew
        refine ⟨inC hq4, fun K' hK' => ?_⟩
        go_wp2_with fail
        refine (Four_calls _ _ hw0 HW1.out).mono ?_; rintro e w5 ⟨A5, n5, c5, rfl, ho5, hb5⟩
        have hq5 := hq4.step hb5
        have hoA5 := hoA.step hb5
        have ho5' := ho5.mono hq4.2
        clear hb5 hoA hq4 ho5
        go_wp2_with fail
        first | exact hK' _ _ ⟨A5, n5, c5, w3.heap.size, rfl, hoA5, ho5', hq5⟩ | exact hK' _ _ A5 n5 c5 _ rfl hoA5 ho5' hq5 | exact hK' _ _ A5 n5 c5 _ ⟨rfl, hoA5, ho5', hq5⟩ | exact ⟨A5, n5, c5, w3.heap.size, rfl, hoA5, ho5', hq5⟩
      · intro K hK
        go_wp2_with fail
        refine (Four_calls _ _ hw0 HW1.out).mono ?_; rintro e w5 ⟨A5, n5, c5, rfl, ho5, hb5⟩
        have hq5 := hq.step hb5
        have ho5' : Own w5 w3.heap.size 5 A5 n5 c5 (four wd) := ho5
        clear hb5
        go_wp2_with fail
        refine ⟨inC hq5, fun K' hK' => ?_⟩
        go_wp2_with fail
        have hoA := Own.made_at (base := w3.heap.size) (g := w5.heap.size) (m := 4) w5 5 [b8 kd, b8 cd, 0, 0] #[.int .u8 kd, .int .u8 cd, .int .u8 0, .int .u8 0] rfl rfl (by simp [bv_b8]; exact ⟨by omega, by omega, rfl⟩) (by simp) hq5.2
        have ho6 := ho5'.alloc (.cells #[.int .u8 kd, .int .u8 cd, .int .u8 0, .int .u8 0] 5)
        have hq6 := hq5.alloc (.cells #[.int .u8 kd, .int .u8 cd, .int .u8 0, .int .u8 0] 5)
        first | exact hK' _ _ ⟨A5, n5, c5, w5.heap.size, rfl, hoA, ho6, hq6⟩ | exact hK' _ _ A5 n5 c5 _ rfl hoA ho6 hq6 | exact hK' _ _ A5 n5 c5 _ ⟨rfl, hoA, ho6, hq6⟩ | exact ⟨A5, n5, c5, w5.heap.size, rfl, hoA, ho6, hq6⟩
      rintro _ w5 ⟨A5, n5, c5, g0, rfl, hoA5, ho5, hq5⟩
      refine ⟨_, fun _ h => h, inC hq5, ?_⟩
      have hn5 : n5 = 4 := ho5.len
      subst hn5
      refine seg_loud _ rfl rfl ?_; intro K hK -- 10 builtin:append
      refine wp_app (.tmp 33) (.tmp 36) 27 rfl 5 i0 Try.underlying27 hi hz0 hz1 hz2 w3.heap.size _ _ rfl rfl hoA5 ho5.bs (by omega) hq5.2 (fun A6 n6 c6 w6 ho6 hg6 => hK _ _ ?_)
      have hb6 := below_grown hg6 hoA5 (Nat.le_refl _) hq5.2
      have hq6 := hq5.low hb6
      refine ⟨_, fun _ h => h, inC hq6, ?_⟩
      go_frame
      refine seg_held _ rfl ?_; go_big_quiet_step (fail); refine wpQuiet_nil ?_ -- 11 assign
      refine seg_nil ?_
      have hM6 := HM3.out.below hlM hq6.1
      have c3 := hM6.cell (j := 3) rfl
      have hn6 : n6 = 8 := by have := ho6.len; simpa [four] using this
      subst hn6
      have HS6 := hid (HS3.out.below HS3.out.lt hq6.1)
      have HD6 := hid (HD3.out.below HD3.out.lt hq6.1)
      have HB6 := hid (HB3.out.trans (hq6.1.mono hx3))
      have hx6 := hq6.2
      clear hne f0 f1 f2 hq5 hoA5 hg6 hb6 ho5 hM6 HS3 HD3 HM3 HB3
      go_wp2_with (at_builtin; refine stop ?_)
      refine Stop.on (wpList_app rfl _ _ 27 rfl 5 i0 Try.underlying27 hi hz0 hz1 hz2 w3.heap.size _ _ rfl rfl ho6 (HH.out.step HB6.out) (by omega) hx6 ?_)
      intro A7 n7 c7 w7 ho7 hg7
      have hb7 := below_grown hg7 ho6 (Nat.le_refl _) hx6
      have hS7 := HS6.out.grown hg7 (ho6.apart HS6.out (by decide))
      have hD7 := HD6.out.grown hg7 (ho6.apart HD6.out (by decide))
      have hn7 : n7 ≤ 140737488351240 := by have := ho7.len_app ho6; have e := HH.out.len; omega
      have hn7' : 8 ≤ n7 := by have := ho7.len_app ho6; omega
      have hi16 : (Try.prog.info? 23).map (·.size) = some 16 := by kernel_rfl
      have HLS := hid (hS7.ld_all (P := Try.prog) Try.underlying23 rfl (by rw [List.length_map, HS.out]; exact hi16))
      have HLD := hid (hD7.ld_all (P := Try.prog) Try.underlying23 rfl (by rw [List.length_map, HD.out]; exact hi16))
      have HB7 := hid (HB6.out.trans (hb7.mono hx3))
      have HO7 : Hid (Own w7 w3.heap.size 5 A7 n7 c7 (msg0 kd cd wd body)) := hid ho7
      clear hg7 ho6 c3 HS6 HD6 HB6 hS7 hD7 hb7 hi16 ho7
      go_wp2_with (with_reducible refine wpList_ld rfl (.agg (src.map bv).toArray) 23 (.tmp 3) (.pointer (some ⟨w.heap.size, 0, none⟩)) rfl rfl (HLS.out) ?_; refine stop ?_)
      refine Stop.on ?_
      go_wp2_with (with_reducible refine wpList_ld rfl (.agg (dst.map bv).toArray) 23 (.tmp 4) (.pointer (some ⟨w.heap.size + 1, 0, none⟩)) rfl rfl (HLD.out) ?_; refine stop ?_)
      refine Stop.on ?_
      go_wp2_with fail
      refine (rCheck_calls src dst 58 A7 n7 c7 (msg0 kd cd wd body) _ HS.out HD.out HO7.out.bs (by omega)).mono ?_; rintro e w8 ⟨rfl, hb8⟩
      have HB8 := hid (below_next HB7.out hb8)
      have HO8 := hid (HO7.out.step hb8)
      clear hb8 HLS HLD HB7 HO7
      generalize hck : chk src dst 58 (msg0 kd cd wd body) = ck at *
      go_wp2_with fail
      refine (Two_calls _ _).mono ?_; rintro e w9 ⟨A9, n9, c9, rfl, ho9, hb9⟩
      have hn9 : n9 = 2 := ho9.len
      subst hn9
      obtain ⟨g, rfl, hg0, hg1⟩ := HO8.out.at_ (by omega)
      obtain ⟨g9, rfl, hg90, hg91⟩ := ho9.at_ (by omega)
      have ho8 := HO8.out.step hb9
      have HB9 := hid (below_next HB8.out hb9)
      have t0 := ho9.cell (j := 0) (by omega)
      have t1 := ho9.cell (j := 1) (by omega)
      have e0 : gt (two ck) 0 = ck / 256 % 256 := b8_toNat _
      have e1 : gt (two ck) 1 = ck % 256 := b8_toNat _
      rw [e0] at t0
      rw [e1] at t1
      have hz2' := ho8.cell (j := 2) (by omega)
      have hz3' := ho8.cell (j := 3) (by omega)
      have hf2 := ho8.free (j := 2)
      have hf3 := ho8.free (j := 3)
      have hx9 := HB9.out.size
      have hb9s := hb9.size
      have HO9 := hid ho8
      have hgs : g < w8.heap.size := hg1

      have HO99 := hid ho9
      clear ho8 hb9 HO8 HB8 hck e0 e1 t0 t1 ho9
      go_wp2_with fail
      have hne : Nonempty (Cls (fun wx : World => Own wx w8.heap.size 5 (some ⟨g9, 0, none⟩) 2 c9 (two ck))) := Cls.ne HO99.out
      have e0 : gt (two ck) 0 = ck / 256 % 256 := b8_toNat _
      have e1 : gt (two ck) 1 = ck % 256 := b8_toNat _
      have f0 : ∀ u : Cls (fun wx : World => Own wx w8.heap.size 5 (some ⟨g9, 0, none⟩) 2 c9 (two ck)), u.w.cell? ⟨g9, 0, none⟩ = some (.int .u8 (ck / 256 % 256)) := fun u => by rw [← e0]; exact Own.cell (j := 0) u.is (by omega)
      have f1 : ∀ u : Cls (fun wx : World => Own wx w8.heap.size 5 (some ⟨g9, 0, none⟩) 2 c9 (two ck)), u.w.cell? ⟨g9, 1, none⟩ = some (.int .u8 (ck % 256)) := fun u => by rw [← e1]; exact Own.cell (j := 1) u.is (by omega)
      clear e0 e1
      refine wp_region_segs (fun wq => ∃ u : Cls (fun wx : World => Own wx w8.heap.size 5 (some ⟨g9, 0, none⟩) 2 c9 (two ck)), wq = u.w) ((0, 0) :: (1, 0) :: (2, 0) :: (3, 0) :: (4, 0) :: (5, 0) :: (6, 0) :: (7, 0) :: (8, 0) :: (9, 1) :: (10, 0) :: (11, 1) :: []) (by kernel_rfl) (by kernel_rfl) (by kernel_rfl) (by kernel_rfl) (inC HO99.out.drew) ?_
      refine seg_held _ rfl ?_; go_big_quiet_step (fail); refine wpQuiet_nil ?_ -- 0 move
      refine seg_held _ rfl ?_; go_big_quiet_step (fail); refine wpQuiet_nil ?_ -- 1 move
      refine seg_held _ rfl ?_; go_big_quiet_step (fail); refine wpQuiet_nil ?_ -- 2 move
      refine seg_held _ rfl ?_; go_big_quiet_step (fail); refine wpQuiet_nil ?_ -- 3 indexAddr
      refine seg_held _ rfl ?_; go_big_quiet_step (fail); refine wpQuiet_nil ?_ -- 4 load
      refine seg_held _ rfl ?_; go_big_quiet_step (fail); refine wpQuiet_nil ?_ -- 5 move
      refine seg_held _ rfl ?_; go_big_quiet_step (fail); refine wpQuiet_nil ?_ -- 6 indexAddr
      refine seg_held _ rfl ?_; go_big_quiet_step (fail); refine wpQuiet_nil ?_ -- 7 load
      refine seg_held _ rfl ?_; go_big_quiet_step (fail); refine wpQuiet_nil ?_ -- 8 indexAddr
      refine seg_loud _ rfl rfl ?_; intro K hK -- 9 store
      go_wp2_with fail
      refine ⟨_, fun _ h => h, inC (Own.drew (HO99.out.far (p := ⟨g, 2, none⟩) hgs _)), ?_⟩
      refine seg_held _ rfl ?_; go_big_quiet_step (fail); refine wpQuiet_nil ?_ -- 10 indexAddr
      refine seg_loud _ rfl rfl ?_; intro K hK -- 11 store
      go_wp2_with fail
      refine ⟨_, fun _ h => h, inC (Own.drew ((HO99.out.far (p := ⟨g, 2, none⟩) hgs _).far (p := ⟨g, 3, none⟩) hgs _)), ?_⟩
      refine seg_name ?_; intro w10 hw10
      have hl4 : 4 ≤ (msg0 kd cd wd body).length := by simp [msg0]
      have ho10 : Own w10 w3.heap.size 5 (some ⟨g, 0, none⟩) n7 c7 (putM src dst kd cd wd body) := by
        have := (HO9.out.store (j := 2) (b8 (ck / 256))).store (j := 3) (b8 ck)
        rw [set_two hl4, bv_b8, bv_b8] at this
        rw [HP.out, hw10]
        exact this.drew
      have hb10 : Below w.heap.size w w10 := by rw [hw10]; exact ((HB9.out.setCell (by show w.heap.size ≤ g; omega) _).setCell (by show w.heap.size ≤ g; omega) _).drew
      have HO10 := hid ho10
      have HB10 := hid hb10
      clear hne f0 f1 hw10 ho10 hb10 HO9 HB9 HO99 hz2' hz3' hf2 hf3
      go_wp2
      go_ret
      exact ⟨_, _, _, rfl, HO10.out.mono hx3, HB10.out⟩
    · have HP : Hid (putM src dst kd cd wd body = []) := hid (if_neg (fun h => r1 (octB_iff.1 h.2)))
      have d0 : decide (kd < 0) = false := by simp; omega
      have d1 : decide (255 < kd) = false := by simp; omega
      rcases (show cd < 0 ∨ 255 < cd by omega) with k | k
      all_goals
        clear r1
        go_enter Try.func22, Try.ntmps22
        go_wp2
        go_ret
        exact ⟨_, _, _, rfl, by rw [HP.out]; exact Own.nil _ _ _, (((Below.refl _ _).alloc (Nat.le_refl _) _).alloc (by simp) _).alloc (by simp; omega) _⟩
  · have HP : Hid (putM src dst kd cd wd body = []) := hid (if_neg (fun h => r0 (octB_iff.1 h.1)))
    rcases (show kd < 0 ∨ 255 < kd by omega) with k | k
    all_goals
      clear r0
      go_enter Try.func22, Try.ntmps22
      go_wp2
      go_ret
      exact ⟨_, _, _, rfl, by rw [HP.out]; exact Own.nil _ _ _, (((Below.refl _ _).alloc (Nat.le_refl _) _).alloc (by simp) _).alloc (by simp; omega) _⟩
end Go.Proofs.Ythbllfhaaidhjaa
