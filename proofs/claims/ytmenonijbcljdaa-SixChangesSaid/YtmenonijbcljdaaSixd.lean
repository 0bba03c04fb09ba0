/- The walks of package six, fourth part: the bytes of a header, in the reference. -/
import Derived.Test.YtmenonijbcljdaaSixc
namespace Go.Proofs.Ytmenonijbcljdaa
open Go.RowKit Go.Mix Go.Bas

theorem encH_ref {c la ln nx hp : Int} (sd : List UInt8) (a2 : 0 ≤ la) (a3 : la ≤ 1048575) :
    [b8 (96 + c / 16), b8 (c % 16 * 16 + la / 65536)] ++ two (la % 65536) ++ two ln ++ [b8 nx, b8 hp] ++ sd = encH c la ln nx hp sd := by
  unfold encH four two
  have e1 : b8 ((1610612736 + c * 1048576 + la) / 16777216) = b8 (96 + c / 16) := b8_congr (by omega)
  have e2 : b8 ((1610612736 + c * 1048576 + la) / 65536) = b8 (c % 16 * 16 + la / 65536) := b8_congr (by omega)
  have e3 : b8 ((1610612736 + c * 1048576 + la) / 256) = b8 (la % 65536 / 256) := b8_congr (by omega)
  have e4 : b8 (1610612736 + c * 1048576 + la) = b8 (la % 65536) := b8_congr (by omega)
  rw [e1, e2, e3, e4]
  simp

set_option maxRecDepth 8000 in
set_option maxHeartbeats 1000000 in
theorem rPutH_calls (c la ln nx hp : Int) (sd : List UInt8) (w : World) (hsd : sd.length = 32) :
    Calls Try.prog 37 #[.agg (headL c la ln nx hp sd).toArray] w fun e w' => ∃ A' n' c', e = .returned (.slice A' n' c') ∧ Own w' w.heap.size 5 A' n' c' (putH c la ln nx hp sd) ∧ Below w.heap.size w w' := by
  obtain ⟨i0, hi, hz0, hz1, hz2⟩ := info_parts Try.infob
  have HSD := hid hsd
  have hl0 := headL_len (c := c) (la := la) (ln := ln) (nx := nx) (hp := hp) hsd
  have hb0 := Blk.new w 38 (headL c la ln nx hp sd)
  have hld := hb0.ld_all (P := Try.prog) Try.underlying38 rfl (by rw [hl0]; kernel_rfl)
  have HLD := hid hld
  have HB0 := hid hb0
  have hw0 := (Below.refl w.heap.size w).alloc (Nat.le_refl _) (.cells (headL c la ln nx hp sd).toArray 38)
  have HW0 := hid hw0
  clear hsd hl0 hb0 hld hw0
  by_cases ok : okH c la ln nx hp
  · have hp0 : putH c la ln nx hp sd = encH c la ln nx hp sd := by unfold putH; rw [if_pos ok]
    have hcan : canH c la ln nx hp = 0 := by unfold canH; rw [if_pos ok]
    have HC := hid hcan
    obtain ⟨⟨a0, a1⟩, ⟨a2, a3⟩, ⟨a4, a5⟩, ⟨a6, a7⟩, ⟨a8, a9⟩⟩ := ok
    have HP := hid (hp0.trans (encH_ref sd a2 a3).symm)
    clear hp0 hcan
    go_enter Try.func37, Try.ntmps37
    go_wp2_with (with_reducible refine wpList_ld rfl (.agg (headL c la ln nx hp sd).toArray) 38 (.tmp 1) (.pointer (some ⟨w.heap.size, 0, none⟩)) rfl rfl (HLD.out) ?_; refine stop ?_)
    refine Stop.on ?_
    go_wp2_with fail
    refine (rCanH_calls c la ln nx hp sd _ HSD.out).mono ?_; rintro e w1 ⟨rfl, hb1⟩
    rw [HC.out]
    have hbl := HB0.out.step hb1
    have hw1 := below_next HW0.out hb1
    have k0 := hbl.cell (j := 0) rfl
    have k1 := hbl.cell (j := 1) rfl
    have hs1 := hbl.lt
    have HBL := hid hbl
    have HW1 := hid hw1
    clear hb1 hw1 hbl
    go_wp2_with fail
    refine (Two_calls _ _).mono ?_; rintro e w2 ⟨A2, n2, c2, rfl, ho2, hb2⟩
    have hnew := (Own.made_at (base := w.heap.size) (g := w1.heap.size) (m := 2) w1 5 [b8 (96 + c / 16), b8 (c % 16 * 16 + la / 65536)] #[.int .u8 (96 + c / 16), .int .u8 (c % 16 * 16 + la / 65536)] rfl rfl (by simp [bv_b8]; omega) (by simp) (by omega)).step hb2
    have hn2 : n2 = 2 := ho2.len
    have hw2 := (HW1.out.alloc (by omega) (.cells #[.int .u8 (96 + c / 16), .int .u8 (c % 16 * 16 + la / 65536)] 5)).trans (hb2.mono (by simp; omega))
    have hbl2 := (HBL.out.alloc (.cells #[.int .u8 (96 + c / 16), .int .u8 (c % 16 * 16 + la / 65536)] 5)).step hb2
    subst hn2
    have hs2 := hbl2.lt
    have HW2 := hid hw2
    have HBL2 := hid hbl2
    clear hb2 hw2 hbl2 HW1 HBL k0 k1
    go_wp2_with (at_builtin; refine stop ?_)
    refine Stop.on (wpList_app rfl _ _ 22 rfl 5 i0 Try.underlying22 hi hz0 hz1 hz2 w.heap.size _ _ rfl rfl hnew ho2.bs (by omega) (by omega) ?_)
    intro A3 n3 c3 w3 ho3 hg3
    have hb3 := HW2.out.trans (below_grown hg3 hnew (Nat.le_refl _) (by omega))
    have hbl3 := HBL2.out.grown hg3 (hnew.apart HBL2.out (by decide))
    have hn3 : n3 = 4 := by have := ho3.len; simpa [two] using this
    subst hn3
    have k2 := hbl3.cell (j := 2) rfl
    have hs3 := hbl3.lt
    have HW3 := hid hb3
    have HBL3 := hid hbl3
    clear hg3 hb3 hbl3 HW2 HBL2 hnew ho2
    go_wp2_with fail
    refine (Two_calls _ _).mono ?_; rintro e w4 ⟨A4, n4, c4, rfl, ho4, hb4⟩
    have hn4 : n4 = 2 := ho4.len
    subst hn4
    have hw4 := below_next HW3.out hb4
    have hbl4 := HBL3.out.step hb4
    have ho3' := ho3.step hb4
    have hs4 := hbl4.lt
    have HW4 := hid hw4
    have HBL4 := hid hbl4
    clear hb4 hw4 hbl4 HW3 HBL3 k2 ho3
    go_wp2_with (at_builtin; refine stop ?_)
    refine Stop.on (wpList_app rfl _ _ 22 rfl 5 i0 Try.underlying22 hi hz0 hz1 hz2 w.heap.size _ _ rfl rfl ho3' ho4.bs (by omega) (by omega) ?_)
    intro A5 n5 c5 w5 ho5 hg5
    have hb5 := HW4.out.trans (below_grown hg5 ho3' (Nat.le_refl _) (by omega))
    have hbl5 := HBL4.out.grown hg5 (ho3'.apart HBL4.out (by decide))
    have hn5 : n5 = 6 := by have := ho5.len; simpa [two] using this
    subst hn5
    have k3 := hbl5.cell (j := 3) rfl
    have k4 := hbl5.cell (j := 4) rfl
    have hs5 := hbl5.lt
    have HW5 := hid hb5
    have HBL5 := hid hbl5
    clear hg5 hb5 hbl5 HW4 HBL4 ho3' ho4
    go_wp2_with (at_builtin; refine stop ?_)
    have hnew := (Own.made_at (base := 0) (g := w5.heap.size) (m := 2) w5 5 [b8 nx, b8 hp] #[.int .u8 nx, .int .u8 hp] rfl rfl (by simp [bv_b8]; omega) (by simp) (by omega)).bs
    refine Stop.on (wpList_app rfl _ _ 22 rfl 5 i0 Try.underlying22 hi hz0 hz1 hz2 w.heap.size _ _ rfl rfl (ho5.alloc _) hnew (by omega) (by simp; omega) ?_)
    intro A6 n6 c6 w6 ho6 hg6
    have hb6 := (HW5.out.alloc (by omega) (.cells #[.int .u8 nx, .int .u8 hp] 5)).trans (below_grown hg6 (ho5.alloc _) (Nat.le_refl _) (by simp; omega))
    have hbl6 := (HBL5.out.alloc (.cells #[.int .u8 nx, .int .u8 hp] 5)).grown hg6 (ho5.apart HBL5.out (by decide))
    have hn6 : n6 = 8 := by have := ho6.len; simpa [two] using this
    subst hn6
    have hs6 := hbl6.lt
    have hsrc := hbl6.bs (off := 5) (m := 16) (cp := 16) headL_src (by have := HSD.out; simp; omega) (by omega) (by omega)
    have HW6 := hid hb6
    have HBL6 := hid hbl6
    clear hg6 hb6 hbl6 HW5 HBL5 k3 k4 hnew ho5
    go_wp2_with (at_builtin; refine stop ?_)
    refine Stop.on (wpList_app rfl _ _ 22 rfl 5 i0 Try.underlying22 hi hz0 hz1 hz2 w.heap.size _ _ rfl rfl ho6 hsrc (by omega) (by omega) ?_)
    intro A7 n7 c7 w7 ho7 hg7
    have hb7 := HW6.out.trans (below_grown hg7 ho6 (Nat.le_refl _) (by omega))
    have hbl7 := HBL6.out.grown hg7 (ho6.apart HBL6.out (by decide))
    have hn7 : n7 = 24 := by have := ho7.len_app ho6; have e := HSD.out; simp at this; omega
    subst hn7
    have hs7 := hbl7.lt
    have hdst := hbl7.bs (off := 21) (m := 16) (cp := 16) headL_dst (by have := HSD.out; simp; omega) (by omega) (by omega)
    have HW7 := hid hb7
    clear hg7 hb7 hbl7 HW6 HBL6 hsrc ho6
    go_wp2_with (at_builtin; refine stop ?_)
    refine Stop.on (wpList_app rfl _ _ 22 rfl 5 i0 Try.underlying22 hi hz0 hz1 hz2 w.heap.size _ _ rfl rfl ho7 hdst (by omega) (by omega) ?_)
    intro A8 n8 c8 w8 ho8 hg8
    have hb8 := HW7.out.trans (below_grown hg8 ho7 (Nat.le_refl _) (by omega))
    have he : [b8 (96 + c / 16), b8 (c % 16 * 16 + la / 65536)] ++ two (la % 65536) ++ two ln ++ [b8 nx, b8 hp] ++ sd.take 16 ++ (sd.drop 16).take 16 = putH c la ln nx hp sd := by
      have h1 := HSD.out
      have h2 : (sd.drop 16).take 16 = sd.drop 16 := List.take_of_length_le (by simp; omega)
      rw [HP.out, h2, List.append_assoc _ (sd.take 16), List.take_append_drop]
    rw [he] at ho8
    clear hg8 ho7 hdst he
    go_wp2
    go_ret
    exact ⟨_, _, _, rfl, ho8, hb8⟩
  · have hp0 : putH c la ln nx hp sd = [] := by unfold putH; rw [if_neg ok]
    have hcan : canH c la ln nx hp = 2 := by unfold canH; rw [if_neg ok]
    have HP := hid hp0
    have HC := hid hcan
    clear hp0 hcan ok
    go_enter Try.func37, Try.ntmps37
    go_wp2_with (with_reducible refine wpList_ld rfl (.agg (headL c la ln nx hp sd).toArray) 38 (.tmp 1) (.pointer (some ⟨w.heap.size, 0, none⟩)) rfl rfl (HLD.out) ?_; refine stop ?_)
    refine Stop.on ?_
    go_wp2_with fail
    refine (rCanH_calls c la ln nx hp sd _ HSD.out).mono ?_; rintro e w1 ⟨rfl, hb1⟩
    rw [HC.out]
    have hw1 := below_next HW0.out hb1
    go_wp2
    go_ret
    exact ⟨_, _, _, rfl, by rw [HP.out]; exact Own.nil _ _ _, hw1⟩
end Go.Proofs.Ytmenonijbcljdaa
