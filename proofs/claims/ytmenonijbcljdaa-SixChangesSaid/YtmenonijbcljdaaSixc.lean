/- The walks of package six, third part: the bytes of a header. -/
import Derived.Test.YtmenonijbcljdaaSixb
namespace Go.Proofs.Ytmenonijbcljdaa
open Go.RowKit Go.Mix Go.Bas

def putH (c la ln nx hp : Int) (sd : List UInt8) : List UInt8 := if okH c la ln nx hp then encH c la ln nx hp sd else []

set_option maxRecDepth 8000 in
set_option maxHeartbeats 1000000 in
theorem PutH_calls (base : Nat) (A : Option Addr) (k cp : Nat) (l : List UInt8) (c la ln nx hp : Int) (sd : List UInt8) (w : World) (h : Own w base 5 A k cp l) (hb : base ≤ w.heap.size) (hsz : k + 40 ≤ 140737488355328) (hsd : sd.length = 32) :
    Calls Try.prog 36 #[.slice A k cp, .agg (headL c la ln nx hp sd).toArray] w fun e w' => ∃ A' n' c', e = .returned (.slice A' n' c') ∧ Own w' base 5 A' n' c' (l ++ putH c la ln nx hp sd) ∧ Below base w w' := by
  obtain ⟨i0, hi, hz0, hz1, hz2⟩ := info_parts Try.infob
  have HSD := hid hsd
  have hl0 := headL_len (c := c) (la := la) (ln := ln) (nx := nx) (hp := hp) hsd
  have hb0 := Blk.new w 38 (headL c la ln nx hp sd)
  have hld := hb0.ld_all (P := Try.prog) Try.underlying38 rfl (by rw [hl0]; kernel_rfl)
  have HLD := hid hld
  have HB0 := hid hb0
  have hw0 := (Below.refl w.heap.size w).alloc (Nat.le_refl _) (.cells (headL c la ln nx hp sd).toArray 38)
  have HW0 := hid hw0
  have HO := hid (h.alloc (.cells (headL c la ln nx hp sd).toArray 38))
  clear hsd hl0 hb0 hld hw0
  by_cases ok : okH c la ln nx hp
  · have hp0 : putH c la ln nx hp sd = encH c la ln nx hp sd := by unfold putH; rw [if_pos ok]
    have hcan : canH c la ln nx hp = 0 := by unfold canH; rw [if_pos ok]
    have HP := hid hp0
    have HC := hid hcan
    obtain ⟨⟨a0, a1⟩, ⟨a2, a3⟩, ⟨a4, a5⟩, ⟨a6, a7⟩, ⟨a8, a9⟩⟩ := ok
    clear hp0 hcan
    have o1 := or_i64 1610612736 (c * 1048576) 28 (by omega) (by omega) ⟨6, rfl⟩ (by omega) (by omega) (by omega)
    have o2 := or_i64 (1610612736 + c * 1048576) la 20 (by omega) (by omega) ⟨1536 + c, by omega⟩ (by omega) (by omega) (by omega)
    go_enter Try.func36, Try.ntmps36
    go_wp2_with (with_reducible refine wpList_ld rfl (.agg (headL c la ln nx hp sd).toArray) 38 (.tmp 3) (.pointer (some ⟨w.heap.size, 0, none⟩)) rfl rfl (HLD.out) ?_; refine stop ?_)
    refine Stop.on ?_
    go_wp2_with fail
    refine (CanH_calls c la ln nx hp sd _ HSD.out).mono ?_; rintro e w1 ⟨rfl, hb1⟩
    rw [HC.out]
    have hbl := HB0.out.step hb1
    have ho1 := HO.out.step hb1
    have hw1 := below_next HW0.out hb1
    have k0 := hbl.cell (j := 0) rfl
    have k1 := hbl.cell (j := 1) rfl
    have hs1 := hw1.size
    clear hb1
    have HBL := hid hbl
    have HW1 := hid (hw1.mono hb)
    clear hbl hw1
    go_wp2_with fail
    refine (Put32_calls base _ _ _ _ _ _ ho1 (by omega) (by omega) (by omega) (by omega)).mono ?_; rintro e w2 ⟨A2, n2, c2, rfl, ho2, hg2⟩
    have hb2 := HW1.out.trans (below_grown hg2 ho1 (Nat.le_refl _) (by omega))
    have hbl2 := HBL.out.grown hg2 (ho1.apart HBL.out (by decide))
    have k2 := hbl2.cell (j := 2) rfl
    have hn2 : n2 = k + 4 := by have := ho2.len_app ho1; simpa [four] using this
    have hs2 := hb2.size
    have hs2' := hg2.size
    have HB2 := hid hb2
    have HBL2 := hid hbl2
    have HN2 := hid hn2
    have hn2' : n2 + 36 ≤ 140737488355328 := by omega
    clear hg2 ho1 HW1 HBL k0 k1 hbl2 hb2 hn2 hsz
    go_wp2_with fail
    refine (Put16_calls base _ _ _ _ _ _ ho2 (by omega) (by omega)).mono ?_; rintro e w3 ⟨A3, n3, c3, rfl, ho3, hg3⟩
    have hb3 := HB2.out.trans (below_grown hg3 ho2 (Nat.le_refl _) (by omega))
    have hbl3 := HBL2.out.grown hg3 (ho2.apart HBL2.out (by decide))
    have k3 := hbl3.cell (j := 3) rfl
    have k4 := hbl3.cell (j := 4) rfl
    have hn3' : n3 + 34 ≤ 140737488355328 := by have := ho3.len_app ho2; simp [two] at this; omega
    have hs3 := hb3.size
    have HB3 := hid hb3
    have HBL3 := hid hbl3
    clear hg3 ho2 HB2 HBL2 k2 hbl3 hb3 HN2 hn2' hs2 hs2'
    go_wp2_with (at_builtin; refine stop ?_)
    have hnew := (Own.made_at (base := 0) (g := w3.heap.size) (m := 2) w3 5 [b8 nx, b8 hp] #[.int .u8 nx, .int .u8 hp] rfl rfl (by simp [bv_b8]; omega) (by simp) (by omega)).bs
    refine Stop.on (wpList_app rfl _ _ 22 rfl 5 i0 Try.underlying22 hi hz0 hz1 hz2 base _ _ rfl rfl (ho3.alloc _) hnew (by omega) (by simp; omega) ?_)
    intro A4 n4 c4 w4 ho4 hg4
    have hb4 := (HB3.out.alloc (by omega) (.cells #[.int .u8 nx, .int .u8 hp] 5)).trans (below_grown hg4 (ho3.alloc _) (Nat.le_refl _) (by simp; omega))
    have hbl4 := (HBL3.out.alloc (.cells #[.int .u8 nx, .int .u8 hp] 5)).grown hg4 (ho3.apart HBL3.out (by decide))
    have hn4 : n4 + 32 ≤ 140737488355328 := by have := ho4.len_app ho3; simp at this; omega
    have hs4 := hb4.size
    have hsrc := hbl4.bs (off := 5) (m := 16) (cp := 16) headL_src (by have := HSD.out; simp; omega) (by omega) (by omega)
    have HB4 := hid hb4
    have HBL4 := hid hbl4
    clear hg4 ho3 HB3 HBL3 k3 k4 hbl4 hb4 hnew hn3' hs3
    go_wp2_with (at_builtin; refine stop ?_)
    refine Stop.on (wpList_app rfl _ _ 22 rfl 5 i0 Try.underlying22 hi hz0 hz1 hz2 base _ _ rfl rfl ho4 hsrc (by omega) (by omega) ?_)
    intro A5 n5 c5 w5 ho5 hg5
    have hb5 := HB4.out.trans (below_grown hg5 ho4 (Nat.le_refl _) (by omega))
    have hbl5 := HBL4.out.grown hg5 (ho4.apart HBL4.out (by decide))
    have hn5 : n5 + 16 ≤ 140737488355328 := by have := ho5.len_app ho4; have e := HSD.out; simp at this; omega
    have hs5 := hb5.size
    have hdst := hbl5.bs (off := 21) (m := 16) (cp := 16) headL_dst (by have := HSD.out; simp; omega) (by omega) (by omega)
    have HB5 := hid hb5
    clear hg5 ho4 HB4 HBL4 hb5 hsrc hn4 hs4 hbl5
    go_wp2_with (at_builtin; refine stop ?_)
    refine Stop.on (wpList_app rfl _ _ 22 rfl 5 i0 Try.underlying22 hi hz0 hz1 hz2 base _ _ rfl rfl ho5 hdst (by omega) (by omega) ?_)
    intro A6 n6 c6 w6 ho6 hg6
    have hb6 := HB5.out.trans (below_grown hg6 ho5 (Nat.le_refl _) (by omega))
    have he : l ++ four (1610612736 + c * 1048576 + la) ++ two ln ++ [b8 nx, b8 hp] ++ sd.take 16 ++ (sd.drop 16).take 16 = l ++ encH c la ln nx hp sd := by
      have h1 := HSD.out
      have h2 : (sd.drop 16).take 16 = sd.drop 16 := List.take_of_length_le (by simp; omega)
      have h3 : sd = sd.take 16 ++ sd.drop 16 := (List.take_append_drop _ _).symm
      unfold encH
      rw [h2]
      simp only [List.append_assoc, List.take_append_drop]
    rw [he] at ho6
    clear hg6 ho5 hdst he
    go_wp2
    go_ret
    exact ⟨_, _, _, rfl, by rw [HP.out]; exact ho6, hb6⟩
  · have hp0 : putH c la ln nx hp sd = [] := by unfold putH; rw [if_neg ok]
    have hcan : canH c la ln nx hp = 2 := by unfold canH; rw [if_neg ok]
    have HP := hid hp0
    have HC := hid hcan
    clear hp0 hcan ok
    go_enter Try.func36, Try.ntmps36
    go_wp2_with (with_reducible refine wpList_ld rfl (.agg (headL c la ln nx hp sd).toArray) 38 (.tmp 3) (.pointer (some ⟨w.heap.size, 0, none⟩)) rfl rfl (HLD.out) ?_; refine stop ?_)
    refine Stop.on ?_
    go_wp2_with fail
    refine (CanH_calls c la ln nx hp sd _ HSD.out).mono ?_; rintro e w1 ⟨rfl, hb1⟩
    rw [HC.out]
    have ho1 := HO.out.step hb1
    have hw1 := below_next HW0.out hb1
    go_wp2
    go_ret
    exact ⟨_, _, _, rfl, by rw [HP.out, List.append_nil]; exact ho1, hw1.mono hb⟩
end Go.Proofs.Ytmenonijbcljdaa
