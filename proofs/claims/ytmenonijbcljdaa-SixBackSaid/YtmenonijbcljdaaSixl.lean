/- The laws of layer 4: back. -/
import Derived.Test.YtmenonijbcljdaaSixj
namespace Go.Proofs.Ytmenonijbcljdaa
open Go.RowKit Go.Mix Go.Bas

theorem gt_b8 (n : Int) : (((b8 n).toNat : Nat) : Int) = n % 256 := b8_toNat n
theorem encH_cons (c la ln nx hp : Int) (sd r : List UInt8) : encH c la ln nx hp sd ++ r = b8 ((1610612736 + c * 1048576 + la) / 16777216) :: b8 ((1610612736 + c * 1048576 + la) / 65536) :: b8 ((1610612736 + c * 1048576 + la) / 256) :: b8 (1610612736 + c * 1048576 + la) :: b8 (ln / 256) :: b8 ln :: b8 nx :: b8 hp :: (sd ++ r) := by
  simp [encH, four, two]
theorem gets {c la ln nx hp : Int} {sd r : List UInt8} (ok : okH c la ln nx hp) (hsd : sd.length = 32) : errG (encH c la ln nx hp sd ++ r) = 0 ∧ headG (encH c la ln nx hp sd ++ r) = headL c la ln nx hp sd := by
  obtain ⟨⟨a0, a1⟩, ⟨a2, a3⟩, ⟨a4, a5⟩, ⟨a6, a7⟩, ⟨a8, a9⟩⟩ := ok
  have hl : 40 ≤ (encH c la ln nx hp sd ++ r).length := by rw [List.length_append, encH_len hsd]; omega
  have e := encH_cons c la ln nx hp sd r
  have q0 : gt (encH c la ln nx hp sd ++ r) 0 = (1610612736 + c * 1048576 + la) / 16777216 % 256 := by rw [e]; exact gt_b8 _
  have q1 : gt (encH c la ln nx hp sd ++ r) 1 = (1610612736 + c * 1048576 + la) / 65536 % 256 := by rw [e]; exact gt_b8 _
  have q2 : gt (encH c la ln nx hp sd ++ r) 2 = (1610612736 + c * 1048576 + la) / 256 % 256 := by rw [e]; exact gt_b8 _
  have q3 : gt (encH c la ln nx hp sd ++ r) 3 = (1610612736 + c * 1048576 + la) % 256 := by rw [e]; exact gt_b8 _
  have q4 : gt (encH c la ln nx hp sd ++ r) 4 = ln / 256 % 256 := by rw [e]; exact gt_b8 _
  have q5 : gt (encH c la ln nx hp sd ++ r) 5 = ln % 256 := by rw [e]; exact gt_b8 _
  have q6 : gt (encH c la ln nx hp sd ++ r) 6 = nx % 256 := by rw [e]; exact gt_b8 _
  have q7 : gt (encH c la ln nx hp sd ++ r) 7 = hp % 256 := by rw [e]; exact gt_b8 _
  have he : errG (encH c la ln nx hp sd ++ r) = 0 := by
    unfold errG
    rw [if_neg (by omega), q0, if_neg (by omega)]
  refine ⟨he, ?_⟩
  have hs : ((encH c la ln nx hp sd ++ r).drop 8).take 32 = sd := by
    rw [e]
    simp only [List.drop_succ_cons, List.drop_zero]
    rw [List.take_append_of_le_length (by omega), List.take_of_length_le (by omega)]
  rw [headG_eq he, hs, q6, q7]
  have e1 : clsG (encH c la ln nx hp sd ++ r) = c := by unfold clsG; rw [q0, q1]; omega
  have e2 : labG (encH c la ln nx hp sd ++ r) = la := by unfold labG; rw [q1, q2, q3]; omega
  have e3 : lenG (encH c la ln nx hp sd ++ r) = ln := by unfold lenG; rw [q4, q5]; omega
  rw [e1, e2, e3, show nx % 256 = nx by omega, show hp % 256 = hp by omega]

set_option maxRecDepth 8000 in
set_option maxHeartbeats 2000000 in
theorem SixBack_calls (c la ln nx hp : Int) (sd : List UInt8) (A : Option Addr) (k cp : Nat) (l : List UInt8) (w : World) (hsd : sd.length = 32) (h : Bs w A k cp l) (hsz : k ≤ 140737488351232) :
    Calls Try.prog 7 #[.agg (headL c la ln nx hp sd).toArray, .slice A k cp] w fun e w' => e = .returned (.bool true) ∧ Below w.heap.size w w' := by
  obtain ⟨i0, hi, hz0, hz1, hz2⟩ := info_parts Try.infob
  have hcp := h.cap
  have hb0 := Blk.new w 38 (headL c la ln nx hp sd)
  have hld := hb0.ld_all (P := Try.prog) Try.underlying38 rfl (by rw [headL_len hsd]; kernel_rfl)
  have HB0 := hid hb0
  have HLD := hid hld
  have HBL := hid ((Below.refl w.heap.size w).alloc (Nat.le_refl _) (.cells (headL c la ln nx hp sd).toArray 38))
  have HSD := hid hsd
  have HH := hid h
  clear h hsd hb0 hld
  by_cases ok : okH c la ln nx hp
  · have hcan : canH c la ln nx hp = 0 := by unfold canH; rw [if_pos ok]
    have hput : putH c la ln nx hp sd = encH c la ln nx hp sd := by unfold putH; rw [if_pos ok]
    have HC := hid hcan
    have HP := hid hput
    have HG := hid (gets (r := l) ok HSD.out)
    have heq : ∀ w, (binOp .eql 38 (.agg (headL c la ln nx hp sd).toArray) (.agg (headL c la ln nx hp sd).toArray)).run Try.prog w = .ok (.bool true) w := by
      intro w
      rw [headL_ints HSD.out, eql_flat (P := Try.prog) (d := 3) (by kernel_rfl) rfl (by kernel_rfl) (headN_len HSD.out) (headN_len HSD.out) w]
      simp
    have hgd := fun w x y => run_eqGuard_agg (P := Try.prog) w .eql 38 x y (headL c la ln nx hp sd).toArray (headL c la ln nx hp sd).toArray (by kernel_rfl)
    have HI1 : Hid ((Try.prog.info? 38).map (·.size) = some (headL c la ln nx hp sd).length) := hid (by rw [headL_len HSD.out]; kernel_rfl)
    have HN1 : Hid (0 + (headL c la ln nx hp sd).length ≤ [Value.int .i64 0, Value.int .i64 0, Value.int .i64 0, Value.int .i64 0, Value.int .i64 0, Value.int .u8 0, Value.int .u8 0, Value.int .u8 0, Value.int .u8 0, Value.int .u8 0, Value.int .u8 0, Value.int .u8 0, Value.int .u8 0, Value.int .u8 0, Value.int .u8 0, Value.int .u8 0, Value.int .u8 0, Value.int .u8 0, Value.int .u8 0, Value.int .u8 0, Value.int .u8 0, Value.int .u8 0, Value.int .u8 0, Value.int .u8 0, Value.int .u8 0, Value.int .u8 0, Value.int .u8 0, Value.int .u8 0, Value.int .u8 0, Value.int .u8 0, Value.int .u8 0, Value.int .u8 0, Value.int .u8 0, Value.int .u8 0, Value.int .u8 0, Value.int .u8 0, Value.int .u8 0].length) := hid (by rw [headL_len HSD.out]; exact Nat.le_refl _)
    have H1 : Hid (∀ v ∈ headL c la ln nx hp sd, v.oneCell' = true) := hid headL_one
    clear ok hcan hput
    go_enter Try.func7, Try.ntmps7
    go_wp2_with (with_reducible refine wpList_ld rfl (.agg (headL c la ln nx hp sd).toArray) 38 (.tmp 2) (.pointer (some ⟨w.heap.size, 0, none⟩)) rfl rfl (HLD.out) ?_; refine stop ?_)
    refine Stop.on ?_
    go_wp2_with fail
    refine (CanH_calls c la ln nx hp sd _ HSD.out).mono ?_; rintro e w1 ⟨rfl, hb1⟩
    rw [HC.out]
    have HB1 := hid (HB0.out.step hb1)
    have HW1 := hid (below_next HBL.out hb1)
    have HLD1 := hid (HB1.out.ld_all (P := Try.prog) Try.underlying38 rfl HI1.out)
    clear hb1 HLD
    go_wp2_with (with_reducible refine wpList_ld rfl (.agg (headL c la ln nx hp sd).toArray) 38 (.tmp 2) (.pointer (some ⟨w.heap.size, 0, none⟩)) rfl rfl (HLD1.out) ?_; refine stop ?_)
    refine Stop.on ?_
    go_wp2_with fail
    refine (PutH_calls w1.heap.size none 0 0 [] c la ln nx hp sd _ (Own.nil w1 _ _) (Nat.le_refl _) (by omega) HSD.out).mono ?_; rintro e w2 ⟨A2, n2, c2, rfl, ho2, hb2⟩
    rw [List.nil_append, HP.out] at ho2
    have hn2 : n2 ≤ 40 := by rw [ho2.len, encH_len HSD.out]; exact Nat.le_refl _
    have HB2 := hid (HB1.out.step hb2)
    have HW2 := hid (below_next HW1.out hb2)
    have hbs2 := HH.out.step HW2.out
    have hx2 := hb2.size
    have hx1 := HW1.out.size
    clear hb2 HLD1
    go_wp2_with (at_builtin; refine stop ?_)
    refine Stop.on (wpList_app rfl _ _ 22 rfl 5 i0 Try.underlying22 hi hz0 hz1 hz2 w1.heap.size _ l rfl rfl ho2 hbs2 (by omega) hx2 ?_)
    intro A3 n3 c3 w3 ho3 hg3
    have hb3 := below_grown hg3 ho2 (Nat.le_refl _) hx2
    have HW3 := hid (HW2.out.trans (hb3.mono hx1))
    have HB3 := hid (HB2.out.below HB1.out.lt hb3)
    clear hg3 ho2 hb3 hbs2 HB2 HW2
    go_wp2_with fail
    refine (GetH_calls _ _ _ _ _ ho3.bs).mono ?_; rintro e w4 ⟨rfl, hb4⟩
    rw [HG.out.1, HG.out.2]
    have HW4 := hid (below_next HW3.out hb4)
    have HB4 := hid (HB3.out.step hb4)
    have hz : Blk (w4.alloc (.cells #[Value.int .i64 0, Value.int .i64 0, Value.int .i64 0, Value.int .i64 0, Value.int .i64 0, Value.int .u8 0, Value.int .u8 0, Value.int .u8 0, Value.int .u8 0, Value.int .u8 0, Value.int .u8 0, Value.int .u8 0, Value.int .u8 0, Value.int .u8 0, Value.int .u8 0, Value.int .u8 0, Value.int .u8 0, Value.int .u8 0, Value.int .u8 0, Value.int .u8 0, Value.int .u8 0, Value.int .u8 0, Value.int .u8 0, Value.int .u8 0, Value.int .u8 0, Value.int .u8 0, Value.int .u8 0, Value.int .u8 0, Value.int .u8 0, Value.int .u8 0, Value.int .u8 0, Value.int .u8 0, Value.int .u8 0, Value.int .u8 0, Value.int .u8 0, Value.int .u8 0, Value.int .u8 0] 38)) w4.heap.size 38 [Value.int .i64 0, Value.int .i64 0, Value.int .i64 0, Value.int .i64 0, Value.int .i64 0, Value.int .u8 0, Value.int .u8 0, Value.int .u8 0, Value.int .u8 0, Value.int .u8 0, Value.int .u8 0, Value.int .u8 0, Value.int .u8 0, Value.int .u8 0, Value.int .u8 0, Value.int .u8 0, Value.int .u8 0, Value.int .u8 0, Value.int .u8 0, Value.int .u8 0, Value.int .u8 0, Value.int .u8 0, Value.int .u8 0, Value.int .u8 0, Value.int .u8 0, Value.int .u8 0, Value.int .u8 0, Value.int .u8 0, Value.int .u8 0, Value.int .u8 0, Value.int .u8 0, Value.int .u8 0, Value.int .u8 0, Value.int .u8 0, Value.int .u8 0, Value.int .u8 0, Value.int .u8 0] := Blk.new_at _ _ _ rfl
    have HZ := hid hz
    have hl4 := HB4.out.lt
    have hx4 := HW4.out.size
    clear hb4 ho3 hz HW3 HB3
    go_wp2_with (with_reducible refine Blk.wpList_st rfl 38 (.tmp 5) (.tmp 23) rfl (HZ.out) (g := w4.heap.size) (o := 0) rfl rfl HN1.out HI1.out H1.out ?_; refine stop ?_)
    refine Stop.on ?_
    refine wpl_name ?_; intro w5 hw5
    have hb5 : Blk w5 w4.heap.size 38 (headL c la ln nx hp sd) := by rw [hw5]; exact HZ.out.sets_all (by rw [headL_len HSD.out]; rfl)
    have hb5' : Blk w5 w.heap.size 38 (headL c la ln nx hp sd) := by rw [hw5]; exact Blk.others (by omega) _ 0 (HB4.out.alloc _)
    have hbw5 : Below w.heap.size w w5 := by rw [hw5]; exact below_setCells hx4 _ 0 (HW4.out.alloc hx4 _)
    have HL1 := hid (hb5.ld_all (P := Try.prog) Try.underlying38 rfl HI1.out)
    have HL2 := hid (hb5'.ld_all (P := Try.prog) Try.underlying38 rfl HI1.out)
    have HW5 := hid hbw5
    clear hw5 hb5 hb5' hbw5 HZ HB4 HW4
    go_wp2_with (with_reducible refine wpList_ld rfl (.agg (headL c la ln nx hp sd).toArray) 38 (.tmp 5) (.pointer (some ⟨w4.heap.size, 0, none⟩)) rfl rfl (HL1.out) ?_; refine stop ?_)
    refine Stop.on ?_
    go_wp2_with (with_reducible refine wpList_ld rfl (.agg (headL c la ln nx hp sd).toArray) 38 (.tmp 2) (.pointer (some ⟨w.heap.size, 0, none⟩)) rfl rfl (HL2.out) ?_; refine stop ?_)
    refine Stop.on ?_
    go_wp2_with fail
    refine (lives4_calls _).mono ?_; rintro e w6 ⟨rfl, hb6⟩
    have hb6' := below_next HW5.out hb6
    clear hb6
    go_wp2
    go_ret
    exact ⟨rfl, hb6'⟩
  · have hcan : canH c la ln nx hp = 2 := by unfold canH; rw [if_neg ok]
    have hput : putH c la ln nx hp sd = [] := by unfold putH; rw [if_neg ok]
    have HC := hid hcan
    have HP := hid hput
    clear ok hcan hput
    go_enter Try.func7, Try.ntmps7
    go_wp2_with (with_reducible refine wpList_ld rfl (.agg (headL c la ln nx hp sd).toArray) 38 (.tmp 2) (.pointer (some ⟨w.heap.size, 0, none⟩)) rfl rfl (HLD.out) ?_; refine stop ?_)
    refine Stop.on ?_
    go_wp2_with fail
    refine (CanH_calls c la ln nx hp sd _ HSD.out).mono ?_; rintro e w1 ⟨rfl, hb1⟩
    rw [HC.out]
    have HB1 := hid (HB0.out.step hb1)
    have HW1 := hid (below_next HBL.out hb1)
    have HLD1 := hid (HB1.out.ld_all (P := Try.prog) Try.underlying38 rfl (by rw [headL_len HSD.out]; kernel_rfl))
    clear hb1 HLD
    go_wp2_with (with_reducible refine wpList_ld rfl (.agg (headL c la ln nx hp sd).toArray) 38 (.tmp 2) (.pointer (some ⟨w.heap.size, 0, none⟩)) rfl rfl (HLD1.out) ?_; refine stop ?_)
    refine Stop.on ?_
    go_wp2_with fail
    refine (PutH_calls w1.heap.size none 0 0 [] c la ln nx hp sd _ (Own.nil w1 _ _) (Nat.le_refl _) (by omega) HSD.out).mono ?_; rintro e w2 ⟨A2, n2, c2, rfl, ho2, hb2⟩
    rw [List.nil_append, HP.out] at ho2
    obtain rfl : n2 = 0 := ho2.len
    have HW2 := hid (below_next HW1.out hb2)
    clear hb2 HLD1 ho2
    go_wp2_with fail
    refine (lives4_calls _).mono ?_; rintro e w6 ⟨rfl, hb6⟩
    have hb6' := below_next HW2.out hb6
    clear hb6
    go_wp2
    go_ret
    exact ⟨rfl, hb6'⟩
end Go.Proofs.Ytmenonijbcljdaa
