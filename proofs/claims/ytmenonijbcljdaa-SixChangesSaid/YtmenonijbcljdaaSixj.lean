/- The laws of layer 4: the example; gets. -/
import Derived.Test.YtmenonijbcljdaaSixi
import Derived.Test.YtmenonijbcljdaaFrame
namespace Go.Proofs.Ytmenonijbcljdaa
open Go.RowKit Go.Mix Go.Bas

theorem lit1 : [Value.int .i64 1, Value.int .i64 2, Value.int .i64 0, Value.int .i64 0, Value.int .i64 1, Value.int .u8 0, Value.int .u8 0, Value.int .u8 0, Value.int .u8 0, Value.int .u8 0, Value.int .u8 0, Value.int .u8 0, Value.int .u8 0, Value.int .u8 0, Value.int .u8 0, Value.int .u8 0, Value.int .u8 0, Value.int .u8 0, Value.int .u8 0, Value.int .u8 0, Value.int .u8 0, Value.int .u8 0, Value.int .u8 0, Value.int .u8 0, Value.int .u8 0, Value.int .u8 0, Value.int .u8 0, Value.int .u8 0, Value.int .u8 0, Value.int .u8 0, Value.int .u8 0, Value.int .u8 0, Value.int .u8 0, Value.int .u8 0, Value.int .u8 0, Value.int .u8 0, Value.int .u8 0] = headL 1 2 0 0 1 (List.replicate 32 0) := rfl
theorem lit2 : [Value.int .i64 0, Value.int .i64 0, Value.int .i64 0, Value.int .i64 0, Value.int .i64 256, Value.int .u8 0, Value.int .u8 0, Value.int .u8 0, Value.int .u8 0, Value.int .u8 0, Value.int .u8 0, Value.int .u8 0, Value.int .u8 0, Value.int .u8 0, Value.int .u8 0, Value.int .u8 0, Value.int .u8 0, Value.int .u8 0, Value.int .u8 0, Value.int .u8 0, Value.int .u8 0, Value.int .u8 0, Value.int .u8 0, Value.int .u8 0, Value.int .u8 0, Value.int .u8 0, Value.int .u8 0, Value.int .u8 0, Value.int .u8 0, Value.int .u8 0, Value.int .u8 0, Value.int .u8 0, Value.int .u8 0, Value.int .u8 0, Value.int .u8 0, Value.int .u8 0, Value.int .u8 0] = headL 0 0 0 0 256 (List.replicate 32 0) := rfl
def ex4 : List UInt8 := putH 1 2 0 0 1 (List.replicate 32 0)
theorem ex4_len : ex4.length = 40 := by decide +kernel
theorem ex4_near : nearE ex4 = 13 := by decide +kernel
theorem ex4_get : errG (ex4.take 39) = 3 := by decide +kernel
theorem ex4_can : canH 0 0 0 0 256 = 2 := by decide +kernel

set_option maxRecDepth 8000 in
set_option maxHeartbeats 1000000 in
theorem lives4_calls (w : World) :
    Calls Try.prog 33 #[] w fun e w' => e = .returned (.bool true) ∧ Below w.heap.size w w' := by
  obtain ⟨i0, hi, hz0, hz1, hz2⟩ := info_parts Try.infob
  have HI1 : Hid ((Try.prog.info? 38).map (·.size) = some (headG (ex4.take 39)).length) := hid (by rw [headG_len]; kernel_rfl)
  have HN1 : Hid (0 + (headG (ex4.take 39)).length ≤ [Value.int .i64 0, Value.int .i64 0, Value.int .i64 0, Value.int .i64 0, Value.int .i64 0, Value.int .u8 0, Value.int .u8 0, Value.int .u8 0, Value.int .u8 0, Value.int .u8 0, Value.int .u8 0, Value.int .u8 0, Value.int .u8 0, Value.int .u8 0, Value.int .u8 0, Value.int .u8 0, Value.int .u8 0, Value.int .u8 0, Value.int .u8 0, Value.int .u8 0, Value.int .u8 0, Value.int .u8 0, Value.int .u8 0, Value.int .u8 0, Value.int .u8 0, Value.int .u8 0, Value.int .u8 0, Value.int .u8 0, Value.int .u8 0, Value.int .u8 0, Value.int .u8 0, Value.int .u8 0, Value.int .u8 0, Value.int .u8 0, Value.int .u8 0, Value.int .u8 0, Value.int .u8 0].length) := hid (by rw [headG_len]; exact Nat.le_refl _)
  have H1 : Hid (∀ v ∈ headG (ex4.take 39), v.oneCell' = true) := hid (by unfold headG; split <;> exact headL_one)
  go_enter Try.func33, Try.ntmps33
  go_wp2_with fail
  refine (PutH_calls w.heap.size none 0 0 [] 1 2 0 0 1 (List.replicate 32 0) _ (Own.nil w _ _) (Nat.le_refl _) (by omega) rfl).mono ?_; rintro e w1 ⟨A1, n1, c1, rfl, ho1, hb1⟩
  rw [List.nil_append] at ho1
  change Own w1 w.heap.size _ A1 n1 c1 ex4 at ho1
  obtain rfl : n1 = 40 := by rw [ho1.len, ex4_len]
  have hbs1 := ho1.bs
  have hcap := hbs1.cap
  have hmost := hbs1.most
  have HB1 := hid hb1
  have hx1 := hb1.size
  clear hb1
  go_wp2_with fail
  refine (Nearer_calls _ _ _ ex4 _ hbs1 (by omega)).mono ?_; rintro e w2 ⟨A2, n2, c2, rfl, ho2, hb2⟩
  rw [ex4_near]
  have hb2' := below_next HB1.out hb2
  have hbs2 := (hbs1.step hb2).head (m := 39) (by omega)
  have HB2 := hid hb2'
  clear hb2 hb2' ho2 ho1 hbs1
  go_wp2_with fail
  refine (GetH_calls _ _ _ (ex4.take 39) _ hbs2).mono ?_; rintro e w3 ⟨rfl, hb3⟩
  rw [ex4_get]
  have hb3' := below_next HB2.out hb3
  have hz : Blk (w3.alloc (.cells #[Value.int .i64 0, Value.int .i64 0, Value.int .i64 0, Value.int .i64 0, Value.int .i64 0, Value.int .u8 0, Value.int .u8 0, Value.int .u8 0, Value.int .u8 0, Value.int .u8 0, Value.int .u8 0, Value.int .u8 0, Value.int .u8 0, Value.int .u8 0, Value.int .u8 0, Value.int .u8 0, Value.int .u8 0, Value.int .u8 0, Value.int .u8 0, Value.int .u8 0, Value.int .u8 0, Value.int .u8 0, Value.int .u8 0, Value.int .u8 0, Value.int .u8 0, Value.int .u8 0, Value.int .u8 0, Value.int .u8 0, Value.int .u8 0, Value.int .u8 0, Value.int .u8 0, Value.int .u8 0, Value.int .u8 0, Value.int .u8 0, Value.int .u8 0, Value.int .u8 0, Value.int .u8 0] 38)) w3.heap.size 38 [Value.int .i64 0, Value.int .i64 0, Value.int .i64 0, Value.int .i64 0, Value.int .i64 0, Value.int .u8 0, Value.int .u8 0, Value.int .u8 0, Value.int .u8 0, Value.int .u8 0, Value.int .u8 0, Value.int .u8 0, Value.int .u8 0, Value.int .u8 0, Value.int .u8 0, Value.int .u8 0, Value.int .u8 0, Value.int .u8 0, Value.int .u8 0, Value.int .u8 0, Value.int .u8 0, Value.int .u8 0, Value.int .u8 0, Value.int .u8 0, Value.int .u8 0, Value.int .u8 0, Value.int .u8 0, Value.int .u8 0, Value.int .u8 0, Value.int .u8 0, Value.int .u8 0, Value.int .u8 0, Value.int .u8 0, Value.int .u8 0, Value.int .u8 0, Value.int .u8 0, Value.int .u8 0] := Blk.new_at _ _ _ rfl
  have HZ := hid hz
  have HB3 := hid hb3'
  clear hb3 hb3' hz
  go_wp2_with (with_reducible refine Blk.wpList_st rfl 38 (.tmp 4) (.tmp 20) rfl (HZ.out) (g := w3.heap.size) (o := 0) rfl rfl HN1.out HI1.out H1.out ?_; refine stop ?_)
  refine Stop.on ?_
  refine wpl_name ?_; intro w4 hw4
  have hx3 := HB3.out.size
  have hb4 : Below w.heap.size w w4 := by rw [hw4]; exact below_setCells hx3 _ 0 (HB3.out.alloc hx3 _)
  have HB4 := hid hb4
  clear hw4 hb4 HZ HB3
  go_wp2_with fail
  refine (CanH_calls 0 0 0 0 256 (List.replicate 32 0) _ rfl).mono ?_; rintro e w5 ⟨rfl, hb5⟩
  rw [ex4_can]
  have hb5' := below_next HB4.out hb5
  clear hb5
  go_wp2
  go_ret
  exact ⟨rfl, hb5'⟩

theorem headG_ints {l : List UInt8} : ∃ ns : List Int, headG l = ints headK ns ∧ ns.length = headK.length := by
  by_cases h : errG l = 0
  · exact ⟨_, by rw [headG_eq h, headL_ints (sd_len h)], headN_len (sd_len h)⟩
  · exact ⟨_, by unfold headG; rw [if_neg h]; exact headL_ints (by simp), headN_len (by simp)⟩

set_option maxRecDepth 8000 in
set_option maxHeartbeats 1000000 in
theorem SixGets_calls (A : Option Addr) (k cp : Nat) (l : List UInt8) (w : World) (h : Bs w A k cp l) :
    Calls Try.prog 6 #[.slice A k cp] w fun e w' => e = .returned (.bool true) ∧ Below w.heap.size w w' := by
  have hi1 : (Try.prog.info? 38).map (·.size) = some (headG l).length := by rw [headG_len]; kernel_rfl
  have HI1 := hid hi1
  have HN1 : Hid (0 + (headG l).length ≤ [Value.int .i64 0, Value.int .i64 0, Value.int .i64 0, Value.int .i64 0, Value.int .i64 0, Value.int .u8 0, Value.int .u8 0, Value.int .u8 0, Value.int .u8 0, Value.int .u8 0, Value.int .u8 0, Value.int .u8 0, Value.int .u8 0, Value.int .u8 0, Value.int .u8 0, Value.int .u8 0, Value.int .u8 0, Value.int .u8 0, Value.int .u8 0, Value.int .u8 0, Value.int .u8 0, Value.int .u8 0, Value.int .u8 0, Value.int .u8 0, Value.int .u8 0, Value.int .u8 0, Value.int .u8 0, Value.int .u8 0, Value.int .u8 0, Value.int .u8 0, Value.int .u8 0, Value.int .u8 0, Value.int .u8 0, Value.int .u8 0, Value.int .u8 0, Value.int .u8 0, Value.int .u8 0].length) := hid (by rw [headG_len]; exact Nat.le_refl _)
  have H1 : Hid (∀ v ∈ headG l, v.oneCell' = true) := hid (by unfold headG; split <;> exact headL_one)
  have heq : ∀ w, (binOp .eql 38 (.agg (headG l).toArray) (.agg (headG l).toArray)).run Try.prog w = .ok (.bool true) w := by
    intro w
    obtain ⟨ns, e, hl⟩ := headG_ints (l := l)
    rw [e, eql_flat (P := Try.prog) (d := 3) (by kernel_rfl) rfl (by kernel_rfl) hl hl w]
    simp
  have hgd := fun w x y => run_eqGuard_agg (P := Try.prog) w .eql 38 x y (headG l).toArray (headG l).toArray (by kernel_rfl)
  have HH := hid h
  clear hi1 h
  go_enter Try.func6, Try.ntmps6
  go_wp2_with fail
  refine (GetH_calls _ _ _ l _ HH.out).mono ?_; rintro e w1 ⟨rfl, hb1⟩
  have hz : Blk (w1.alloc (.cells #[Value.int .i64 0, Value.int .i64 0, Value.int .i64 0, Value.int .i64 0, Value.int .i64 0, Value.int .u8 0, Value.int .u8 0, Value.int .u8 0, Value.int .u8 0, Value.int .u8 0, Value.int .u8 0, Value.int .u8 0, Value.int .u8 0, Value.int .u8 0, Value.int .u8 0, Value.int .u8 0, Value.int .u8 0, Value.int .u8 0, Value.int .u8 0, Value.int .u8 0, Value.int .u8 0, Value.int .u8 0, Value.int .u8 0, Value.int .u8 0, Value.int .u8 0, Value.int .u8 0, Value.int .u8 0, Value.int .u8 0, Value.int .u8 0, Value.int .u8 0, Value.int .u8 0, Value.int .u8 0, Value.int .u8 0, Value.int .u8 0, Value.int .u8 0, Value.int .u8 0, Value.int .u8 0] 38)) w1.heap.size 38 [Value.int .i64 0, Value.int .i64 0, Value.int .i64 0, Value.int .i64 0, Value.int .i64 0, Value.int .u8 0, Value.int .u8 0, Value.int .u8 0, Value.int .u8 0, Value.int .u8 0, Value.int .u8 0, Value.int .u8 0, Value.int .u8 0, Value.int .u8 0, Value.int .u8 0, Value.int .u8 0, Value.int .u8 0, Value.int .u8 0, Value.int .u8 0, Value.int .u8 0, Value.int .u8 0, Value.int .u8 0, Value.int .u8 0, Value.int .u8 0, Value.int .u8 0, Value.int .u8 0, Value.int .u8 0, Value.int .u8 0, Value.int .u8 0, Value.int .u8 0, Value.int .u8 0, Value.int .u8 0, Value.int .u8 0, Value.int .u8 0, Value.int .u8 0, Value.int .u8 0, Value.int .u8 0] := Blk.new_at _ _ _ rfl
  have HZ := hid hz
  have HB1 := hid hb1
  have hx1 := hb1.size
  clear hb1 hz
  go_wp2_with (with_reducible refine Blk.wpList_st rfl 38 (.tmp 3) (.tmp 10) rfl (HZ.out) (g := w1.heap.size) (o := 0) rfl rfl HN1.out HI1.out H1.out ?_; refine stop ?_)
  refine Stop.on ?_
  refine wpl_name ?_; intro w2 hw2
  have hb2 : Blk w2 w1.heap.size 38 (headG l) := by rw [hw2]; exact HZ.out.sets_all (by rw [headG_len]; rfl)
  have hbw2 : Below w.heap.size w w2 := by rw [hw2]; exact below_setCells hx1 _ 0 (HB1.out.alloc hx1 _)
  have HB2 := hid hb2
  have HW2 := hid hbw2
  clear hw2 hb2 hbw2 HZ HB1
  go_wp2_with fail
  refine (rGetH_calls _ _ _ l _ (HH.out.step HW2.out)).mono ?_; rintro e w3 ⟨rfl, hb3⟩
  have hz : Blk (w3.alloc (.cells #[Value.int .i64 0, Value.int .i64 0, Value.int .i64 0, Value.int .i64 0, Value.int .i64 0, Value.int .u8 0, Value.int .u8 0, Value.int .u8 0, Value.int .u8 0, Value.int .u8 0, Value.int .u8 0, Value.int .u8 0, Value.int .u8 0, Value.int .u8 0, Value.int .u8 0, Value.int .u8 0, Value.int .u8 0, Value.int .u8 0, Value.int .u8 0, Value.int .u8 0, Value.int .u8 0, Value.int .u8 0, Value.int .u8 0, Value.int .u8 0, Value.int .u8 0, Value.int .u8 0, Value.int .u8 0, Value.int .u8 0, Value.int .u8 0, Value.int .u8 0, Value.int .u8 0, Value.int .u8 0, Value.int .u8 0, Value.int .u8 0, Value.int .u8 0, Value.int .u8 0, Value.int .u8 0] 38)) w3.heap.size 38 [Value.int .i64 0, Value.int .i64 0, Value.int .i64 0, Value.int .i64 0, Value.int .i64 0, Value.int .u8 0, Value.int .u8 0, Value.int .u8 0, Value.int .u8 0, Value.int .u8 0, Value.int .u8 0, Value.int .u8 0, Value.int .u8 0, Value.int .u8 0, Value.int .u8 0, Value.int .u8 0, Value.int .u8 0, Value.int .u8 0, Value.int .u8 0, Value.int .u8 0, Value.int .u8 0, Value.int .u8 0, Value.int .u8 0, Value.int .u8 0, Value.int .u8 0, Value.int .u8 0, Value.int .u8 0, Value.int .u8 0, Value.int .u8 0, Value.int .u8 0, Value.int .u8 0, Value.int .u8 0, Value.int .u8 0, Value.int .u8 0, Value.int .u8 0, Value.int .u8 0, Value.int .u8 0] := Blk.new_at _ _ _ rfl
  have HZ := hid hz
  have HB3 := hid (HB2.out.step hb3)
  have HW3 := hid (below_next HW2.out hb3)
  have hx3 := HW3.out.size
  have hl3 := HB3.out.lt
  clear hb3 hz HB2 HW2
  go_wp2_with (with_reducible refine Blk.wpList_st rfl 38 (.tmp 5) (.tmp 15) rfl (HZ.out) (g := w3.heap.size) (o := 0) rfl rfl HN1.out HI1.out H1.out ?_; refine stop ?_)
  refine Stop.on ?_
  refine wpl_name ?_; intro w4 hw4
  have hb4 : Blk w4 w3.heap.size 38 (headG l) := by rw [hw4]; exact HZ.out.sets_all (by rw [headG_len]; rfl)
  have hb4' : Blk w4 w1.heap.size 38 (headG l) := by rw [hw4]; exact Blk.others (by omega) _ 0 (HB3.out.alloc _)
  have hbw4 : Below w.heap.size w w4 := by rw [hw4]; exact below_setCells hx3 _ 0 (HW3.out.alloc hx3 _)
  have HL1 := hid (hb4.ld_all (P := Try.prog) Try.underlying38 rfl HI1.out)
  have HL2 := hid (hb4'.ld_all (P := Try.prog) Try.underlying38 rfl HI1.out)
  have HW4 := hid hbw4
  clear hw4 hb4 hb4' hbw4 HZ HB3 HW3
  go_wp2_with (with_reducible refine wpList_ld rfl (.agg (headG l).toArray) 38 (.tmp 3) (.pointer (some ⟨w1.heap.size, 0, none⟩)) rfl rfl (HL2.out) ?_; refine stop ?_)
  refine Stop.on ?_
  go_wp2_with (with_reducible refine wpList_ld rfl (.agg (headG l).toArray) 38 (.tmp 5) (.pointer (some ⟨w3.heap.size, 0, none⟩)) rfl rfl (HL1.out) ?_; refine stop ?_)
  refine Stop.on ?_
  go_wp2_with fail
  refine (lives4_calls _).mono ?_; rintro e w5 ⟨rfl, hb5⟩
  have hb5' := below_next HW4.out hb5
  clear hb5
  go_wp2
  go_ret
  exact ⟨rfl, hb5'⟩
end Go.Proofs.Ytmenonijbcljdaa
