/- The walks of package six, seventh part: changes of a header. -/
import Derived.Test.YtmenonijbcljdaaSixf
import Derived.Shelf.Abstract
namespace Go.Proofs.Ytmenonijbcljdaa
open Go.RowKit Go.Mix Go.Bas

def errC (l : List UInt8) (er : Int) : Int := if errG l = 0 then er else errG l
def outC (l : List UInt8) (er c la ln nx hp : Int) (sd : List UInt8) : List UInt8 := if errG l = 0 ∧ er = 0 then putH c la ln nx hp sd ++ l.drop 40 else []

set_option maxRecDepth 8000 in
set_option maxHeartbeats 1000000 in
theorem change_calls (F : FuncId) (cap : Array Value) (A : Option Addr) (k cp : Nat) (l : List UInt8) (er c la ln nx hp : Int) (sd : List UInt8) (w : World) (h : Bs w A k cp l) (hsz : k ≤ 140737488351232) (hen : ∀ args w, (callFunc F args).run Try.prog w = .ok (.enter F args) w) (hsd : errG l = 0 → er = 0 → sd.length = 32)
    (how : errG l = 0 → ∀ (w1 : World) (g : Nat), Blk w1 g 38 (headG l) → w.heap.size ≤ g → Below w.heap.size w w1 →
      Calls Try.prog F (#[.pointer (some ⟨g, 0, none⟩)] ++ cap) w1 fun e w2 => e = .returned (.int .i64 er) ∧ (er = 0 → Blk w2 g 38 (headL c la ln nx hp sd)) ∧ Below g w1 w2) :
    Calls Try.prog 103 #[.slice A k cp, .func (.func F) #[] cap] w fun e w' => ∃ A' n' c', e = .returned (.tuple #[.slice A' n' c', .int .i64 (errC l er)]) ∧
      Own w' w.heap.size 5 A' n' c' (outC l er c la ln nx hp sd) ∧ Below w.heap.size w w' := by
  obtain ⟨i0, hi, hz0, hz1, hz2⟩ := info_parts Try.infob
  have hcp_k := (h).cap
  have hms_k := (h).most
  have hle_k : k ≤ (l).length := Nat.le_of_eq (h).len
  have hge_k : (l).length ≤ k := Nat.le_of_eq (h).len.symm
  have HH := hid h
  have HSD := hid hsd
  have HHOW := hid how
  have HI0 : Hid ((Try.prog.info? 38).map (·.size) = some (headG l).length) := hid (by rw [headG_len]; kernel_rfl)
  have HN1 : Hid (0 + (headG l).length ≤ [Value.int .i64 0, Value.int .i64 0, Value.int .i64 0, Value.int .i64 0, Value.int .i64 0, Value.int .u8 0, Value.int .u8 0, Value.int .u8 0, Value.int .u8 0, Value.int .u8 0, Value.int .u8 0, Value.int .u8 0, Value.int .u8 0, Value.int .u8 0, Value.int .u8 0, Value.int .u8 0, Value.int .u8 0, Value.int .u8 0, Value.int .u8 0, Value.int .u8 0, Value.int .u8 0, Value.int .u8 0, Value.int .u8 0, Value.int .u8 0, Value.int .u8 0, Value.int .u8 0, Value.int .u8 0, Value.int .u8 0, Value.int .u8 0, Value.int .u8 0, Value.int .u8 0, Value.int .u8 0, Value.int .u8 0, Value.int .u8 0, Value.int .u8 0, Value.int .u8 0, Value.int .u8 0].length) := hid (by rw [headG_len]; exact Nat.le_refl _)
  have H1 : Hid (∀ v ∈ headG l, v.oneCell' = true) := hid (by unfold headG; split <;> exact headL_one)
  clear h hsd how
  go_enter Try.func103, Try.ntmps103
  go_wp2_with fail
  refine (GetH_calls _ _ _ l _ HH.out).mono ?_; rintro e w1 ⟨rfl, hb1⟩
  have hz : Blk (w1.alloc (.cells #[Value.int .i64 0, Value.int .i64 0, Value.int .i64 0, Value.int .i64 0, Value.int .i64 0, Value.int .u8 0, Value.int .u8 0, Value.int .u8 0, Value.int .u8 0, Value.int .u8 0, Value.int .u8 0, Value.int .u8 0, Value.int .u8 0, Value.int .u8 0, Value.int .u8 0, Value.int .u8 0, Value.int .u8 0, Value.int .u8 0, Value.int .u8 0, Value.int .u8 0, Value.int .u8 0, Value.int .u8 0, Value.int .u8 0, Value.int .u8 0, Value.int .u8 0, Value.int .u8 0, Value.int .u8 0, Value.int .u8 0, Value.int .u8 0, Value.int .u8 0, Value.int .u8 0, Value.int .u8 0, Value.int .u8 0, Value.int .u8 0, Value.int .u8 0, Value.int .u8 0, Value.int .u8 0] 38)) w1.heap.size 38 [Value.int .i64 0, Value.int .i64 0, Value.int .i64 0, Value.int .i64 0, Value.int .i64 0, Value.int .u8 0, Value.int .u8 0, Value.int .u8 0, Value.int .u8 0, Value.int .u8 0, Value.int .u8 0, Value.int .u8 0, Value.int .u8 0, Value.int .u8 0, Value.int .u8 0, Value.int .u8 0, Value.int .u8 0, Value.int .u8 0, Value.int .u8 0, Value.int .u8 0, Value.int .u8 0, Value.int .u8 0, Value.int .u8 0, Value.int .u8 0, Value.int .u8 0, Value.int .u8 0, Value.int .u8 0, Value.int .u8 0, Value.int .u8 0, Value.int .u8 0, Value.int .u8 0, Value.int .u8 0, Value.int .u8 0, Value.int .u8 0, Value.int .u8 0, Value.int .u8 0, Value.int .u8 0] := Blk.new_at _ _ _ rfl
  have HZ := hid hz
  have HW1 := hid hb1
  clear hz hb1
  go_wp2_with (with_reducible refine Blk.wpList_st rfl 38 (.tmp 6) (.tmp 12) rfl (HZ.out) (g := w1.heap.size) (o := 0) rfl rfl HN1.out HI0.out H1.out ?_; refine stop ?_)
  refine Stop.on ?_
  refine wpl_name ?_; intro w2 hw2
  have hb2 : Blk w2 w1.heap.size 38 (headG l) := by rw [hw2]; exact HZ.out.sets_all (by rw [headG_len]; rfl)
  have hx1 := HW1.out.size
  have hbw2 : Below w.heap.size w w2 := by rw [hw2]; exact below_setCells hx1 _ 0 (HW1.out.alloc hx1 _)
  have HB2 := hid hb2
  have HW2 := hid hbw2
  clear hw2 hb2 hbw2 HZ HW1
  by_cases he : errG l = 0
  · have HE := hid he
    rw [he]
    have hq : errC l er = er := if_pos he
    have HQ := hid hq
    clear he hq
    go_wp2_with fail
    refine (HHOW.out HE.out _ _ HB2.out hx1 HW2.out).mono ?_; rintro e w3 ⟨rfl, hb3, hg3⟩
    have hbw3 := HW2.out.trans (hg3.mono hx1)
    have HB3 := hid hb3
    have HW3 := hid hbw3
    clear HB2 hg3 hb3 hbw3 HW2
    by_cases h0 : er = 0
    · subst h0
      have HO : Hid (outC l 0 c la ln nx hp sd = putH c la ln nx hp sd ++ l.drop 40) := hid (if_pos ⟨HE.out, rfl⟩)
      have hb4 := HB3.out rfl
      have hsd := HSD.out HE.out rfl
      have hld := hb4.ld_all (P := Try.prog) Try.underlying38 rfl (by rw [headL_len hsd]; kernel_rfl)
      have HL := hid (errG_zero HE.out).1
      have HSD' := hid hsd
      have HB4 := hid hb4
      have hx3 := HW3.out.size
      have hl4 := hb4.lt
      have h40 : 40 ≤ k := by have := HL.out; omega
      have hsl := fun w => run_slice1 (P := Try.prog) 22 5 i0 Try.underlying22 hi hz1 A k cp 40 .i64 40 rfl h40 w
      clear hb4 hsd HSD hld
      go_wp2_with fail
      have hq := SB.start (B := w3.heap.size) (w0 := w3) (Nat.le_refl _)
      have hne : Nonempty (SBW w3.heap.size w3) := Cls.ne (SB.refl (Nat.le_refl _))
      have hrun : ∀ wx, (∃ u : SBW w3.heap.size w3, wx = u.w) → (Instr.loadAt 38 (.pointer (some ⟨w1.heap.size, 0, none⟩))).run Try.prog wx = .ok (.agg (headL c la ln nx hp sd).toArray) wx := by
        rintro wx ⟨u, rfl⟩
        exact (HB4.out.inS hl4 u).ld_all Try.underlying38 rfl (by rw [headL_len HSD'.out]; kernel_rfl)
      have HRUN := hid hrun
      clear hrun
      refine wp_region_segs (fun wq => ∃ u : SBW (w3.heap.size) (w3), wq = u.w) ((0, 0) :: (2, 0) :: (3, 0) :: (1, 1) :: (4, 1) :: (5, 0) :: (6, 0) :: []) (by kernel_rfl) (by kernel_rfl) (by kernel_rfl) (by kernel_rfl) (inC hq) ?_
      refine seg_ld _ (.agg (headL c la ln nx hp sd).toArray) 38 (.tmp 6) (.pointer (some ⟨w1.heap.size, 0, none⟩)) HRUN.out rfl rfl rfl rfl ?_; go_frame -- 0 load
      refine seg_held _ rfl ?_; go_big_quiet_step (fail); refine wpQuiet_nil ?_ -- 2 move
      refine seg_held _ rfl ?_; go_big_quiet_step (fail); refine wpQuiet_nil ?_ -- 3 slice
      refine seg_loud _ rfl rfl ?_; intro K hK -- 1 call harrier/six.Put
      go_wp2_with fail
      refine (PutH_calls w3.heap.size none 0 0 [] _ _ _ _ _ _ _ (Own.nil w3.drew _ _) (by exact Nat.le_refl _) (by omega) HSD'.out).mono ?_
      rintro e w4 ⟨A4, n4, c4, rfl, ho4, hb4⟩
      go_wp2_with fail
      have hq4 := hq.low hb4
      refine ⟨_, fun _ h => h, inC hq4, ?_⟩
      refine seg_loud _ rfl rfl ?_; intro K hK -- 4 builtin:append
      have hbs4 := ((HH.out.step HW3.out).below (Nat.le_refl _) hq4.1).from_ h40
      have hn4 : n4 ≤ 40 := by have := ho4.len; unfold putH at this; split at this <;> simp [encH_len HSD'.out] at this <;> omega
      refine wp_app (.tmp 23) (.tmp 25) 22 rfl 5 i0 Try.underlying22 hi hz0 hz1 hz2 w3.heap.size _ _ rfl rfl ho4 hbs4 (by omega) hq4.2 (fun A5 n5 c5 w5 ho5 hg5 => hK _ _ ?_)
      have hb5 := below_grown hg5 ho4 (Nat.le_refl _) hq4.2
      refine ⟨_, fun _ h => h, inC (hq4.low hb5), ?_⟩
      go_frame
      refine seg_held _ rfl ?_; go_big_quiet_step (fail); refine wpQuiet_nil ?_ -- 5 assign
      refine seg_held _ rfl ?_; go_big_quiet_step (fail); refine wpQuiet_nil ?_ -- 6 assign
      refine seg_nil ?_
      have hbz := HW3.out.trans ((hq4.low hb5).1.mono hx3)
      rw [List.nil_append] at ho5
      clear hne hsl hg5 hbs4 ho4 hb4
      go_wp2
      go_ret2
      exact ⟨_, _, _, by rw [HQ.out]; rfl, by rw [HO.out]; exact ho5.mono hx3, hbz⟩
    · have hne : (er != 0) = true := by simpa using h0
      have HO : Hid (outC l er c la ln nx hp sd = []) := hid (if_neg (fun h => h0 h.2))
      clear h0 HB3
      go_wp2
      go_ret2
      exact ⟨_, _, _, by rw [HQ.out]; rfl, by rw [HO.out]; exact Own.nil _ _ _, HW3.out⟩
  · have hne : (errG l != 0) = true := by simpa using he
    have HR : Hid (errC l er = errG l) := hid (if_neg he)
    have HL : Hid (outC l er c la ln nx hp sd = []) := hid (if_neg (fun h => he h.1))
    generalize hg : errG l = eg at *
    clear hg he
    go_wp2
    go_ret2
    exact ⟨_, _, _, by rw [HR.out]; rfl, by rw [HL.out]; exact Own.nil _ _ _, HW2.out⟩
end Go.Proofs.Ytmenonijbcljdaa
