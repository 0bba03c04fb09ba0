/- The walks of package six, second part: whether a header can be, in the reference. -/
import Derived.Test.YtmenonijbcljdaaSixa
import Derived.Deep.QuietTactic
import Derived.BigQuiet
namespace Go.Proofs.Ytmenonijbcljdaa
open Go.RowKit Go.Mix Go.Bas

def ints5 (c la ln nx hp : Int) : List Int := [c, la, ln, nx, hp]
def mosts5 : List Int := [255, 1048575, 65535, 255, 255]
theorem okH_iff {c la ln nx hp : Int} : okH c la ln nx hp ↔ ∀ j, j < 5 → 0 ≤ (ints5 c la ln nx hp).getD j 0 ∧ (ints5 c la ln nx hp).getD j 0 ≤ mosts5.getD j 0 := by
  constructor
  · intro h j hj
    unfold okH at h
    match j, hj with
    | 0, _ => exact h.1
    | 1, _ => exact h.2.1
    | 2, _ => exact h.2.2.1
    | 3, _ => exact h.2.2.2.1
    | 4, _ => exact h.2.2.2.2
  · intro h
    exact ⟨h 0 (by omega), h 1 (by omega), h 2 (by omega), h 3 (by omega), h 4 (by omega)⟩
theorem cell5 {w : World} {g : Nat} {T : TypeId} {l : List Int} (h : Blk w g T (l.map (Value.int .i64))) {j : Nat} (hj : j < l.length) : w.cell? ⟨g, j, none⟩ = some (.int .i64 (l.getD j 0)) := by
  apply h.cell
  rw [List.getElem?_map, List.getD_eq_getElem?_getD, List.getElem?_eq_getElem hj]
  rfl

set_option maxRecDepth 8000 in
set_option maxHeartbeats 1000000 in
theorem rCanH_calls (c la ln nx hp : Int) (sd : List UInt8) (w : World) (hsd : sd.length = 32) :
    Calls Try.prog 35 #[.agg (headL c la ln nx hp sd).toArray] w fun e w' => e = .returned (.int .i64 (canH c la ln nx hp)) ∧ Below w.heap.size w w' := by
  have hb0 := Blk.new w 38 (headL c la ln nx hp sd)
  have k0 := hb0.cell (j := 0) rfl
  have k1 := hb0.cell (j := 1) rfl
  have k2 := hb0.cell (j := 2) rfl
  have k3 := hb0.cell (j := 3) rfl
  have k4 := hb0.cell (j := 4) rfl
  clear hb0
  have HSD := hid hsd
  clear hsd
  go_enter Try.func35, Try.ntmps35
  go_wp2_with fail
  refine wp_name ?_; intro w2 hw2
  have ha : Blk w2 (w.heap.size + 1) 107 ((ints5 c la ln nx hp).map (Value.int .i64)) := by rw [hw2]; exact (Blk.new_at _ _ _ (by simp)).alloc _
  have hm : Blk w2 (w.heap.size + 2) 107 (mosts5.map (Value.int .i64)) := by rw [hw2]; exact Blk.new_at _ _ _ (by simp)
  have hb : Below w.heap.size w w2 := by rw [hw2]; exact (((Below.refl _ _).alloc (Nat.le_refl _) _).alloc (by simp) _).alloc (by simp; omega) _
  have HA := hid ha
  have HM := hid hm
  have HB := hid hb
  have hs := hb.size
  clear ha hm hb hw2 k0 k1 k2 k3 k4
  go_loopw [5] (fun i wr => ∃ j : Nat, j ≤ 5 ∧ i = .int .i64 j ∧ Hid (∀ k, k < j → 0 ≤ (ints5 c la ln nx hp).getD k 0 ∧ (ints5 c la ln nx hp).getD k 0 ≤ mosts5.getD k 0) ∧ Hid (Below w2.heap.size w2 wr)) (fun i _ => 5 - (intOf i).toNat)
  case atStart => exact ⟨0, by omega, rfl, hid (by omega), hid (Below.refl _ _)⟩
  case round =>
    obtain ⟨j, hj, rfl, hok, hbw⟩ := hrel
    have HBW : Hid (Below w.heap.size w wr) := hid (HB.out.trans (hbw.out.mono hs))
    by_cases hlt : j < 5
    · have hlt' : (j : Int) < 5 := by omega
      have hx := cell5 (HA.out.step hbw.out) (j := j) (by exact hlt)
      have hy := cell5 (HM.out.step hbw.out) (j := j) (by exact hlt)
      have hokj : okH c la ln nx hp → 0 ≤ (ints5 c la ln nx hp).getD j 0 ∧ (ints5 c la ln nx hp).getD j 0 ≤ mosts5.getD j 0 := fun h => okH_iff.1 h j hlt
      have hnext : (0 ≤ (ints5 c la ln nx hp).getD j 0 ∧ (ints5 c la ln nx hp).getD j 0 ≤ mosts5.getD j 0) → ∀ k, k < j + 1 → 0 ≤ (ints5 c la ln nx hp).getD k 0 ∧ (ints5 c la ln nx hp).getD k 0 ≤ mosts5.getD k 0 := by
        intro h k hk
        rcases Nat.lt_succ_iff_lt_or_eq.1 hk with h1 | h1
        · exact hok.out k h1
        · subst h1; exact h
      generalize (ints5 c la ln nx hp).getD j 0 = x at hx hokj hnext
      generalize mosts5.getD j 0 = m at hy hokj hnext
      have HNX := hid hnext
      have HOK := hid hokj
      have b1 : w.heap.size + 1 < wr.heap.size := Nat.lt_of_lt_of_le HA.out.lt hbw.out.size
      have b2 : w.heap.size + 2 < wr.heap.size := Nat.lt_of_lt_of_le HM.out.lt hbw.out.size
      clear hnext hokj hok
      by_cases k0 : x < 0
      · have HNO : Hid (canH c la ln nx hp = 2) := hid (by unfold canH; rw [if_neg (fun h => by have := HOK.out h; omega)])
        go_wp2_with fail
        go_quiet (fail)
        go_wp2
        go_ret
        exact ⟨by rw [HNO.out]; rfl, below_drewN HBW.out _⟩
      · by_cases k1 : m < x
        · have HNO : Hid (canH c la ln nx hp = 2) := hid (by unfold canH; rw [if_neg (fun h => by have := HOK.out h; omega)])
          go_wp2_with fail
          go_quiet (fail)
          go_wp2
          go_ret
          exact ⟨by rw [HNO.out]; rfl, below_drewN HBW.out _⟩
        · have HYE := hid (HNX.out ⟨by omega, by omega⟩)
          go_wp2_with fail
          go_quiet (fail)
          go_wp2
          go_roundw
          case rel => exact ⟨j + 1, by omega, by go_num, HYE, hid (below_drewN hbw.out _)⟩
          case measure => simp [intOf]; omega
    · obtain rfl : j = 5 := by omega
      have HC : Hid (canH c la ln nx hp = 0) := hid (by unfold canH; rw [if_pos (okH_iff.2 hok.out)])
      clear hok
      go_wp2
      go_ret
      exact ⟨by rw [HC.out]; rfl, HBW.out⟩
end Go.Proofs.Ytmenonijbcljdaa
