/- The example of layer 1, and the laws' walks: Reads. -/
import Derived.Test.YtkibjkpmdlikiaaOctc
import Derived.Test.YtkibjkpmdlikiaaFrame
namespace Go.Proofs.Ytkibjkpmdlikiaa
open Go.RowKit Go.Mix Go.Bas

set_option maxHeartbeats 1000000 in
theorem lives1_calls (w : World) :
    Calls Try.prog 37 #[] w fun e w' => e = .returned (.bool true) ∧ Below w.heap.size w w' := by
  go_enter Try.func37, Try.ntmps37
  go_wp2_with fail
  refine (U16_calls _ _ _ [1, 2] _ _ (made_bs _ _ _ _ rfl rfl rfl (by simp))).mono ?_; rintro e w1 ⟨rfl, q1⟩
  rw [show u16 [1, 2] 0 = (258, true) from rfl]
  have hb1 : Below w.heap.size w w1 := ((Below.refl _ _).alloc (Nat.le_refl _) _).trans (below_quiet q1)
  have hs1 := hb1.size
  clear q1
  go_wp2_with fail
  refine (U16_calls _ _ _ [1, 2] _ _ (made_bs _ _ _ _ rfl rfl rfl (by simp))).mono ?_; rintro e w2 ⟨rfl, q2⟩
  rw [show u16 [1, 2] 1 = (0, false) from rfl]
  have hb2 : Below w.heap.size w w2 := (hb1.alloc hs1 _).trans (below_quiet q2)
  have hs2 := hb2.size
  clear q2 hb1 hs1
  go_wp2_with fail
  refine (Put16_calls w2.heap.size _ _ _ [] _ _ (Own.nil _ _ _) (Nat.le_refl _) (by omega)).mono ?_; rintro e w3 ⟨A3, n3, c3, rfl, ho3, hg3⟩
  have hb3 := hb2.trans ((Below.refl _ _).grown hg3 hs2 (by simp [Value.ownBlock]))
  have hs3 := hb3.size
  have hstr := run_string (P := Try.prog) 22 5 9 Try.underlying22 Try.underlying5 Try.underlying9 ho3.bs
  rw [show str ([] ++ two (-1)) = .string ⟨#[255, 255]⟩ from rfl] at hstr
  clear hb2 hs2 hg3 ho3
  go_wp2_with fail
  refine (Zeros_calls _ _ _ [] _ (Bs.nil _ _ _ (by omega))).mono ?_; rintro e w4 ⟨rfl, rfl⟩
  rw [show zeros [] = true from rfl]
  clear hstr
  go_wp2_with fail
  refine (Zeros_calls _ _ _ [1] _ (made_bs _ _ _ _ rfl rfl rfl (by simp))).mono ?_; rintro e w5 ⟨rfl, rfl⟩
  rw [show zeros [1] = false from rfl]
  go_wp2
  go_ret
  exact ⟨rfl, hb3.alloc hs3 _⟩

set_option maxHeartbeats 1000000 in
theorem OctetsReads_calls (A : Option Addr) (k c : Nat) (l : List UInt8) (i n : Int) (w : World) (h : Bs w A k c l) (hsz : k ≤ 140737488355328) (hi : i ≤ 9223372036854775807) :
    Calls Try.prog 8 #[.slice A k c, .int .i64 i, .int .i64 n] w fun e w' => e = .returned (.bool true) ∧ Below w.heap.size w w' := by
  generalize g1 : u16 l i = x1 at *
  go_enter Try.func8, Try.ntmps8
  go_wp2_with fail
  refine (U16_calls _ _ _ l _ _ h).mono ?_; rintro e w1 ⟨rfl, q1⟩
  have hb1 : Below w.heap.size w w1 := below_quiet q1
  clear q1
  go_wp2_with fail
  refine (rU16_calls _ _ _ l _ _ (h.step hb1)).mono ?_; rintro e w2 ⟨rfl, q2⟩
  have hb2 : Below w.heap.size w w2 := hb1.trans (below_quiet q2)
  clear q2 hb1
  go_wp2_with fail
  refine (U32_calls _ _ _ l _ _ (h.step hb2)).mono ?_; rintro e w3 ⟨rfl, rfl⟩
  go_wp2_with fail
  refine (rU32_calls _ _ _ l _ _ (h.step hb2) hi).mono ?_; rintro e w3 ⟨rfl, q3⟩
  have hb3 : Below w.heap.size w w3 := hb2.trans (below_quiet q3)
  have hs3 := hb3.size
  clear q3 hb2
  go_wp2_with fail
  refine (Cut_calls _ _ _ l _ _ _ (h.step hb3) hsz).mono ?_; rintro e w4 ⟨A4, n4, c4, rfl, ho4, hb4⟩
  have hb4' := below_next hb3 hb4
  clear hb3
  go_wp2_with fail
  refine (rCut_calls _ _ _ l _ _ _ (h.step hb4') hsz).mono ?_; rintro e w5 ⟨A5, n5, c5, rfl, ho5, hb5⟩
  have hb5' := below_next hb4' hb5
  have hs5 := hb5'.size
  have hstr4 := run_string (P := Try.prog) 22 5 9 Try.underlying22 Try.underlying5 Try.underlying9 (ho4.step hb5).bs
  have hstr5 := run_string (P := Try.prog) 22 5 9 Try.underlying22 Try.underlying5 Try.underlying9 ho5.bs
  clear hb4 hb4' hb5 ho4 ho5
  go_wp2_with fail
  refine (Zeros_calls _ _ _ l _ (h.step hb5')).mono ?_; rintro e w6 ⟨rfl, rfl⟩
  clear hstr4 hstr5
  go_wp2_with fail
  refine (rZeros_calls _ _ _ l _ (h.step hb5')).mono ?_; rintro e w6 ⟨rfl, rfl⟩
  go_wp2_with fail
  refine (lives1_calls _).mono ?_; rintro e w6 ⟨rfl, hb6⟩
  have hb6' := below_next hb5' hb6
  clear hb5' hb6
  go_wp2
  go_ret
  exact ⟨rfl, hb6'⟩
end Go.Proofs.Ytkibjkpmdlikiaa
