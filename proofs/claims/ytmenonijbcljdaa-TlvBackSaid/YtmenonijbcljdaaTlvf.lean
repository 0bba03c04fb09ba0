/- The laws of layer 9: finds, puts. -/
import Derived.Test.YtmenonijbcljdaaTlve
namespace Go.Proofs.Ytmenonijbcljdaa
open Go.RowKit Go.Mix Go.Bas

theorem tls_one {w : World} {A : Option Addr} {n c : Nat} {kd : Int} {dt : List UInt8} {g : Nat} (hg : g = w.heap.size) (h : Bs w A n c dt) :
    Tls (w.alloc (.cells #[.int .i64 kd, .slice A n c] 105)) (some ⟨g, 0, none⟩) 1 1 [(kd, dt)] :=
  ⟨rfl, Nat.le_refl _, by omega, fun j hj => by
    subst hg
    have : j = 0 := by simpa using hj
    subst this
    exact ⟨w.heap.size, 0, rfl, by simp, by simp, A, n, c, by simp, h.alloc _⟩⟩

theorem put_ex : put [(5, [9])] = ([5, 1, 9, 4, 3, 0, 0, 0], 0) := by decide +kernel

set_option maxRecDepth 8000 in
set_option maxHeartbeats 1000000 in
theorem lives9_calls (w : World) :
    Calls Try.prog 29 #[] w fun e w' => e = .returned (.bool true) ∧ Below w.heap.size w w' := by
  go_enter Try.func29, Try.ntmps29
  go_wp2_with fail
  have hm : Bs (w.alloc (.cells #[.int .u8 9] 5)) (some ⟨w.heap.size, 0, none⟩) 1 1 [9] := made_bs w 5 [9] #[.int .u8 9] rfl rfl rfl (by simp)
  have ht := tls_one (kd := 5) (g := w.heap.size + 1) (by simp) hm
  refine (Put_calls _ _ _ [(5, [9])] _ ht).mono ?_; rintro e w1 ⟨A1, n1, c1, rfl, ho1, hb1⟩
  rw [put_ex] at ho1 ⊢
  have hb1' := below_next (((Below.refl w.heap.size w).alloc (Nat.le_refl _) (.cells #[.int .u8 9] 5)).alloc (by simp) (.cells #[.int .i64 5, .slice (some ⟨w.heap.size, 0, none⟩) 1 1] 105)) hb1
  have hs1 := hb1'.size
  clear hb1 hm
  go_wp2_with fail
  refine (Parse4_calls w1.heap.size _ (by simp) (by simp) (by simp) (by simp)).mono ?_; rintro e w2 ⟨rfl, rfl⟩
  have hstr := run_string (P := Try.prog) 22 5 9 Try.underlying22 Try.underlying5 Try.underlying9 (ho1.alloc (.cells #[.int .u8 0, .int .u8 4, .int .u8 0, .int .u8 7] 5)).bs
  rw [show str [5, 1, 9, 4, 3, 0, 0, 0] = .string ⟨#[5, 1, 9, 4, 3, 0, 0, 0]⟩ from rfl] at hstr
  have hb2 := hb1'.alloc hs1 (.cells #[.int .u8 0, .int .u8 4, .int .u8 0, .int .u8 7] 5)
  clear ho1 hb1' hs1
  go_wp2_with fail
  refine (Pad_calls 9 _).mono ?_; rintro e w3 ⟨A3, n3, c3, rfl, ho3, hb3⟩
  obtain rfl : n3 = 9 := by rw [ho3.len]; decide +kernel
  have hb3' := below_next hb2 hb3
  have hs3 := hb3'.size
  clear hb3 hstr ho3 hb2
  go_wp2_with fail
  refine (Can_calls _ _ _ [(4, [])] _ (tls_one rfl (Bs.nil _ _ _ (by omega)))).mono ?_; rintro e w4 ⟨rfl, hb4⟩
  rw [show can 256 [(4, [])] = 2 from by decide +kernel]
  have hb4' := below_next (hb3'.alloc hs3 _) hb4
  clear hb4
  go_wp2
  go_ret
  exact ⟨rfl, hb4'⟩

theorem put_snd (L : List (Int × List UInt8)) : (put L).2 = can 256 L := by
  unfold put
  split
  · rw [‹can 256 L = 0›]
  · rfl

end Go.Proofs.Ytmenonijbcljdaa
