/- The example of layer 9, and the laws' walks: finds, puts. -/
import Derived.Test.YtmenonijbcljdaaTlvd
import Derived.Test.YtmenonijbcljdaaFrame
import Derived.ScopeJumps
import Derived.WalkMore
namespace Go.Proofs.Ytmenonijbcljdaa
open Go.RowKit Go.Mix Go.Bas

set_option maxRecDepth 8000 in
set_option maxHeartbeats 1000000 in
theorem Parse4_calls (g : Nat) (w : World) (h0 : w.cell? ⟨g, 0, none⟩ = some (.int .u8 0)) (h1 : w.cell? ⟨g, 1, none⟩ = some (.int .u8 4)) (h2 : w.cell? ⟨g, 2, none⟩ = some (.int .u8 0)) (h3 : w.cell? ⟨g, 3, none⟩ = some (.int .u8 7)) :
    Calls Try.prog 26 #[.slice (some ⟨g, 0, none⟩) 4 4] w fun e w' => e = .returned (.tuple #[.slice none 0 0, .int .i64 3]) ∧ w = w' := by
  go_enter Try.func26, Try.ntmps26
  go_wp2_with fail
  refine wp_scope_jumps 0 (fun a' w' => w' = w ∧ ∃ (s : Value) (u5 u6 u7 u8 u9 u10 u11 u12 u13 u14 u15 u16 u17 u18 u19 u20 u21 u22 u23 u24 u25 u26 u27 u28 u29 u30 u31 u32 u33 u34 u35 u36 u37 u38 u39 u40 u41 u42 u43 u44 u45 u46 u47 u48 u49 u50 u51 u52 u53 u54 u55 : Value), a' = { tmps := #[s, undef, .slice none 0 0, .int .i64 0, .slice none 0 0, u5, u6, u7, u8, u9, u10, u11, u12, u13, u14, u15, u16, u17, u18, u19, u20, u21, u22, u23, u24, u25, u26, u27, u28, u29, u30, u31, u32, u33, u34, u35, u36, u37, u38, u39, u40, u41, u42, u43, u44, u45, u46, u47, u48, u49, u50, u51, u52, u53, u54, u55], defers := [] } ∧ (s = .slice (some ⟨g, 0, none⟩) 4 4 ∨ s = .slice (some ⟨g, 1, none⟩) 3 3 ∨ s = .slice (some ⟨g, 3, none⟩) 1 1)) (fun a' _ => match a'.tmps.getD 0 undef with | .slice _ n _ => n | _ => 0) rfl ?_ ?_
  · go_wp2
    go_step3
    go_wp2
    go_step3
    refine ⟨rfl, rfl, _, _, _, _, _, _, _, _, _, _, _, _, _, _, _, _, _, _, _, _, _, _, _, _, _, _, _, _, _, _, _, _, _, _, _, _, _, _, _, _, _, _, _, _, _, _, _, _, _, _, _, _, rfl, .inr (.inl rfl)⟩
  · rintro a' w' ⟨rfl, s, u5, u6, u7, u8, u9, u10, u11, u12, u13, u14, u15, u16, u17, u18, u19, u20, u21, u22, u23, u24, u25, u26, u27, u28, u29, u30, u31, u32, u33, u34, u35, u36, u37, u38, u39, u40, u41, u42, u43, u44, u45, u46, u47, u48, u49, u50, u51, u52, u53, u54, u55, rfl, rfl | rfl | rfl⟩
    · go_wp2
      go_step3
      refine ⟨rfl, ⟨rfl, _, _, _, _, _, _, _, _, _, _, _, _, _, _, _, _, _, _, _, _, _, _, _, _, _, _, _, _, _, _, _, _, _, _, _, _, _, _, _, _, _, _, _, _, _, _, _, _, _, _, _, _, rfl, .inr (.inl rfl)⟩, show (3 : Nat) < 4 by omega⟩
    · go_wp2
      go_step3
      refine ⟨rfl, ⟨rfl, _, _, _, _, _, _, _, _, _, _, _, _, _, _, _, _, _, _, _, _, _, _, _, _, _, _, _, _, _, _, _, _, _, _, _, _, _, _, _, _, _, _, _, _, _, _, _, _, _, _, _, _, rfl, .inr (.inr rfl)⟩, show (1 : Nat) < 3 by omega⟩
    · go_wp2
      simp only [Exit.jump]
      go_ret2
      exact ⟨rfl, rfl⟩
end Go.Proofs.Ytmenonijbcljdaa
