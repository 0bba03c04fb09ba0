/- Part Gv of the proof: laws used by the law of this claim. -/
import Derived.Test.YtbojofchpnfnlaaGreatGx
import Derived.Test.YtbojofchpnfnlaaGreatGo
import Derived.Test.YtbojofchpnfnlaaGreatGi
import Derived.Test.YtbojofchpnfnlaaGreatGt
set_option linter.all false
namespace Go.Proofs.YtbojofchpnfnlaaGreat
open Go Go.Am Go.RowKit Go.Mix Go.Bas
set_option maxRecDepth 100000
noncomputable def af_lives13 : AF := afOf Tryz.prog Tryz.f15 []
theorem af_lives13_ok : AllOk Tryz.prog 15 af_lives13 := .flat Tryz.func15 (by kernel_rfl) (by kernel_rfl) (by kernel_rfl) (by kernel_rfl) (by kernel_rfl)
noncomputable def GEpki : List (Nat × Con) := [(34, .val [.barr 16, .barr 16, .agg [.int .i64, .int .i64, .int .u32, .int .u32, .int .i64, .int .i64, .int .i64, .int .i64, .rows (.agg [.int .i64, .bytes]), .bytes]] cPkTcp), (9, .val [.bytes] cPkParse), (13, .val [.int .i64] cReason)]
theorem GEpki_ok : GOk Tryz.prog GEpki := .cons (enters_of Tryz.func34 (by kernel_rfl) rfl) pkTcp_con <| .cons (enters_of Tryz.func9 (by kernel_rfl) rfl) pkParse_con <| .cons (enters_of Tryz.func13 (by kernel_rfl) rfl) pkReason_con <| .nil
noncomputable def IEpki : List (Nat × AF) := []
theorem IEpki_ok : IOk Tryz.prog IEpki := .nil
noncomputable def CEpki : List (Nat × (List Nat × (S → Option (Bool × Tr)))) := []
theorem CEpki_ok : COk Tryz.prog CEpki := .nil
noncomputable def XEpki : List (Nat × (List Sh × (List V → PT))) := []
theorem XEpki_ok : XOk Tryz.prog XEpki := .nil
noncomputable def Epki : Env := ⟨Tryz.prog, GEpki, IEpki, CEpki, XEpki⟩
theorem Epki_ok : EnvOk Epki := ⟨by kernel_rfl, GEpki_ok, IEpki_ok, CEpki_ok, XEpki_ok⟩
theorem lives13_v : callV Epki af_lives13 [] = some (.bool true) := by kernel_rfl
def cTrue13 : List V → Option (V × Bool)
  | [] => some (.bool true, true)
  | _ => none
theorem lives13_con : ∀ vs v, cTrue13 vs = some (v, true) → SpecV Tryz.prog 15 vs v := by
  intro vs v h; unfold cTrue13 at h; split at h
  · injection h with h; injection h with h hb; subst h
    exact callV_ok Epki_ok af_lives13_ok (lives13_v)
  · cases h
end Go.Proofs.YtbojofchpnfnlaaGreat

namespace Go.Proofs.YtbojofchpnfnlaaGreat
open Go Go.Am Go.RowKit Go.Mix Go.Bas
set_option maxRecDepth 100000
end Go.Proofs.YtbojofchpnfnlaaGreat
