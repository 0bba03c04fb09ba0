/- Part Gdx of the proof: laws used by the law of this claim. -/
import Derived.Test.YtpoeinajedbfoaaDoorGds
set_option linter.all false
namespace Go.Proofs.YtpoeinajedbfoaaDoor
open Go Go.Am Go.RowKit Go.Mix Go.Bas
set_option maxRecDepth 100000
noncomputable def af_lives31 : AF := afOf Tryd.prog Tryd.f13 []
theorem af_lives31_ok : AllOk Tryd.prog 13 af_lives31 := .flat Tryd.func13 (by kernel_rfl) (by kernel_rfl) (by kernel_rfl) (by kernel_rfl) (by kernel_rfl)
noncomputable def GElv31 : List (Nat × Con) := [(9, .val [.other .ptr] cDrTotal), (11, .val [.other .ptr] cDrText), (14, .val [.int .i64] cDrName)]
theorem GElv31_ok : GOk Tryd.prog GElv31 := .cons (enters_of Tryd.func9 (by kernel_rfl) rfl) tlTotal_con <| .cons (enters_of Tryd.func11 (by kernel_rfl) rfl) drText_con <| .cons (enters_of Tryd.func14 (by kernel_rfl) rfl) drName_con <| .nil
noncomputable def IElv31 : List (Nat × AF) := [(8, af_tlAdd), (30, af_tlIs)]
theorem IElv31_ok : IOk Tryd.prog IElv31 := .cons af_tlAdd_ok <| .cons af_tlIs_ok <| .nil
noncomputable def CElv31 : List (Nat × (List Nat × (S → Option (Bool × Tr)))) := []
theorem CElv31_ok : COk Tryd.prog CElv31 := .nil
noncomputable def XElv31 : List (Nat × (List Sh × (List V → PT))) := []
theorem XElv31_ok : XOk Tryd.prog XElv31 := .nil
noncomputable def Elv31 : Env := ⟨Tryd.prog, GElv31, IElv31, CElv31, XElv31⟩
theorem Elv31_ok : EnvOk Elv31 := ⟨by kernel_rfl, GElv31_ok, IElv31_ok, CElv31_ok, XElv31_ok⟩
theorem lives31_t : callV Elv31 af_lives31 [] = some (.bool true) := by kernel_rfl
theorem lives31_con : ∀ vs v, cTru vs = some (v, true) → SpecV Tryd.prog 13 vs v := by
  intro vs v h; unfold cTru at h; split at h
  · injection h with h; injection h with h hb; subst h
    exact callV_ok Elv31_ok af_lives31_ok (lives31_t)
  · cases h
noncomputable def af_DropsNames : AF := afOf Tryd.prog Tryd.f4 []
theorem af_DropsNames_ok : AllOk Tryd.prog 4 af_DropsNames := .flat Tryd.func4 (by kernel_rfl) (by kernel_rfl) (by kernel_rfl) (by kernel_rfl) (by kernel_rfl)
noncomputable def af_tlEachN : AF := afOf Tryd.prog Tryd.f32 [.unr 17]
theorem af_tlEachN_ok : AllOk Tryd.prog 32 af_tlEachN := .flat Tryd.func32 (by kernel_rfl) (by kernel_rfl) (by kernel_rfl) (by kernel_rfl) (by kernel_rfl)
noncomputable def af_tlTotalN : AF := afOf Tryd.prog Tryd.f9 []
theorem af_tlTotalN_ok : AllOk Tryd.prog 9 af_tlTotalN := .flat Tryd.func9 (by kernel_rfl) (by kernel_rfl) (by kernel_rfl) (by kernel_rfl) (by kernel_rfl)
noncomputable def GEdrn : List (Nat × Con) := [(14, .val [.int .i64] cDrName), (15, .val [.int .i64] cDrName), (11, .val [.other .ptr] cDrText), (13, .val [] cTru)]
theorem GEdrn_ok : GOk Tryd.prog GEdrn := .cons (enters_of Tryd.func14 (by kernel_rfl) rfl) drName_con <| .cons (enters_of Tryd.func15 (by kernel_rfl) rfl) rDrName_con <| .cons (enters_of Tryd.func11 (by kernel_rfl) rfl) drText_con <| .cons (enters_of Tryd.func13 (by kernel_rfl) rfl) lives31_con <| .nil
noncomputable def IEdrn : List (Nat × AF) := [(8, af_tlAdd), (10, af_tlGet), (30, af_tlIs), (9, af_tlTotalN), (32, af_tlEachN), (31, af_smAdd)]
theorem IEdrn_ok : IOk Tryd.prog IEdrn := .cons af_tlAdd_ok <| .cons af_tlGet_ok <| .cons af_tlIs_ok <| .cons af_tlTotalN_ok <| .cons af_tlEachN_ok <| .cons af_smAdd_ok <| .nil
noncomputable def CEdrn : List (Nat × (List Nat × (S → Option (Bool × Tr)))) := []
theorem CEdrn_ok : COk Tryd.prog CEdrn := .nil
noncomputable def XEdrn : List (Nat × (List Sh × (List V → PT))) := []
theorem XEdrn_ok : XOk Tryd.prog XEdrn := .nil
noncomputable def Edrn : Env := ⟨Tryd.prog, GEdrn, IEdrn, CEdrn, XEdrn⟩
theorem Edrn_ok : EnvOk Edrn := ⟨by kernel_rfl, GEdrn_ok, IEdrn_ok, CEdrn_ok, XEdrn_ok⟩
def sh_DropsNames : List Sh := [.int .i64]
theorem DropsNames_t (r : Int) : callV Edrn af_DropsNames [.int .i64 r] =
 bif nmN r == nmN r then some (V.bool true) else some (V.bool false) := by kernel_rfl

theorem DropsNames_v : ∀ xs, inRs 140737488351232 sh_DropsNames xs = true → callV Edrn af_DropsNames xs = some (.bool true) := by
  intro xs h
  obtain ⟨zx1, zl1, rfl, zh1, zr1⟩ := inRs_cons h; clear h
  obtain ⟨r, rfl, hr0, hr1⟩ := inR_i64 zh1; clear zh1
  obtain rfl := inRs_nil zr1; clear zr1
  rw [DropsNames_t]
  simp
end Go.Proofs.YtpoeinajedbfoaaDoor
