/- Part Gfp of the proof: laws used by the law of this claim. -/
import Derived.Test.YtkfokahghlnjmaaGreatDoorGx
import Derived.Test.YtkfokahghlnjmaaGreatDoorGfl
import Derived.Test.YtkfokahghlnjmaaGreatDoorGf
set_option linter.all false
namespace Go.Proofs.YtkfokahghlnjmaaGreatDoor
open Go Go.Am Go.RowKit Go.Mix Go.Bas
set_option maxRecDepth 100000
noncomputable def af_flOf : AF := afOf Tryz.prog Tryz.f6 []
theorem af_flOf_ok : AllOk Tryz.prog 6 af_flOf := .flat Tryz.func6 (by kernel_rfl) (by kernel_rfl) (by kernel_rfl) (by kernel_rfl) (by kernel_rfl)
noncomputable def af_FlowPackets : AF := afOf Tryz.prog Tryz.f3 []
theorem af_FlowPackets_ok : AllOk Tryz.prog 3 af_FlowPackets := .flat Tryz.func3 (by kernel_rfl) (by kernel_rfl) (by kernel_rfl) (by kernel_rfl) (by kernel_rfl)
noncomputable def GEflp : List (Nat × Con) := [(4, .val [.bytes] cPkParse), (5, .val [.bytes] cPkParse), (7, .val [] cTru)]
theorem GEflp_ok : GOk Tryz.prog GEflp := .cons (enters_of Tryz.func4 (by kernel_rfl) rfl) pkParse_con <| .cons (enters_of Tryz.func5 (by kernel_rfl) rfl) rPkParse_con <| .cons (enters_of Tryz.func7 (by kernel_rfl) rfl) lives14_con <| .nil
noncomputable def IEflp : List (Nat × AF) := [(6, af_flOf)]
theorem IEflp_ok : IOk Tryz.prog IEflp := .cons af_flOf_ok <| .nil
noncomputable def CEflp : List (Nat × (List Nat × (S → Option (Bool × Tr)))) := []
theorem CEflp_ok : COk Tryz.prog CEflp := .nil
noncomputable def XEflp : List (Nat × (List Sh × (List V → PT))) := []
theorem XEflp_ok : XOk Tryz.prog XEflp := .nil
noncomputable def Eflp : Env := ⟨Tryz.prog, GEflp, IEflp, CEflp, XEflp⟩
theorem Eflp_ok : EnvOk Eflp := ⟨by kernel_rfl, GEflp_ok, IEflp_ok, CEflp_ok, XEflp_ok⟩
def sh_FlowPackets : List Sh := [.bytes]
theorem FlowPackets_t (b : List UInt8) : callV Eflp af_FlowPackets [.bytes b] =
 bif (pqX b).10 != (6 : Int) then
 bif pqE b != (0 : Int) then some (V.bool true)
 else bif (pqX b).10 != (6 : Int) then some (V.bool true) else some (V.bool false)
 else
 bif pqE b != (0 : Int) then some (V.bool false)
 else
 bif (pqX b).10 != (6 : Int) then some (V.bool false)
 else
 bif
 (pqX b).h.6 == (pqX b).h.6 &&
 ((pqX b).t.1 == (pqX b).t.1 && ((pqX b).9 == (pqX b).9 && ((pqX b).t.2 == (pqX b).t.2 && true))) then
 some (V.bool true)
 else some (V.bool false) := by kernel_rfl

theorem FlowPackets_v : ∀ xs, inRs 140737488351232 sh_FlowPackets xs = true → callV Eflp af_FlowPackets xs = some (.bool true) := by
  intro xs h
  obtain ⟨zx1, zl1, rfl, zh1, zr1⟩ := inRs_cons h; clear h
  obtain ⟨b, rfl, hb⟩ := inR_bytes zh1; clear zh1
  obtain rfl := inRs_nil zr1; clear zr1
  rw [FlowPackets_t]
  simp only [beq_self_eq_true, Bool.and_true, cond_true]
  by_cases c : pqE b = 0
  · have e1 : (pqE b != (0 : Int)) = false := by rw [c]; rfl
    rw [e1]
    generalize ((pqX b).10 != (6 : Int)) = k
    cases k <;> rfl
  · have e1 : (pqE b != (0 : Int)) = true := by simpa using c
    rw [e1, pq_no rfl c]
    rfl
end Go.Proofs.YtkfokahghlnjmaaGreatDoor
