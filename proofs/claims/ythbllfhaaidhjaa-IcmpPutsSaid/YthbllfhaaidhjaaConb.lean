/- Layer 8 by the abstract machine. -/
import Derived.Test.YthbllfhaaidhjaaCona
import Derived.Test.YthbllfhaaidhjaaAmz
import Derived.Test.YthbllfhaaidhjaaProg
namespace Go.Proofs.Ythbllfhaaidhjaa
open Go Go.Am Go.RowKit Go.Mix Go.Bas
section
set_option maxRecDepth 100000
noncomputable def af_octet : AF := afOf Try.prog Try.f70 []
theorem af_octet_ok : AllOk Try.prog 70 af_octet := .flat Try.func70 (by kernel_rfl) (by kernel_rfl) (by kernel_rfl) (by kernel_rfl) (by kernel_rfl)
noncomputable def af_bad : AF := afOf Try.prog Try.f81 []
theorem af_bad_ok : AllOk Try.prog 81 af_bad := .flat Try.func81 (by kernel_rfl) (by kernel_rfl) (by kernel_rfl) (by kernel_rfl) (by kernel_rfl)
noncomputable def af_known : AF := afOf Try.prog Try.f78 []
theorem af_known_ok : AllOk Try.prog 78 af_known := .flat Try.func78 (by kernel_rfl) (by kernel_rfl) (by kernel_rfl) (by kernel_rfl) (by kernel_rfl)
noncomputable def af_Put32 : AF := afOf Try.prog Try.f71 []
theorem af_Put32_ok : AllOk Try.prog 71 af_Put32 := .flat Try.func71 (by kernel_rfl) (by kernel_rfl) (by kernel_rfl) (by kernel_rfl) (by kernel_rfl)
noncomputable def af_two8 : AF := afOf Try.prog Try.f116 []
theorem af_two8_ok : AllOk Try.prog 116 af_two8 := .flat Try.func116 (by kernel_rfl) (by kernel_rfl) (by kernel_rfl) (by kernel_rfl) (by kernel_rfl)
noncomputable def af_IPut : AF := afOf Try.prog Try.f21 []
theorem af_IPut_ok : AllOk Try.prog 21 af_IPut := .flat Try.func21 (by kernel_rfl) (by kernel_rfl) (by kernel_rfl) (by kernel_rfl) (by kernel_rfl)
noncomputable def af_IReply : AF := afOf Try.prog Try.f23 []
theorem af_IReply_ok : AllOk Try.prog 23 af_IReply := .flat Try.func23 (by kernel_rfl) (by kernel_rfl) (by kernel_rfl) (by kernel_rfl) (by kernel_rfl)
noncomputable def af_IAbout : AF := afOf Try.prog Try.f25 []
theorem af_IAbout_ok : AllOk Try.prog 25 af_IAbout := .flat Try.func25 (by kernel_rfl) (by kernel_rfl) (by kernel_rfl) (by kernel_rfl) (by kernel_rfl)
noncomputable def af_IsError : AF := afOf Try.prog Try.f28 []
theorem af_IsError_ok : AllOk Try.prog 28 af_IsError := .flat Try.func28 (by kernel_rfl) (by kernel_rfl) (by kernel_rfl) (by kernel_rfl) (by kernel_rfl)
noncomputable def af_lives8 : AF := afOf Try.prog Try.f20 []
theorem af_lives8_ok : AllOk Try.prog 20 af_lives8 := .flat Try.func20 (by kernel_rfl) (by kernel_rfl) (by kernel_rfl) (by kernel_rfl) (by kernel_rfl)

noncomputable def G8 : List (Nat × Con) := [(72, .val [.bytes, .int .i64, .int .i64] cSet16), (73, .val [.barr 16, .barr 16, .int .i64, .bytes] cChk), (87, .val [.barr 16, .barr 16, .int .i64, .bytes] cFine), (77, .val [.bytes] cClone)]
theorem G8_ok : GOk Try.prog G8 := .cons (enters_of Try.func72 (by kernel_rfl) rfl) Set16_con <| .cons (enters_of Try.func73 (by kernel_rfl) rfl) Chk_con <| .cons (enters_of Try.func87 (by kernel_rfl) rfl) Fine_con <| .cons (enters_of Try.func77 (by kernel_rfl) rfl) Clone_con <| .nil
noncomputable def I8 : List (Nat × AF) := [(70, af_octet), (81, af_bad), (78, af_known), (71, af_Put32), (21, af_IPut), (23, af_IReply), (25, af_IAbout), (28, af_IsError)]
theorem I8_ok : IOk Try.prog I8 := .cons af_octet_ok <| .cons af_bad_ok <| .cons af_known_ok <| .cons af_Put32_ok <| .cons af_IPut_ok <| .cons af_IReply_ok <| .cons af_IAbout_ok <| .cons af_IsError_ok <| .nil
noncomputable def E8 : Env := ⟨Try.prog, G8, I8, []⟩
theorem E8_ok : EnvOk E8 := ⟨by kernel_rfl, G8_ok, I8_ok, COk.nil⟩
theorem lives8_v : callV E8 af_lives8 [] = some (.bool true) := by kernel_rfl
theorem lives8_calls (w : World) : Calls Try.prog 20 #[] w fun e w' => e = .returned (.bool true) ∧ Below w.heap.size w w' := (callV_ok E8_ok af_lives8_ok lives8_v).true .nil
end
end Go.Proofs.Ythbllfhaaidhjaa
