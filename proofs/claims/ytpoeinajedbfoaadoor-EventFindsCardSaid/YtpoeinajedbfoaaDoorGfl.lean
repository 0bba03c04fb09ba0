/- Part Gfl of the proof: laws used by the law of this claim. -/
import Derived.ArgAppend
import Derived.Test.YtpoeinajedbfoaaDoorGl
import Derived.Test.YtpoeinajedbfoaaDoorGz
import Derived.Test.YtpoeinajedbfoaaDoorGe
import Derived.Test.YtpoeinajedbfoaaDoorGsi
import Derived.Test.YtpoeinajedbfoaaDoorGad
import Derived.Test.YtpoeinajedbfoaaDoorGf
set_option linter.all false
namespace Go.Proofs.YtpoeinajedbfoaaDoor
open Go Go.Am Go.RowKit Go.Mix Go.Bas
set_option maxRecDepth 100000
end Go.Proofs.YtpoeinajedbfoaaDoor

namespace Go.Proofs.YtpoeinajedbfoaaDoor
open Go Go.Am Go.RowKit Go.Mix Go.Bas
set_option maxRecDepth 100000
/-! ### as a contract, with the document's -/
end Go.Proofs.YtpoeinajedbfoaaDoor

namespace Go.Proofs.YtpoeinajedbfoaaDoor
open Go Go.Am Go.RowKit Go.Mix Go.Bas
set_option maxRecDepth 100000
theorem adT_len (a : List UInt8) : (adT a).length ≤ 82 := by
  unfold adT txF
  have h := jnF_len (wdL a)
  have e : (wdL a).length = 8 := rfl
  split
  · omega
  · have h1 := jnF_len ((wdL a).take (rwF (wdL a) 0 0 0).1.toNat)
    have h2 := jnF_len ((wdL a).drop ((rwF (wdL a) 0 0 0).1 + (rwF (wdL a) 0 0 0).2).toNat)
    have l1 : ((wdL a).take (rwF (wdL a) 0 0 0).1.toNat).length ≤ 8 := by rw [List.length_take]; omega
    have l2 : ((wdL a).drop ((rwF (wdL a) 0 0 0).1 + (rwF (wdL a) 0 0 0).2).toNat).length ≤ 8 := by rw [List.length_drop]; omega
    simp only [List.length_append, List.length_cons, List.length_nil]
    omega
/-- an end of a flow as text -/
def flE (a : List UInt8) (n : Int) : List UInt8 := [91] ++ adT a ++ [93, 58] ++ Lib.itoa n
/-- a flow as text -/
def flT (s : List UInt8) (sp : Int) (d : List UInt8) (dp : Int) : List UInt8 := flE s sp ++ [32, 62, 32] ++ flE d dp
noncomputable def af_flEnd : AF := afOf Tryd.prog Tryd.f59 []
theorem af_flEnd_ok : AllOk Tryd.prog 59 af_flEnd := .flat Tryd.func59 (by kernel_rfl) (by kernel_rfl) (by kernel_rfl) (by kernel_rfl) (by kernel_rfl)
noncomputable def GEflc0 : List (Nat × Con) := [(69, .val [.barr 16] cAdText), (38, .val [.int .i64] cItoa)]
theorem GEflc0_ok : GOk Tryd.prog GEflc0 := .cons (enters_of Tryd.func69 (by kernel_rfl) rfl) adText_con <| .cons (enters_of Tryd.func38 (by kernel_rfl) rfl) xItoa_con <| .nil
noncomputable def IEflc0 : List (Nat × AF) := []
theorem IEflc0_ok : IOk Tryd.prog IEflc0 := .nil
noncomputable def CEflc0 : List (Nat × (List Nat × (S → Option (Bool × Tr)))) := []
theorem CEflc0_ok : COk Tryd.prog CEflc0 := .nil
noncomputable def XEflc0 : List (Nat × (List Sh × (List V → PT))) := []
theorem XEflc0_ok : XOk Tryd.prog XEflc0 := .nil
noncomputable def Eflc0 : Env := ⟨Tryd.prog, GEflc0, IEflc0, CEflc0, XEflc0⟩
theorem Eflc0_ok : EnvOk Eflc0 := ⟨by kernel_rfl, GEflc0_ok, IEflc0_ok, CEflc0_ok, XEflc0_ok⟩
theorem flEnd_t (a : List UInt8) (n : Int) : callV Eflc0 af_flEnd [.barr 16 a, .int .i64 n] =
 bif
 andT
 (andT
 (andT (andT true (((1 : Nat) + (adT a).length).ble (9223372036854775807 : Nat)))
 ((([(91 : UInt8)] ++ adT a).length + (2 : Nat)).ble (9223372036854775807 : Nat)))
 (decide ((-9223372036854775808 : Int) ≤ n ∧ n ≤ (9223372036854775807 : Int))))
 ((([(91 : UInt8)] ++ adT a ++ [(93 : UInt8), (58 : UInt8)]).length + (Lib.itoa n).length).ble
 (9223372036854775807 : Nat)) then
 some (V.str ([(91 : UInt8)] ++ adT a ++ [(93 : UInt8), (58 : UInt8)] ++ Lib.itoa n))
 else none := by kernel_rfl

theorem flEnd_v (a : List UInt8) (n : Int) (h0 : -9223372036854775808 ≤ n) (h1 : n ≤ 9223372036854775807) : callV Eflc0 af_flEnd [.barr 16 a, .int .i64 n] = some (.str (flE a n)) := by
  have l1 := itoa_len h0 h1
  have l2 := adT_len a
  rw [flEnd_t]
  simp only [List.length_append, List.length_cons, List.length_nil]
  simp (disch := omega) only [dec_t, dec_f, inB_t, inC_t, andT_t, cond_true, cond_false, Bool.and_true, Bool.true_and, w64, wu32, wu8, nble_t, nblt_t, Bool.not_true, Bool.not_false, Bool.not_not, ieq_t, ieq_f, ine_t, ine_f, true_and, and_true, andT_l]
  rfl
def cFlEnd : List V → Option (V × Bool)
  | [.barr 16 a, .int .i64 n] => some (.str (flE a n), decide (-9223372036854775808 ≤ n ∧ n ≤ 9223372036854775807))
  | _ => none
theorem flEnd_con : ∀ vs v, cFlEnd vs = some (v, true) → SpecV Tryd.prog 59 vs v := by
  intro vs v h; unfold cFlEnd at h; split at h
  · rename_i a n
    injection h with h; injection h with h hb; subst h
    exact callV_ok Eflc0_ok af_flEnd_ok ((by obtain ⟨h0, h1⟩ := of_decide_eq_true hb; exact flEnd_v _ _ h0 h1))
  · cases h
theorem flE_len {a : List UInt8} {n : Int} (h0 : -9223372036854775808 ≤ n) (h1 : n ≤ 9223372036854775807) : (flE a n).length ≤ 106 := by
  have l1 := itoa_len h0 h1
  have l2 := adT_len a
  unfold flE
  simp only [List.length_append, List.length_cons, List.length_nil]
  omega
noncomputable def af_flText : AF := afOf Tryd.prog Tryd.f44 []
theorem af_flText_ok : AllOk Tryd.prog 44 af_flText := .flat Tryd.func44 (by kernel_rfl) (by kernel_rfl) (by kernel_rfl) (by kernel_rfl) (by kernel_rfl)
noncomputable def GEflc1 : List (Nat × Con) := [(59, .val [.barr 16, .int .i64] cFlEnd)]

theorem GEflc1_ok : GOk Tryd.prog GEflc1 := .cons (enters_of Tryd.func59 (by kernel_rfl) rfl) flEnd_con <| .nil

noncomputable def IEflc1 : List (Nat × AF) := []
theorem IEflc1_ok : IOk Tryd.prog IEflc1 := .nil
noncomputable def CEflc1 : List (Nat × (List Nat × (S → Option (Bool × Tr)))) := []
theorem CEflc1_ok : COk Tryd.prog CEflc1 := .nil
noncomputable def XEflc1 : List (Nat × (List Sh × (List V → PT))) := []
theorem XEflc1_ok : XOk Tryd.prog XEflc1 := .nil
noncomputable def Eflc1 : Env := ⟨Tryd.prog, GEflc1, IEflc1, CEflc1, XEflc1⟩
theorem Eflc1_ok : EnvOk Eflc1 := ⟨by kernel_rfl, GEflc1_ok, IEflc1_ok, CEflc1_ok, XEflc1_ok⟩
theorem flText_t (s d : List UInt8) (sp dp : Int) : callV Eflc1 af_flText [.agg [.barr 16 s, .int .i64 sp, .barr 16 d, .int .i64 dp]] =
 bif
 andT
 (andT
 (andT (andT true (decide ((-9223372036854775808 : Int) ≤ sp ∧ sp ≤ (9223372036854775807 : Int))))
 (((flE s sp).length + (3 : Nat)).ble (9223372036854775807 : Nat)))
 (decide ((-9223372036854775808 : Int) ≤ dp ∧ dp ≤ (9223372036854775807 : Int))))
 (((flE s sp ++ [(32 : UInt8), (62 : UInt8), (32 : UInt8)]).length + (flE d dp).length).ble
 (9223372036854775807 : Nat)) &&
 true then
 some (V.str (flE s sp ++ [(32 : UInt8), (62 : UInt8), (32 : UInt8)] ++ flE d dp))
 else none := by kernel_rfl

theorem flText_v (s d : List UInt8) (sp dp : Int) (h0 : -9223372036854775808 ≤ sp) (h1 : sp ≤ 9223372036854775807) (h2 : -9223372036854775808 ≤ dp) (h3 : dp ≤ 9223372036854775807) : callV Eflc1 af_flText [.agg [.barr 16 s, .int .i64 sp, .barr 16 d, .int .i64 dp]] = some (.str (flT s sp d dp)) := by
  have l1 := flE_len (a := s) h0 h1
  have l2 := flE_len (a := d) h2 h3
  rw [flText_t]
  simp only [List.length_append, List.length_cons, List.length_nil]
  simp (disch := omega) only [dec_t, dec_f, inB_t, inC_t, andT_t, cond_true, cond_false, Bool.and_true, Bool.true_and, w64, wu32, wu8, nble_t, nblt_t, Bool.not_true, Bool.not_false, Bool.not_not, ieq_t, ieq_f, ine_t, ine_f, true_and, and_true, andT_l]
  rfl
def cFlText : List V → Option (V × Bool)
  | [.agg [.barr 16 s, .int .i64 sp, .barr 16 d, .int .i64 dp]] => some (.str (flT s sp d dp), decide ((-9223372036854775808 ≤ sp ∧ sp ≤ 9223372036854775807) ∧ -9223372036854775808 ≤ dp ∧ dp ≤ 9223372036854775807))
  | _ => none
theorem flText_con : ∀ vs v, cFlText vs = some (v, true) → SpecV Tryd.prog 44 vs v := by
  intro vs v h; unfold cFlText at h; split at h
  · rename_i s sp d dp
    injection h with h; injection h with h hb; subst h
    exact callV_ok Eflc1_ok af_flText_ok ((by obtain ⟨⟨a, b⟩, c, d⟩ := of_decide_eq_true hb; exact flText_v _ _ _ _ a b c d))
  · cases h
/-! ### the other way; may it be; which comes ahead -/
end Go.Proofs.YtpoeinajedbfoaaDoor
