/- Part Gew of the proof: laws used by the law of this claim. -/
import Derived.Lib.Builder
import Derived.Lib.UnsafeStr
import Derived.Shelf.Strings.Builder1
import Derived.Test.YtpoeinajedbfoaaDoorGdr
import Derived.Test.YtpoeinajedbfoaaDoorGtx
import Derived.Test.YtpoeinajedbfoaaDoorGfl
import Derived.Test.YtpoeinajedbfoaaDoorGev
set_option linter.all false
namespace Go.Proofs.YtpoeinajedbfoaaDoor
open Go Go.Am Go.RowKit Go.Mix Go.Bas
set_option maxRecDepth 100000
def evNs : List (List UInt8) := [[], [104, 117, 110, 116, 101, 100], [115, 101, 97, 114, 99, 104, 101, 100], [115, 116, 101, 101, 114, 101, 100], [108, 101, 97, 114, 110, 116], [97, 99, 99, 101, 112, 116, 101, 100], [112, 97, 115, 115, 101, 100], [97, 110, 115, 119, 101, 114, 101, 100], [114, 101, 115, 101, 116], [100, 114, 111, 112, 112, 101, 100], [102, 111, 114, 119, 97, 114, 100, 101, 100], [116, 111, 108, 100]]
/-- a kind's name -/
def evNm (k : Int) : List UInt8 := if 0 < k ∧ k < 12 then evNs.getD k.toNat [] else []
noncomputable def af_EvName : AF := afOf Tryd.prog Tryd.f20 []
theorem af_EvName_ok : AllOk Tryd.prog 20 af_EvName := .flat Tryd.func20 (by kernel_rfl) (by kernel_rfl) (by kernel_rfl) (by kernel_rfl) (by kernel_rfl)
noncomputable def GEevn : List (Nat × Con) := [(47, .val [.str, .str] cStrSplit)]
theorem GEevn_ok : GOk Tryd.prog GEevn := .cons (enters_of Tryd.func47 (by kernel_rfl) rfl) xSplit_con <| .nil
noncomputable def IEevn : List (Nat × AF) := []
theorem IEevn_ok : IOk Tryd.prog IEevn := .nil
noncomputable def CEevn : List (Nat × (List Nat × (S → Option (Bool × Tr)))) := []
theorem CEevn_ok : COk Tryd.prog CEevn := .nil
noncomputable def XEevn : List (Nat × (List Sh × (List V → PT))) := []
theorem XEevn_ok : XOk Tryd.prog XEevn := .nil
noncomputable def Eevn : Env := ⟨Tryd.prog, GEevn, IEevn, CEevn, XEevn⟩
theorem Eevn_ok : EnvOk Eevn := ⟨by kernel_rfl, GEevn_ok, IEevn_ok, CEevn_ok, XEevn_ok⟩
def evPc : List V := pieces [104, 117, 110, 116, 101, 100, 32, 115, 101, 97, 114, 99, 104, 101, 100, 32, 115, 116, 101, 101, 114, 101, 100, 32, 108, 101, 97, 114, 110, 116, 32, 97, 99, 99, 101, 112, 116, 101, 100, 32, 112, 97, 115, 115, 101, 100, 32, 97, 110, 115, 119, 101, 114, 101, 100, 32, 114, 101, 115, 101, 116, 32, 100, 114, 111, 112, 112, 101, 100, 32, 102, 111, 114, 119, 97, 114, 100, 101, 100, 32, 116, 111, 108, 100] [32]
theorem evPc_eq : evPc = (evNs.drop 1).map V.str := by kernel_rfl
theorem EvName_u (k : Int) : callV Eevn af_EvName [.int .i64 k] = bif decide (k < 1) then some (.str []) else bif decide (k > (evPc.length : Int)) then some (.str []) else bif andT true (inB (IntKind.i64.wrap (k - 1)) evPc.length) then some (.str (toS (evPc.getD (IntKind.i64.wrap (k - 1)).toNat .undef))) else none := by kernel_rfl
theorem EvName_v (k : Int) : callV Eevn af_EvName [.int .i64 k] = some (.str (evNm k)) := by
  rw [EvName_u, evPc_eq]
  have hl : ((evNs.drop 1).map V.str).length = 11 := rfl
  rw [hl]
  by_cases c1 : k < 1
  · rw [dec_t c1, show evNm k = [] by unfold evNm; rw [if_neg (by omega)]]
    rfl
  · by_cases c2 : k > 11
    · rw [dec_f c1, dec_t (show k > ((11 : Nat) : Int) by omega), show evNm k = [] by unfold evNm; rw [if_neg (by omega)]]
      rfl
    · have h : k = 1 ∨ k = 2 ∨ k = 3 ∨ k = 4 ∨ k = 5 ∨ k = 6 ∨ k = 7 ∨ k = 8 ∨ k = 9 ∨ k = 10 ∨ k = 11 := by omega
      rcases h with rfl | rfl | rfl | rfl | rfl | rfl | rfl | rfl | rfl | rfl | rfl <;> (clear c1 c2; refine (show _ = _ from ?_); kernel_rfl)
def cEvName : List V → Option (V × Bool)
  | [.int .i64 k] => some (.str (evNm k), true)
  | _ => none
theorem EvName_con : ∀ vs v, cEvName vs = some (v, true) → SpecV Tryd.prog 20 vs v := by
  intro vs v h; unfold cEvName at h; split at h
  · rename_i k
    injection h with h; injection h with h hb; subst h
    exact callV_ok Eevn_ok af_EvName_ok (EvName_v _)
  · cases h
noncomputable def GEevn0 : List (Nat × Con) := []
theorem GEevn0_ok : GOk Tryd.prog GEevn0 := .nil
noncomputable def IEevn0 : List (Nat × AF) := []
theorem IEevn0_ok : IOk Tryd.prog IEevn0 := .nil
noncomputable def CEevn0 : List (Nat × (List Nat × (S → Option (Bool × Tr)))) := []
theorem CEevn0_ok : COk Tryd.prog CEevn0 := .nil
noncomputable def XEevn0 : List (Nat × (List Sh × (List V → PT))) := []
theorem XEevn0_ok : XOk Tryd.prog XEevn0 := .nil
noncomputable def Eevn0 : Env := ⟨Tryd.prog, GEevn0, IEevn0, CEevn0, XEevn0⟩
theorem Eevn0_ok : EnvOk Eevn0 := ⟨by kernel_rfl, GEevn0_ok, IEevn0_ok, CEevn0_ok, XEevn0_ok⟩
theorem evNm_len (k : Int) : (evNm k).length ≤ 10 := by
  unfold evNm
  split
  · have h : k = 1 ∨ k = 2 ∨ k = 3 ∨ k = 4 ∨ k = 5 ∨ k = 6 ∨ k = 7 ∨ k = 8 ∨ k = 9 ∨ k = 10 ∨ k = 11 := by omega
    rcases h with rfl | rfl | rfl | rfl | rfl | rfl | rfl | rfl | rfl | rfl | rfl <;> decide
  · simp
/-! ### words -/
noncomputable def af_EvJoin : AF := afOf Tryd.prog Tryd.f37 [.unr 4]
theorem af_EvJoin_ok : AllOk Tryd.prog 37 af_EvJoin := .flat Tryd.func37 (by kernel_rfl) (by kernel_rfl) (by kernel_rfl) (by kernel_rfl) (by kernel_rfl)
def jo1 (a : List UInt8) : List UInt8 := [32] ++ a
def jo2 (a b : List UInt8) : List UInt8 := [32] ++ a ++ ([32] ++ b)
theorem EvJoin1_t (a : List UInt8) : callV Eevn0 af_EvJoin [.rows .str [.str a]] =
 bif
 andT (andT true (((1 : Nat) + a.length).ble (9223372036854775807 : Nat)))
 (((0 : Nat) + ([(32 : UInt8)] ++ a).length).ble (9223372036854775807 : Nat)) then
 some (V.str ([] ++ ([(32 : UInt8)] ++ a)))
 else none := by kernel_rfl

theorem EvJoin2_t (a b : List UInt8) : callV Eevn0 af_EvJoin [.rows .str [.str a, .str b]] =
 bif
 andT (andT true (((1 : Nat) + a.length).ble (9223372036854775807 : Nat)))
 (((0 : Nat) + ([(32 : UInt8)] ++ a).length).ble (9223372036854775807 : Nat)) then
 bif
 andT (andT true (((1 : Nat) + b.length).ble (9223372036854775807 : Nat)))
 ((([] ++ ([(32 : UInt8)] ++ a)).length + ([(32 : UInt8)] ++ b).length).ble (9223372036854775807 : Nat)) then
 some (V.str ([] ++ ([(32 : UInt8)] ++ a) ++ ([(32 : UInt8)] ++ b)))
 else none
 else none := by kernel_rfl

def cEvJoin : List V → Option (V × Bool)
  | [.rows .str [.str a]] => some (.str (jo1 a), decide (a.length ≤ 100000))
  | [.rows .str [.str a, .str b]] => some (.str (jo2 a b), decide (a.length ≤ 100000 ∧ b.length ≤ 100000))
  | _ => none
theorem EvJoin_con : ∀ vs v, cEvJoin vs = some (v, true) → SpecV Tryd.prog 37 vs v := by
  intro vs v h; unfold cEvJoin at h; split at h
  · rename_i a
    injection h with h; injection h with h hb; subst h
    have hl := of_decide_eq_true hb
    refine callV_ok Eevn0_ok af_EvJoin_ok ?_
    rw [EvJoin1_t]
    simp only [List.length_append, List.length_cons, List.length_nil]
    simp (disch := omega) only [dec_t, dec_f, inB_t, inC_t, andT_t, cond_true, cond_false, Bool.and_true, Bool.true_and, w64, wu32, wu8, nble_t, nblt_t, Bool.not_true, Bool.not_false, Bool.not_not, ieq_t, ieq_f, ine_t, ine_f, true_and, and_true, andT_l]
    try rfl
  · rename_i a b
    injection h with h; injection h with h hb; subst h
    obtain ⟨h1, h2⟩ := of_decide_eq_true hb
    refine callV_ok Eevn0_ok af_EvJoin_ok ?_
    rw [EvJoin2_t]
    simp only [List.length_append, List.length_cons, List.length_nil]
    simp (disch := omega) only [dec_t, dec_f, inB_t, inC_t, andT_t, cond_true, cond_false, Bool.and_true, Bool.true_and, w64, wu32, wu8, nble_t, nblt_t, Bool.not_true, Bool.not_false, Bool.not_not, ieq_t, ieq_f, ine_t, ine_f, true_and, and_true, andT_l]
    try rfl
  · cases h
noncomputable def af_EvUnless : AF := afOf Tryd.prog Tryd.f42 []
theorem af_EvUnless_ok : AllOk Tryd.prog 42 af_EvUnless := .flat Tryd.func42 (by kernel_rfl) (by kernel_rfl) (by kernel_rfl) (by kernel_rfl) (by kernel_rfl)
noncomputable def GEevu : List (Nat × Con) := [(37, .val [.rows (.str)] cEvJoin)]
theorem GEevu_ok : GOk Tryd.prog GEevu := .cons (enters_of Tryd.func37 (by kernel_rfl) rfl) EvJoin_con <| .nil
noncomputable def IEevu : List (Nat × AF) := []
theorem IEevu_ok : IOk Tryd.prog IEevu := .nil
noncomputable def CEevu : List (Nat × (List Nat × (S → Option (Bool × Tr)))) := []
theorem CEevu_ok : COk Tryd.prog CEevu := .nil
noncomputable def XEevu : List (Nat × (List Sh × (List V → PT))) := []
theorem XEevu_ok : XOk Tryd.prog XEevu := .nil
noncomputable def Eevu : Env := ⟨Tryd.prog, GEevu, IEevu, CEevu, XEevu⟩
theorem Eevu_ok : EnvOk Eevu := ⟨by kernel_rfl, GEevu_ok, IEevu_ok, CEevu_ok, XEevu_ok⟩
theorem EvUnless1_t (n : Bool) (a : List UInt8) : callV Eevu af_EvUnless [.bool n, .rows .str [.str a]] =
 bif n then some (V.str []) else bif andT true (decide (a.length ≤ (100000 : Nat))) then some (V.str (jo1 a)) else none := by kernel_rfl

theorem EvUnless2_t (n : Bool) (a b : List UInt8) : callV Eevu af_EvUnless [.bool n, .rows .str [.str a, .str b]] =
 bif n then some (V.str [])
 else
 bif andT true (decide (a.length ≤ (100000 : Nat) ∧ b.length ≤ (100000 : Nat))) then some (V.str (jo2 a b)) else none := by kernel_rfl

def un1 (n : Bool) (a : List UInt8) : List UInt8 := bif n then [] else jo1 a
def un2 (n : Bool) (a b : List UInt8) : List UInt8 := bif n then [] else jo2 a b
def cEvUnless : List V → Option (V × Bool)
  | [.bool n, .rows .str [.str a]] => some (.str (un1 n a), decide (a.length ≤ 100000))
  | [.bool n, .rows .str [.str a, .str b]] => some (.str (un2 n a b), decide (a.length ≤ 100000 ∧ b.length ≤ 100000))
  | _ => none
theorem EvUnless_con : ∀ vs v, cEvUnless vs = some (v, true) → SpecV Tryd.prog 42 vs v := by
  intro vs v h; unfold cEvUnless at h; split at h
  · rename_i n a
    injection h with h; injection h with h hb; subst h
    have hl := of_decide_eq_true hb
    refine callV_ok Eevu_ok af_EvUnless_ok ?_
    rw [EvUnless1_t, dec_t hl]
    cases n <;> rfl
  · rename_i n a b
    injection h with h; injection h with h hb; subst h
    have hl := of_decide_eq_true hb
    refine callV_ok Eevu_ok af_EvUnless_ok ?_
    rw [EvUnless2_t, dec_t hl]
    cases n <;> rfl
  · cases h
/-! ### the text -/
/-- what an event is about -/
def evAb (kd a b : Int) : List UInt8 := bif kd == 1 then jo2 (Lib.itoa a) (Lib.itoa b) else bif kd == 9 then jo1 (nmN a) else []
def evFz (s : List UInt8) (sp : Int) (d : List UInt8) (dp : Int) : Bool := s == List.replicate 16 0 && (sp == 0 && (d == List.replicate 16 0 && (dp == 0 && true)))
/-- an event as text -/
def evT (kd nd : Int) (s : List UInt8) (sp : Int) (d : List UInt8) (dp a b v : Int) : List UInt8 := [] ++ (evNm kd ++ jo2 [110, 111, 100, 101] (Lib.itoa nd)) ++ evAb kd a b ++ un2 (v == 0) [118, 101, 114, 115, 105, 111, 110] (Lib.itoa v) ++ un1 (evFz s sp d dp) (flT s sp d dp)
noncomputable def af_EvT1 : AF := afOf Tryd.prog Tryd.f36 []
theorem af_EvT1_ok : AllOk Tryd.prog 36 af_EvT1 := .flat Tryd.func36 (by kernel_rfl) (by kernel_rfl) (by kernel_rfl) (by kernel_rfl) (by kernel_rfl)
noncomputable def af_EvT2 : AF := afOf Tryd.prog Tryd.f39 []
theorem af_EvT2_ok : AllOk Tryd.prog 39 af_EvT2 := .flat Tryd.func39 (by kernel_rfl) (by kernel_rfl) (by kernel_rfl) (by kernel_rfl) (by kernel_rfl)
noncomputable def af_EvT3 : AF := afOf Tryd.prog Tryd.f41 []
theorem af_EvT3_ok : AllOk Tryd.prog 41 af_EvT3 := .flat Tryd.func41 (by kernel_rfl) (by kernel_rfl) (by kernel_rfl) (by kernel_rfl) (by kernel_rfl)
noncomputable def af_EvT4 : AF := afOf Tryd.prog Tryd.f43 []
theorem af_EvT4_ok : AllOk Tryd.prog 43 af_EvT4 := .flat Tryd.func43 (by kernel_rfl) (by kernel_rfl) (by kernel_rfl) (by kernel_rfl) (by kernel_rfl)
noncomputable def af_EvAbout : AF := afOf Tryd.prog Tryd.f40 []
theorem af_EvAbout_ok : AllOk Tryd.prog 40 af_EvAbout := .flat Tryd.func40 (by kernel_rfl) (by kernel_rfl) (by kernel_rfl) (by kernel_rfl) (by kernel_rfl)
noncomputable def af_EvText : AF := afOf Tryd.prog Tryd.f17 [.unr 5]
theorem af_EvText_ok : AllOk Tryd.prog 17 af_EvText := .flat Tryd.func17 (by kernel_rfl) (by kernel_rfl) (by kernel_rfl) (by kernel_rfl) (by kernel_rfl)
noncomputable def GEevt : List (Nat × Con) := [(20, .val [.int .i64] cEvName), (38, .val [.int .i64] cItoa), (37, .val [.rows (.str)] cEvJoin), (42, .val [.bool, .rows (.str)] cEvUnless), (14, .val [.int .i64] cDrName), (44, .val [.agg [.barr 16, .int .i64, .barr 16, .int .i64]] cFlText)]
theorem GEevt_ok : GOk Tryd.prog GEevt := .cons (enters_of Tryd.func20 (by kernel_rfl) rfl) EvName_con <| .cons (enters_of Tryd.func38 (by kernel_rfl) rfl) xItoa_con <| .cons (enters_of Tryd.func37 (by kernel_rfl) rfl) EvJoin_con <| .cons (enters_of Tryd.func42 (by kernel_rfl) rfl) EvUnless_con <| .cons (enters_of Tryd.func14 (by kernel_rfl) rfl) drName_con <| .cons (enters_of Tryd.func44 (by kernel_rfl) rfl) flText_con <| .nil
noncomputable def IEevt : List (Nat × AF) := [(36, af_EvT1), (39, af_EvT2), (41, af_EvT3), (43, af_EvT4), (40, af_EvAbout)]
theorem IEevt_ok : IOk Tryd.prog IEevt := .cons af_EvT1_ok <| .cons af_EvT2_ok <| .cons af_EvT3_ok <| .cons af_EvT4_ok <| .cons af_EvAbout_ok <| .nil
noncomputable def CEevt : List (Nat × (List Nat × (S → Option (Bool × Tr)))) := []
theorem CEevt_ok : COk Tryd.prog CEevt := .nil
noncomputable def XEevt : List (Nat × (List Sh × (List V → PT))) := []
theorem XEevt_ok : XOk Tryd.prog XEevt := .nil
noncomputable def Eevt : Env := ⟨Tryd.prog, GEevt, IEevt, CEevt, XEevt⟩
theorem Eevt_ok : EnvOk Eevt := ⟨by kernel_rfl, GEevt_ok, IEevt_ok, CEevt_ok, XEevt_ok⟩
theorem EvText_t (kd nd : Int) (s : List UInt8) (sp : Int) (d : List UInt8) (dp a b v : Int) : callV Eevt af_EvText [.agg [.int .i64 kd, .int .i64 nd, .agg [.barr 16 s, .int .i64 sp, .barr 16 d, .int .i64 dp], .int .i64 a, .int .i64 b, .int .i64 v]] =
 bif
 andT
 (andT (andT true (decide ((-9223372036854775808 : Int) ≤ nd ∧ nd ≤ (9223372036854775807 : Int))))
 (decide ((4 : Nat) ≤ (100000 : Nat) ∧ (Lib.itoa nd).length ≤ (100000 : Nat))))
 (((evNm kd).length +
 (jo2 [(110 : UInt8), (111 : UInt8), (100 : UInt8), (101 : UInt8)] (Lib.itoa nd)).length).ble
 (9223372036854775807 : Nat)) &&
 true then
 bif
 andT true
 (((0 : Nat) +
 (evNm kd ++ jo2 [(110 : UInt8), (111 : UInt8), (100 : UInt8), (101 : UInt8)] (Lib.itoa nd)).length).ble
 (9223372036854775807 : Nat)) then
 bif kd == (1 : Int) then
 bif
 andT
 (andT (andT true (decide ((-9223372036854775808 : Int) ≤ a ∧ a ≤ (9223372036854775807 : Int))))
 (decide ((-9223372036854775808 : Int) ≤ b ∧ b ≤ (9223372036854775807 : Int))))
 (decide ((Lib.itoa a).length ≤ (100000 : Nat) ∧ (Lib.itoa b).length ≤ (100000 : Nat))) &&
 true then
 bif
 andT true
 ((([] ++
 (evNm kd ++
 jo2 [(110 : UInt8), (111 : UInt8), (100 : UInt8), (101 : UInt8)] (Lib.itoa nd))).length +
 (jo2 (Lib.itoa a) (Lib.itoa b)).length).ble
 (9223372036854775807 : Nat)) then
 bif
 andT (andT true (decide ((-9223372036854775808 : Int) ≤ v ∧ v ≤ (9223372036854775807 : Int))))
 (decide ((7 : Nat) ≤ (100000 : Nat) ∧ (Lib.itoa v).length ≤ (100000 : Nat))) &&
 true then
 bif
 andT true
 ((([] ++
 (evNm kd ++
 jo2 [(110 : UInt8), (111 : UInt8), (100 : UInt8), (101 : UInt8)] (Lib.itoa nd)) ++
 jo2 (Lib.itoa a) (Lib.itoa b)).length +
 (un2 (v == (0 : Int))
 [(118 : UInt8), (101 : UInt8), (114 : UInt8), (115 : UInt8), (105 : UInt8), (111 : UInt8),
 (110 : UInt8)]
 (Lib.itoa v)).length).ble
 (9223372036854775807 : Nat)) then
 bif
 andT
 (andT true
 (decide
 (((-9223372036854775808 : Int) ≤ sp ∧ sp ≤ (9223372036854775807 : Int)) ∧
 (-9223372036854775808 : Int) ≤ dp ∧ dp ≤ (9223372036854775807 : Int))))
 (decide ((flT s sp d dp).length ≤ (100000 : Nat))) &&
 true then
 bif
 andT true
 ((([] ++
 (evNm kd ++
 jo2 [(110 : UInt8), (111 : UInt8), (100 : UInt8), (101 : UInt8)]
 (Lib.itoa nd)) ++
 jo2 (Lib.itoa a) (Lib.itoa b) ++
 un2 (v == (0 : Int))
 [(118 : UInt8), (101 : UInt8), (114 : UInt8), (115 : UInt8), (105 : UInt8),
 (111 : UInt8), (110 : UInt8)]
 (Lib.itoa v)).length +
 (un1
 (s == List.replicate (16 : Nat) (0 : UInt8) &&
 (sp == (0 : Int) &&
 (d == List.replicate (16 : Nat) (0 : UInt8) && (dp == (0 : Int) && true))))
 (flT s sp d dp)).length).ble
 (9223372036854775807 : Nat)) then
 some
 (V.str
 ([] ++
 (evNm kd ++
 jo2 [(110 : UInt8), (111 : UInt8), (100 : UInt8), (101 : UInt8)] (Lib.itoa nd)) ++
 jo2 (Lib.itoa a) (Lib.itoa b) ++
 un2 (v == (0 : Int))
 [(118 : UInt8), (101 : UInt8), (114 : UInt8), (115 : UInt8), (105 : UInt8), (111 : UInt8),
 (110 : UInt8)]
 (Lib.itoa v) ++
 un1
 (s == List.replicate (16 : Nat) (0 : UInt8) &&
 (sp == (0 : Int) &&
 (d == List.replicate (16 : Nat) (0 : UInt8) && (dp == (0 : Int) && true))))
 (flT s sp d dp)))
 else none
 else none
 else none
 else none
 else none
 else none
 else
 bif kd == (9 : Int) then
 bif andT true (decide ((nmN a).length ≤ (100000 : Nat))) then
 bif
 andT true
 ((([] ++
 (evNm kd ++
 jo2 [(110 : UInt8), (111 : UInt8), (100 : UInt8), (101 : UInt8)] (Lib.itoa nd))).length +
 (jo1 (nmN a)).length).ble
 (9223372036854775807 : Nat)) then
 bif
 andT (andT true (decide ((-9223372036854775808 : Int) ≤ v ∧ v ≤ (9223372036854775807 : Int))))
 (decide ((7 : Nat) ≤ (100000 : Nat) ∧ (Lib.itoa v).length ≤ (100000 : Nat))) &&
 true then
 bif
 andT true
 ((([] ++
 (evNm kd ++
 jo2 [(110 : UInt8), (111 : UInt8), (100 : UInt8), (101 : UInt8)] (Lib.itoa nd)) ++
 jo1 (nmN a)).length +
 (un2 (v == (0 : Int))
 [(118 : UInt8), (101 : UInt8), (114 : UInt8), (115 : UInt8), (105 : UInt8),
 (111 : UInt8), (110 : UInt8)]
 (Lib.itoa v)).length).ble
 (9223372036854775807 : Nat)) then
 bif
 andT
 (andT true
 (decide
 (((-9223372036854775808 : Int) ≤ sp ∧ sp ≤ (9223372036854775807 : Int)) ∧
 (-9223372036854775808 : Int) ≤ dp ∧ dp ≤ (9223372036854775807 : Int))))
 (decide ((flT s sp d dp).length ≤ (100000 : Nat))) &&
 true then
 bif
 andT true
 ((([] ++
 (evNm kd ++
 jo2 [(110 : UInt8), (111 : UInt8), (100 : UInt8), (101 : UInt8)]
 (Lib.itoa nd)) ++
 jo1 (nmN a) ++
 un2 (v == (0 : Int))
 [(118 : UInt8), (101 : UInt8), (114 : UInt8), (115 : UInt8), (105 : UInt8),
 (111 : UInt8), (110 : UInt8)]
 (Lib.itoa v)).length +
 (un1
 (s == List.replicate (16 : Nat) (0 : UInt8) &&
 (sp == (0 : Int) &&
 (d == List.replicate (16 : Nat) (0 : UInt8) && (dp == (0 : Int) && true))))
 (flT s sp d dp)).length).ble
 (9223372036854775807 : Nat)) then
 some
 (V.str
 ([] ++
 (evNm kd ++
 jo2 [(110 : UInt8), (111 : UInt8), (100 : UInt8), (101 : UInt8)] (Lib.itoa nd)) ++
 jo1 (nmN a) ++
 un2 (v == (0 : Int))
 [(118 : UInt8), (101 : UInt8), (114 : UInt8), (115 : UInt8), (105 : UInt8),
 (111 : UInt8), (110 : UInt8)]
 (Lib.itoa v) ++
 un1
 (s == List.replicate (16 : Nat) (0 : UInt8) &&
 (sp == (0 : Int) &&
 (d == List.replicate (16 : Nat) (0 : UInt8) && (dp == (0 : Int) && true))))
 (flT s sp d dp)))
 else none
 else none
 else none
 else none
 else none
 else none
 else
 bif
 andT true
 ((([] ++
 (evNm kd ++
 jo2 [(110 : UInt8), (111 : UInt8), (100 : UInt8), (101 : UInt8)] (Lib.itoa nd))).length +
 (0 : Nat)).ble
 (9223372036854775807 : Nat)) then
 bif
 andT (andT true (decide ((-9223372036854775808 : Int) ≤ v ∧ v ≤ (9223372036854775807 : Int))))
 (decide ((7 : Nat) ≤ (100000 : Nat) ∧ (Lib.itoa v).length ≤ (100000 : Nat))) &&
 true then
 bif
 andT true
 ((([] ++
 (evNm kd ++
 jo2 [(110 : UInt8), (111 : UInt8), (100 : UInt8), (101 : UInt8)] (Lib.itoa nd)) ++
 []).length +
 (un2 (v == (0 : Int))
 [(118 : UInt8), (101 : UInt8), (114 : UInt8), (115 : UInt8), (105 : UInt8), (111 : UInt8),
 (110 : UInt8)]
 (Lib.itoa v)).length).ble
 (9223372036854775807 : Nat)) then
 bif
 andT
 (andT true
 (decide
 (((-9223372036854775808 : Int) ≤ sp ∧ sp ≤ (9223372036854775807 : Int)) ∧
 (-9223372036854775808 : Int) ≤ dp ∧ dp ≤ (9223372036854775807 : Int))))
 (decide ((flT s sp d dp).length ≤ (100000 : Nat))) &&
 true then
 bif
 andT true
 ((([] ++
 (evNm kd ++
 jo2 [(110 : UInt8), (111 : UInt8), (100 : UInt8), (101 : UInt8)]
 (Lib.itoa nd)) ++
 [] ++
 un2 (v == (0 : Int))
 [(118 : UInt8), (101 : UInt8), (114 : UInt8), (115 : UInt8), (105 : UInt8),
 (111 : UInt8), (110 : UInt8)]
 (Lib.itoa v)).length +
 (un1
 (s == List.replicate (16 : Nat) (0 : UInt8) &&
 (sp == (0 : Int) &&
 (d == List.replicate (16 : Nat) (0 : UInt8) && (dp == (0 : Int) && true))))
 (flT s sp d dp)).length).ble
 (9223372036854775807 : Nat)) then
 some
 (V.str
 ([] ++
 (evNm kd ++
 jo2 [(110 : UInt8), (111 : UInt8), (100 : UInt8), (101 : UInt8)] (Lib.itoa nd)) ++
 [] ++
 un2 (v == (0 : Int))
 [(118 : UInt8), (101 : UInt8), (114 : UInt8), (115 : UInt8), (105 : UInt8), (111 : UInt8),
 (110 : UInt8)]
 (Lib.itoa v) ++
 un1
 (s == List.replicate (16 : Nat) (0 : UInt8) &&
 (sp == (0 : Int) &&
 (d == List.replicate (16 : Nat) (0 : UInt8) && (dp == (0 : Int) && true))))
 (flT s sp d dp)))
 else none
 else none
 else none
 else none
 else none
 else none
 else none := by kernel_rfl

theorem evNl (r : Int) : (nmN r).length ≤ 74 := by
  have key : ∀ (l w : List UInt8) (r : Int), (nmF l w r).length ≤ w.length + l.length := by
    intro l
    induction l with
    | nil => intro w r; exact Nat.le_refl _
    | cons c l ih =>
      intro w r
      unfold nmF
      split
      · have := ih (w ++ [c]) r
        simp only [List.length_append, List.length_cons, List.length_nil] at this ⊢
        omega
      · split
        · simp
        · have := ih [] (r - 1)
          simp only [List.length_cons, List.length_nil] at this ⊢
          omega
  unfold nmN
  split
  · exact key nmL [] r
  · simp
theorem evFl_len {s d : List UInt8} {sp dp : Int} (h0 : -9223372036854775808 ≤ sp) (h1 : sp ≤ 9223372036854775807) (h2 : -9223372036854775808 ≤ dp) (h3 : dp ≤ 9223372036854775807) : (flT s sp d dp).length ≤ 220 := by
  have l1 := flE_len (a := s) h0 h1
  have l2 := flE_len (a := d) h2 h3
  unfold flT
  simp only [List.length_append, List.length_cons, List.length_nil]
  omega
/-- numbers of 64 bits -/
def i64B (n : Int) : Bool := decide (-9223372036854775808 ≤ n ∧ n ≤ 9223372036854775807)
theorem i64B_of {n : Int} (h : i64B n = true) : -9223372036854775808 ≤ n ∧ n ≤ 9223372036854775807 := of_decide_eq_true h
def evR (nd sp dp a b v : Int) : Bool := i64B nd && (i64B sp && (i64B dp && (i64B a && (i64B b && i64B v))))
set_option maxRecDepth 8000 in
set_option maxHeartbeats 2000000 in
theorem EvText_v (kd nd : Int) (s : List UInt8) (sp : Int) (d : List UInt8) (dp a b v : Int) (h : evR nd sp dp a b v = true) : callV Eevt af_EvText [.agg [.int .i64 kd, .int .i64 nd, .agg [.barr 16 s, .int .i64 sp, .barr 16 d, .int .i64 dp], .int .i64 a, .int .i64 b, .int .i64 v]] = some (.str (evT kd nd s sp d dp a b v)) := by
  unfold evR at h
  simp only [Bool.and_eq_true] at h
  obtain ⟨hn, hs, hd, ha, hb, hv⟩ := h
  have hn := i64B_of hn
  have hs := i64B_of hs
  have hd := i64B_of hd
  have ha := i64B_of ha
  have hb := i64B_of hb
  have hv := i64B_of hv
  have l1 := evNm_len kd
  have l2 := itoa_len hn.1 hn.2
  have l3 := itoa_len ha.1 ha.2
  have l4 := itoa_len hb.1 hb.2
  have l5 := itoa_len hv.1 hv.2
  have l6 := evNl a
  have l7 := evFl_len (s := s) (d := d) hs.1 hs.2 hd.1 hd.2
  rw [EvText_t]
  unfold evT evAb evFz
  generalize (s == List.replicate 16 (0 : UInt8) && (sp == 0 && (d == List.replicate 16 (0 : UInt8) && (dp == 0 && true)))) = z
  cases (kd == 1) <;> cases (kd == 9) <;> cases (v == 0) <;> cases z
  all_goals
    simp only [un1, un2, jo1, jo2, cond_true, cond_false, List.length_append, List.length_cons, List.length_nil]
    simp (disch := omega) only [dec_t, dec_f, inB_t, inC_t, andT_t, cond_true, cond_false, Bool.and_true, Bool.true_and, w64, wu32, wu8, nble_t, nblt_t, Bool.not_true, Bool.not_false, Bool.not_not, ieq_t, ieq_f, ine_t, ine_f, true_and, and_true, andT_l]
  all_goals try rfl
def cEvText : List V → Option (V × Bool)
  | [.agg [.int .i64 kd, .int .i64 nd, .agg [.barr 16 s, .int .i64 sp, .barr 16 d, .int .i64 dp], .int .i64 a, .int .i64 b, .int .i64 v]] => some (.str (evT kd nd s sp d dp a b v), evR nd sp dp a b v)
  | _ => none
theorem EvText_con : ∀ vs v, cEvText vs = some (v, true) → SpecV Tryd.prog 17 vs v := by
  intro vs v h; unfold cEvText at h; split at h
  · rename_i kd nd s sp d dp a b v
    injection h with h; injection h with h hb; subst h
    exact callV_ok Eevt_ok af_EvText_ok (EvText_v _ _ _ _ _ _ _ _ _ hb)
  · cases h
end Go.Proofs.YtpoeinajedbfoaaDoor

namespace Go.Proofs.YtpoeinajedbfoaaDoor
open Go Go.Am Go.RowKit Go.Mix Go.Bas
set_option maxRecDepth 100000
theorem blInfo : (Tryd.prog.info? 63).map (fun i => i.size) = some 2 := by kernel_rfl
theorem blLies : liesAt Tryd.prog Tryd.prog.depth 63 (2 / Tryd.prog.cellsOf 63) 0 63 1 = true := by kernel_rfl
set_option maxRecDepth 1000000 in
set_option maxHeartbeats 1000000 in
theorem blUsed (b : Nat) (w : World) (h0 : w.cell? ⟨b, 0, none⟩ = some (.pointer (some ⟨b, 0, none⟩))) :
    Calls Tryd.prog 61 #[.pointer (some ⟨b, 0, none⟩)] w fun e w' => e = .returned (.tuple #[]) ∧ w' = w := by
  obtain ⟨j, hj, _⟩ := Option.map_eq_some_iff.1 blInfo
  go_enter Tryd.func61, Tryd.ntmps61
  go_wp2
  rw [Lib.run_neq_ptr_same w ⟨b, 0, none⟩ Tryd.underlying60 hj]
  simp only [Result.andThen]
  rw [Oper.upon_value]
  go_wp2
  go_end0
  exact ⟨rfl, rfl⟩
set_option maxRecDepth 1000000 in
set_option maxHeartbeats 1000000 in
theorem blFresh (b : Nat) (w : World) (h0 : w.cell? ⟨b, 0, none⟩ = some (.pointer none)) (hsh : w.shape? b = some (63, 2)) (hfz : w.frozen? ⟨b, 0, none⟩ = false) :
    Calls Tryd.prog 61 #[.pointer (some ⟨b, 0, none⟩)] w fun e w' => e = .returned (.tuple #[]) ∧ w' = w.setCell ⟨b, 0, none⟩ (.pointer (some ⟨b, 0, none⟩)) := by
  obtain ⟨j, hj, hjs⟩ := Option.map_eq_some_iff.1 blInfo
  go_enter Tryd.func61, Tryd.ntmps61
  go_wp2
  rw [Lib.run_to_unsafe w ⟨b, 0, none⟩ Tryd.underlying60 Tryd.underlying100 hj (by rw [hjs]; decide) hsh (Nat.zero_lt_succ 1)]
  simp only [Result.andThen]
  rw [Oper.upon_value]
  go_wp2
  rw [run_callFunc_extern Tryd.func73 (by kernel_rfl) (by kernel_rfl) (by kernel_rfl) (e := Extern.AbiNoEscape.same) (by kernel_rfl)]
  rw [Lib.run_noEscape]
  simp only [Result.andThen]
  rw [Oper.upon_value]
  go_wp2
  rw [Lib.run_from_unsafe w ⟨b, 0, none⟩ Tryd.underlying100 Tryd.underlying60 hj hsh blLies]
  simp only [Result.andThen]
  rw [Oper.upon_value]
  go_wp2
  go_end0
  exact ⟨rfl, rfl⟩
/-- copyCheck: behind it the Builder is used -/
theorem blCheck (B b : Nat) (bs : List Value) (w : World) (h : Lib.IsBuilder 63 5 B b bs w) :
    Calls Tryd.prog 61 #[.pointer (some ⟨b, 0, none⟩)] w fun e w' => e = .returned (.tuple #[]) ∧ Lib.BuilderAt 63 5 B b (.pointer (some ⟨b, 0, none⟩)) bs w' ∧ Below B w w' := by
  rcases h with h | h
  · refine (blFresh b w h.cell0 h.shape h.frozen0).mono ?_
    rintro e w' ⟨he, rfl⟩
    exact ⟨he, h.used _, (Below.refl _ _).setCell (p := ⟨b, 0, none⟩) h.1 _⟩
  · refine (blUsed b w h.cell0).mono ?_
    rintro e w' ⟨he, rfl⟩
    exact ⟨he, h, Below.refl _ _⟩
set_option maxRecDepth 1000000 in
set_option maxHeartbeats 1000000 in
/-- WriteString at a Builder -/
theorem blWrite (B b : Nat) (bs : List Value) (s : ByteArray) (w : World) (h : Lib.IsBuilder 63 5 B b bs w) (hlen : bs.length + s.size ≤ 140737488355328) (hBw : B ≤ w.heap.size) :
    Calls Tryd.prog 46 #[.pointer (some ⟨b, 0, none⟩), .string s] w fun e w' => e = .returned (.tuple #[.int .i64 s.size, .nilIface]) ∧ Lib.BuilderAt 63 5 B b (.pointer (some ⟨b, 0, none⟩)) (bs ++ Lib.strCells s) w' ∧ Below B w w' := by
  obtain ⟨i0, hi, hz0, hz1, hz2⟩ := info_parts Tryd.infob
  have HH := hid h
  clear h
  go_enter Tryd.func46, Tryd.ntmps46
  go_wp2_with fail
  refine (blCheck B b bs _ HH.out).mono ?_
  rintro e w1 ⟨rfl, ⟨hB, v, hbk, hown, hne⟩, hb1⟩
  have hs1 := hb1.size
  have c0 : w1.cell? ⟨b, 0, none⟩ = some (.pointer (some ⟨b, 0, none⟩)) := by rw [Lib.cell_of_heap hbk]; rfl
  have c1 : w1.cell? ⟨b, 1, none⟩ = some v := by rw [Lib.cell_of_heap hbk]; rfl
  go_wp2_with (at_builtin; refine Lib.wpList_append_own_string _ rfl _ _ 61 9 rfl B 5 i0 Tryd.underlying61 Tryd.underlying9 hi hz0 hz1 hz2 _ _ _ rfl hown s rfl ?c3 ?c4 ?c5 ?_)
  case c3 => unfold maxLen; omega
  case c4 => omega
  case c5 => omega
  intro v' w2 hown' hgrow _
  have hlt : b < w1.heap.size := by
    rcases Nat.lt_or_ge b w1.heap.size with h' | h'
    · exact h'
    · simp [Array.getElem?_eq_none h'] at hbk
  have hb2 : w2.heap[b]? = some (.cells #[.pointer (some ⟨b, 0, none⟩), v] 63 (0, 0)) := by
    rw [hgrow.block b hlt (fun e => hne e.symm)]
    exact hbk
  have d0 : w2.cell? ⟨b, 0, none⟩ = some (.pointer (some ⟨b, 0, none⟩)) := by rw [Lib.cell_of_heap hb2]; rfl
  have d1 : w2.cell? ⟨b, 1, none⟩ = some v := by rw [Lib.cell_of_heap hb2]; rfl
  have f1 : w2.frozen? ⟨b, 1, none⟩ = false := Lib.frozen_of_heap hb2 1
  obtain ⟨ao, n', cap, rfl⟩ : ∃ ao n' cap, v' = .slice ao n' cap := by
    rcases hown'.2 with ⟨hv, _⟩ | ⟨g, cap, cur, hv, _⟩
    · exact ⟨_, _, _, hv⟩
    · exact ⟨_, _, _, hv⟩
  go_wp2
  go_ret2
  refine ⟨rfl, ?_, ?_⟩
  · exact Lib.BuilderAt.put (T := 63) (e := 5) hB hb2 (bs' := bs ++ Lib.strCells s) (by simpa [Lib.strCells_length] using hown') (by decide)
  · exact (hb1.grown hgrow (by omega) (fun k hk => (hown.lt k hk).1)).setCell (p := ⟨b, 1, none⟩) hB _
theorem blCells : Tryd.prog.cellsOf 5 = 1 := by kernel_rfl
set_option maxRecDepth 1000000 in
set_option maxHeartbeats 1000000 in
theorem blString (B b : Nat) (l : List UInt8) (w : World) (h : Lib.IsBuilder 63 5 B b (Lib.byteCells l) w) (h0 : l ≠ []) :
    Calls Tryd.prog 34 #[.pointer (some ⟨b, 0, none⟩)] w fun e w' => e = .returned (.string ⟨l.toArray⟩) ∧ Below B w w' := by
  obtain ⟨p, hB, v, hbk, hown, hne⟩ : ∃ p, Lib.BuilderAt 63 5 B b p (Lib.byteCells l) w := by
    rcases h with h | h
    · exact ⟨_, h⟩
    · exact ⟨_, h⟩
  have hl0 : l.length ≠ 0 := by simpa using h0
  rw [Lib.byteCells_length] at hown
  obtain ⟨g, cap, cur, rfl, hbg, hg, hnc, hcm, hcs, htake⟩ : ∃ g cap cur, v = .slice (some ⟨g, 0, none⟩) l.length cap ∧ B ≤ g ∧ w.heap[g]? = some (.cells cur 5 (0, 0)) ∧ l.length ≤ cap ∧ cap ≤ maxLen ∧ cur.size = cap * 1 ∧ cur.toList.take (l.length * 1) = Lib.byteCells l := by
    rcases hown.2 with ⟨_, hz⟩ | ⟨g, cap, cur, hv, r⟩
    · exact absurd hz hl0
    · exact ⟨g, cap, cur, hv, r⟩
  have c1 : w.drew.cell? ⟨b, 1, none⟩ = some (.slice (some ⟨g, 0, none⟩) l.length cap) := by
    have : w.drew.heap[b]? = some (.cells #[p, .slice (some ⟨g, 0, none⟩) l.length cap] 63 (0, 0)) := hbk
    rw [Lib.cell_of_heap this]; rfl
  have hSD : (Builtin.unsafeSliceData_ #[61] 86 #[.slice (some ⟨g, 0, none⟩) l.length cap]).run Tryd.prog w.drew = .ok (.pointer (some ⟨g, 0, none⟩)) w.drew :=
    Lib.run_unsafeSliceData_row _ _ _ _ _ _ (by omega)
  have hUS : (Builtin.unsafeString_ #[86, 3] 9 #[.pointer (some ⟨g, 0, none⟩), .int .i64 l.length]).run Tryd.prog w.drew = .ok (.string ⟨l.toArray⟩) (w.drew.freeze ⟨g, 0, none⟩ l.length) := by
    refine Lib.run_unsafeString_row w.drew 86 3 9 5 Tryd.underlying86 blCells g cur.size (by have hg' : w.drew.heap[g]? = some (.cells cur 5 (0, 0)) := hg; simp [World.shape?, hg']) l h0 (by omega) (by unfold maxLen at hcm; omega) ?_
    intro j x hx
    have := hown.cells (g := g) rfl j (.int .u8 x.toNat) (by simp [Lib.byteCells, hx])
    exact this
  clear h hown hbk hg htake
  have mixed : Tryd.prog.follows Departure.mixedOrders = true := by kernel_rfl
  go_enter Tryd.func34, Tryd.ntmps34
  go_wp2
  go_region_o
  all_goals (go_wp2; go_ret; exact ⟨rfl, Lib.below_freeze (Below.drew (Below.refl B w)) (p := ⟨g, 0, none⟩) hbg _⟩)
set_option maxRecDepth 1000000 in
set_option maxHeartbeats 1000000 in
theorem blStringNil (B b : Nat) (p : Value) (w : World) (hbk : w.heap[b]? = some (.cells #[p, .slice none 0 0] 63 (0, 0))) :
    Calls Tryd.prog 34 #[.pointer (some ⟨b, 0, none⟩)] w fun e w' => e = .returned (.string ⟨#[]⟩) ∧ Below B w w' := by
  have hUS : ∀ (W : World) (q : Option Addr), (Builtin.unsafeString_ #[86, 3] 9 #[.pointer q, .int .i64 0]).run Tryd.prog W = .ok (.string .empty) W := fun W q => Lib.run_unsafeString_none W _ _ _ q
  have c1 : w.drew.cell? ⟨b, 1, none⟩ = some (.slice none 0 0) := by
    have : w.drew.heap[b]? = some (.cells #[p, .slice none 0 0] 63 (0, 0)) := hbk
    rw [Lib.cell_of_heap this]; rfl
  have hSD : (Builtin.unsafeSliceData_ #[61] 86 #[.slice none 0 0]).run Tryd.prog w.drew = .ok (.pointer none) w.drew := rfl
  have mixed : Tryd.prog.follows Departure.mixedOrders = true := by kernel_rfl
  go_enter Tryd.func34, Tryd.ntmps34
  go_wp2
  go_region_o
  all_goals (go_wp2; go_ret; exact ⟨rfl, Below.drew (Below.refl B w)⟩)
end Go.Proofs.YtpoeinajedbfoaaDoor
