/- Part Gsm of the proof: laws used by the law of this claim. -/
import Derived.Test.YtbbgkhmlbickpaaDoorGtx
import Derived.Test.YtbbgkhmlbickpaaDoorGsi
set_option linter.all false
namespace Go.Proofs.YtbbgkhmlbickpaaDoor
open Go Go.Am Go.RowKit Go.Mix Go.Bas
set_option maxRecDepth 100000
/-- what a node is to do, as text -/
def wordB (d : Int) : List UInt8 := if d = 0 then [101, 110, 100] else if d = 1 then [119, 105, 116, 110, 101, 115, 115] else if d = 2 then [100, 101, 99, 105, 100, 101] else if d = 3 then [108, 97, 115, 116] else if d = 4 then [114, 101, 99, 111, 118, 101, 114] else if d = 5 then [115, 116, 101, 101, 114] else if d = 6 then [108, 101, 97, 114, 110] else Lib.itoa d
noncomputable def af_sWordm : AF := afOf Tryd.prog Tryd.f77 []
theorem af_sWordm_ok : AllOk Tryd.prog 77 af_sWordm := .flat Tryd.func77 (by kernel_rfl) (by kernel_rfl) (by kernel_rfl) (by kernel_rfl) (by kernel_rfl)
noncomputable def af_rsWord : AF := afOf Tryd.prog Tryd.f79 []
theorem af_rsWord_ok : AllOk Tryd.prog 79 af_rsWord := .flat Tryd.func79 (by kernel_rfl) (by kernel_rfl) (by kernel_rfl) (by kernel_rfl) (by kernel_rfl)
noncomputable def GEsma0 : List (Nat × Con) := [(76, .val [.int .i64] cItoa), (70, .val [.int .i64] cItoa)]
theorem GEsma0_ok : GOk Tryd.prog GEsma0 := .cons (enters_of Tryd.func76 (by kernel_rfl) rfl) xItoa_con <| .cons (enters_of Tryd.func70 (by kernel_rfl) rfl) rDigits_con <| .nil
noncomputable def IEsma0 : List (Nat × AF) := []
theorem IEsma0_ok : IOk Tryd.prog IEsma0 := .nil
noncomputable def CEsma0 : List (Nat × (List Nat × (S → Option (Bool × Tr)))) := []
theorem CEsma0_ok : COk Tryd.prog CEsma0 := .nil
noncomputable def XEsma0 : List (Nat × (List Sh × (List V → PT))) := []
theorem XEsma0_ok : XOk Tryd.prog XEsma0 := .nil
noncomputable def Esma0 : Env := ⟨Tryd.prog, GEsma0, IEsma0, CEsma0, XEsma0⟩
theorem Esma0_ok : EnvOk Esma0 := ⟨by kernel_rfl, GEsma0_ok, IEsma0_ok, CEsma0_ok, XEsma0_ok⟩
theorem sWordm_t (d : Int) : callV Esma0 af_sWordm [.int .i64 d] =
 bif decide (d < (0 : Int)) then
 bif andT true (decide ((-9223372036854775808 : Int) ≤ d ∧ d ≤ (9223372036854775807 : Int))) then
 some (V.str (Lib.itoa d))
 else none
 else
 bif decide (d ≥ (7 : Int)) then
 bif andT true (decide ((-9223372036854775808 : Int) ≤ d ∧ d ≤ (9223372036854775807 : Int))) then
 some (V.str (Lib.itoa d))
 else none
 else
 bif andT true (inB d (7 : Nat)) then
 some
 (V.str
 (toS
 ((V.str [(101 : UInt8), (110 : UInt8), (100 : UInt8)] ::
 V.str
 [(119 : UInt8), (105 : UInt8), (116 : UInt8), (110 : UInt8), (101 : UInt8), (115 : UInt8),
 (115 : UInt8)] ::
 V.str [(100 : UInt8), (101 : UInt8), (99 : UInt8), (105 : UInt8), (100 : UInt8), (101 : UInt8)] ::
 V.str [(108 : UInt8), (97 : UInt8), (115 : UInt8), (116 : UInt8)] ::
 V.str
 [(114 : UInt8), (101 : UInt8), (99 : UInt8), (111 : UInt8), (118 : UInt8), (101 : UInt8),
 (114 : UInt8)] ::
 V.str [(115 : UInt8), (116 : UInt8), (101 : UInt8), (101 : UInt8), (114 : UInt8)] ::
 V.str [(108 : UInt8), (101 : UInt8), (97 : UInt8), (114 : UInt8), (110 : UInt8)] ::
 List.replicate (nat_lit 0) (V.str [])).getD
 d.toNat V.undef)))
 else none := by kernel_rfl

theorem rsWord_t (d : Int) : callV Esma0 af_rsWord [.int .i64 d] =
 bif d == (0 : Int) then some (V.str [(101 : UInt8), (110 : UInt8), (100 : UInt8)])
 else
 bif d == (1 : Int) then
 some
 (V.str
 [(119 : UInt8), (105 : UInt8), (116 : UInt8), (110 : UInt8), (101 : UInt8), (115 : UInt8), (115 : UInt8)])
 else
 bif d == (2 : Int) then
 some (V.str [(100 : UInt8), (101 : UInt8), (99 : UInt8), (105 : UInt8), (100 : UInt8), (101 : UInt8)])
 else
 bif d == (3 : Int) then some (V.str [(108 : UInt8), (97 : UInt8), (115 : UInt8), (116 : UInt8)])
 else
 bif d == (4 : Int) then
 some
 (V.str
 [(114 : UInt8), (101 : UInt8), (99 : UInt8), (111 : UInt8), (118 : UInt8), (101 : UInt8),
 (114 : UInt8)])
 else
 bif d == (5 : Int) then
 some (V.str [(115 : UInt8), (116 : UInt8), (101 : UInt8), (101 : UInt8), (114 : UInt8)])
 else
 bif d == (6 : Int) then
 some (V.str [(108 : UInt8), (101 : UInt8), (97 : UInt8), (114 : UInt8), (110 : UInt8)])
 else
 bif andT true (decide ((-9223372036854775808 : Int) ≤ d ∧ d ≤ (9223372036854775807 : Int))) then
 some (V.str (Lib.itoa d))
 else none := by kernel_rfl

theorem wordB_no {d : Int} (h : d < 0 ∨ 7 ≤ d) : wordB d = Lib.itoa d := by
  unfold wordB
  rw [if_neg (by omega), if_neg (by omega), if_neg (by omega), if_neg (by omega), if_neg (by omega), if_neg (by omega), if_neg (by omega)]
theorem sWordm_v (d : Int) (h0 : -9223372036854775808 ≤ d) (h1 : d ≤ 9223372036854775807) : callV Esma0 af_sWordm [.int .i64 d] = some (.str (wordB d)) := by
  by_cases h : d < 0 ∨ 7 ≤ d
  · rw [wordB_no h, sWordm_t]
    try simp only [andT_t, andT_f, cond_true, cond_false, Bool.and_true, Bool.true_and, beq_self_eq_true]
    repeat' (refine bcase (fun hbc => ?_) (fun hbc => ?_))
    all_goals try simp only [decide_eq_true_eq, beq_iff_eq, bne_iff_ne, ne_eq, Bool.and_eq_true, andT_and, inB_iff, inC_iff, nble_iff, nblt_iff, decide_eq_false_iff_not, Bool.not_eq_true', Bool.not_eq_false', beq_eq_false_iff_ne, bne_eq_false_iff_eq, Bool.true_and, Bool.and_true, inB_iff_f, inC_iff_f, nble_iff_f, Bool.or_eq_true, Bool.not_eq_true, Decidable.not_not] at *
    all_goals first | rfl | (exfalso; omega)
  · obtain rfl | rfl | rfl | rfl | rfl | rfl | rfl : d = 0 ∨ d = 1 ∨ d = 2 ∨ d = 3 ∨ d = 4 ∨ d = 5 ∨ d = 6 := by omega
    all_goals kernel_rfl
theorem rsWord_v (d : Int) (h0 : -9223372036854775808 ≤ d) (h1 : d ≤ 9223372036854775807) : callV Esma0 af_rsWord [.int .i64 d] = some (.str (wordB d)) := by
  by_cases h : d < 0 ∨ 7 ≤ d
  · rw [wordB_no h, rsWord_t]
    simp (disch := omega) only [dec_t, dec_f, inB_t, inC_t, andT_t, cond_true, cond_false, Bool.and_true, Bool.true_and, w64, wu32, wu8, nble_t, nblt_t, Bool.not_true, Bool.not_false, Bool.not_not, ieq_t, ieq_f, ine_t, ine_f, true_and, and_true, andT_l]
  · obtain rfl | rfl | rfl | rfl | rfl | rfl | rfl : d = 0 ∨ d = 1 ∨ d = 2 ∨ d = 3 ∨ d = 4 ∨ d = 5 ∨ d = 6 := by omega
    all_goals kernel_rfl
def cWordB : List V → Option (V × Bool)
  | [.int .i64 d] => some (.str (wordB d), decide (-9223372036854775808 ≤ d ∧ d ≤ 9223372036854775807))
  | _ => none
theorem sWordm_con : ∀ vs v, cWordB vs = some (v, true) → SpecV Tryd.prog 77 vs v := by
  intro vs v h; unfold cWordB at h; split at h
  · rename_i d
    injection h with h; injection h with h hb; subst h
    exact callV_ok Esma0_ok af_sWordm_ok ((by obtain ⟨h0, h1⟩ := of_decide_eq_true hb; exact sWordm_v d h0 h1))
  · cases h
theorem rsWord_con : ∀ vs v, cWordB vs = some (v, true) → SpecV Tryd.prog 79 vs v := by
  intro vs v h; unfold cWordB at h; split at h
  · rename_i d
    injection h with h; injection h with h hb; subst h
    exact callV_ok Esma0_ok af_rsWord_ok ((by obtain ⟨h0, h1⟩ := of_decide_eq_true hb; exact rsWord_v d h0 h1))
  · cases h
noncomputable def af_sTextm : AF := afOf Tryd.prog Tryd.f27 []
theorem af_sTextm_ok : AllOk Tryd.prog 27 af_sTextm := .flat Tryd.func27 (by kernel_rfl) (by kernel_rfl) (by kernel_rfl) (by kernel_rfl) (by kernel_rfl)
noncomputable def af_rsTextm : AF := afOf Tryd.prog Tryd.f28 []
theorem af_rsTextm_ok : AllOk Tryd.prog 28 af_rsTextm := .flat Tryd.func28 (by kernel_rfl) (by kernel_rfl) (by kernel_rfl) (by kernel_rfl) (by kernel_rfl)
noncomputable def GEsma1 : List (Nat × Con) := [(76, .val [.int .i64] cItoa), (70, .val [.int .i64] cItoa), (77, .val [.int .i64] cWordB), (79, .val [.int .i64] cWordB), (78, .val [.int .u64, .int .i64] cFmtU), (80, .val [.int .u64] cDigs)]
theorem GEsma1_ok : GOk Tryd.prog GEsma1 := .cons (enters_of Tryd.func76 (by kernel_rfl) rfl) xItoa_con <| .cons (enters_of Tryd.func70 (by kernel_rfl) rfl) rDigits_con <| .cons (enters_of Tryd.func77 (by kernel_rfl) rfl) sWordm_con <| .cons (enters_of Tryd.func79 (by kernel_rfl) rfl) rsWord_con <| .cons (enters_of Tryd.func78 (by kernel_rfl) rfl) xFmtU_con <| .cons (enters_of Tryd.func80 (by kernel_rfl) rfl) rDigs_con <| .nil
noncomputable def IEsma1 : List (Nat × AF) := []
theorem IEsma1_ok : IOk Tryd.prog IEsma1 := .nil
noncomputable def CEsma1 : List (Nat × (List Nat × (S → Option (Bool × Tr)))) := []
theorem CEsma1_ok : COk Tryd.prog CEsma1 := .nil
noncomputable def XEsma1 : List (Nat × (List Sh × (List V → PT))) := []
theorem XEsma1_ok : XOk Tryd.prog XEsma1 := .nil
noncomputable def Esma1 : Env := ⟨Tryd.prog, GEsma1, IEsma1, CEsma1, XEsma1⟩
theorem Esma1_ok : EnvOk Esma1 := ⟨by kernel_rfl, GEsma1_ok, IEsma1_ok, CEsma1_ok, XEsma1_ok⟩
/-- a segment as text -/
def sidT (nd dd ag : Int) : List UInt8 := Lib.itoa nd ++ [46] ++ wordB dd ++ [46] ++ Lib.decDigits ag.toNat
theorem sTextm_t (nd dd ag : Int) : callV Esma1 af_sTextm [.agg [.int .i64 nd, .int .i64 dd, .int .u32 ag]] =
 bif
 andT
 (andT
 (andT
 (andT
 (andT
 (andT (andT true (decide ((-9223372036854775808 : Int) ≤ nd ∧ nd ≤ (9223372036854775807 : Int))))
 (((Lib.itoa nd).length + (1 : Nat)).ble (9223372036854775807 : Nat)))
 (decide ((-9223372036854775808 : Int) ≤ dd ∧ dd ≤ (9223372036854775807 : Int))))
 (((Lib.itoa nd ++ [(46 : UInt8)]).length + (wordB dd).length).ble (9223372036854775807 : Nat)))
 (((Lib.itoa nd ++ [(46 : UInt8)] ++ wordB dd).length + (1 : Nat)).ble (9223372036854775807 : Nat)))
 (decide
 ((0 : Int) ≤ IntKind.u64.wrap ag ∧
 IntKind.u64.wrap ag < (18446744073709551616 : Int) ∧ (10 : Int) = (10 : Int))))
 (((Lib.itoa nd ++ [(46 : UInt8)] ++ wordB dd ++ [(46 : UInt8)]).length +
 (Lib.decDigits (IntKind.u64.wrap ag).toNat).length).ble
 (9223372036854775807 : Nat)) &&
 true then
 some
 (V.str (Lib.itoa nd ++ [(46 : UInt8)] ++ wordB dd ++ [(46 : UInt8)] ++ Lib.decDigits (IntKind.u64.wrap ag).toNat))
 else none := by kernel_rfl

theorem rsTextm_t (nd dd ag : Int) : callV Esma1 af_rsTextm [.agg [.int .i64 nd, .int .i64 dd, .int .u32 ag]] =
 bif
 andT
 (andT
 (andT
 (andT
 (andT
 (andT (andT true (decide ((-9223372036854775808 : Int) ≤ nd ∧ nd ≤ (9223372036854775807 : Int))))
 (((Lib.itoa nd).length + (1 : Nat)).ble (9223372036854775807 : Nat)))
 (decide ((-9223372036854775808 : Int) ≤ dd ∧ dd ≤ (9223372036854775807 : Int))))
 (((Lib.itoa nd ++ [(46 : UInt8)]).length + (wordB dd).length).ble (9223372036854775807 : Nat)))
 (((Lib.itoa nd ++ [(46 : UInt8)] ++ wordB dd).length + (1 : Nat)).ble (9223372036854775807 : Nat)))
 (decide ((0 : Int) ≤ IntKind.u64.wrap ag ∧ IntKind.u64.wrap ag < (18446744073709551616 : Int))))
 (((Lib.itoa nd ++ [(46 : UInt8)] ++ wordB dd ++ [(46 : UInt8)]).length +
 (Lib.decDigits (IntKind.u64.wrap ag).toNat).length).ble
 (9223372036854775807 : Nat)) &&
 true then
 some
 (V.str (Lib.itoa nd ++ [(46 : UInt8)] ++ wordB dd ++ [(46 : UInt8)] ++ Lib.decDigits (IntKind.u64.wrap ag).toNat))
 else none := by kernel_rfl

theorem wordB_len {d : Int} (h0 : -9223372036854775808 ≤ d) (h1 : d ≤ 9223372036854775807) : (wordB d).length ≤ 21 := by
  unfold wordB
  repeat' split
  all_goals first | exact itoa_len h0 h1 | decide
theorem sTextm_v (nd dd ag : Int) (hn0 : -9223372036854775808 ≤ nd) (hn1 : nd ≤ 9223372036854775807) (hd0 : -9223372036854775808 ≤ dd) (hd1 : dd ≤ 9223372036854775807) (h0 : 0 ≤ ag) (h1 : ag ≤ 4294967295) : callV Esma1 af_sTextm [.agg [.int .i64 nd, .int .i64 dd, .int .u32 ag]] = some (.str (sidT nd dd ag)) := by
  have l1 := itoa_len hn0 hn1
  have l2 := wordB_len hd0 hd1
  have l3 := dec_len (u := ag.toNat) (by omega)
  rw [sTextm_t, wu64 (x := ag) (by omega) (by omega)]
  simp only [List.length_append, List.length_cons, List.length_nil]
  simp (disch := omega) only [dec_t, dec_f, inB_t, inC_t, andT_t, cond_true, cond_false, Bool.and_true, Bool.true_and, w64, wu32, wu8, nble_t, nblt_t, Bool.not_true, Bool.not_false, Bool.not_not, ieq_t, ieq_f, ine_t, ine_f, true_and, and_true, andT_l]
  rfl
theorem rsTextm_v (nd dd ag : Int) (hn0 : -9223372036854775808 ≤ nd) (hn1 : nd ≤ 9223372036854775807) (hd0 : -9223372036854775808 ≤ dd) (hd1 : dd ≤ 9223372036854775807) (h0 : 0 ≤ ag) (h1 : ag ≤ 4294967295) : callV Esma1 af_rsTextm [.agg [.int .i64 nd, .int .i64 dd, .int .u32 ag]] = some (.str (sidT nd dd ag)) := by
  have l1 := itoa_len hn0 hn1
  have l2 := wordB_len hd0 hd1
  have l3 := dec_len (u := ag.toNat) (by omega)
  rw [rsTextm_t, wu64 (x := ag) (by omega) (by omega)]
  simp only [List.length_append, List.length_cons, List.length_nil]
  simp (disch := omega) only [dec_t, dec_f, inB_t, inC_t, andT_t, cond_true, cond_false, Bool.and_true, Bool.true_and, w64, wu32, wu8, nble_t, nblt_t, Bool.not_true, Bool.not_false, Bool.not_not, ieq_t, ieq_f, ine_t, ine_f, true_and, and_true, andT_l]
  rfl
def cSidT : List V → Option (V × Bool)
  | [.agg [.int .i64 nd, .int .i64 dd, .int .u32 ag]] => some (.str (sidT nd dd ag), decide ((-9223372036854775808 ≤ nd ∧ nd ≤ 9223372036854775807) ∧ (-9223372036854775808 ≤ dd ∧ dd ≤ 9223372036854775807) ∧ 0 ≤ ag ∧ ag ≤ 4294967295))
  | _ => none
theorem sTextm_con : ∀ vs v, cSidT vs = some (v, true) → SpecV Tryd.prog 27 vs v := by
  intro vs v h; unfold cSidT at h; split at h
  · rename_i nd dd ag
    injection h with h; injection h with h hb; subst h
    exact callV_ok Esma1_ok af_sTextm_ok ((by obtain ⟨⟨a, b⟩, ⟨c, d⟩, e, f⟩ := of_decide_eq_true hb; exact sTextm_v nd dd ag a b c d e f))
  · cases h
theorem rsTextm_con : ∀ vs v, cSidT vs = some (v, true) → SpecV Tryd.prog 28 vs v := by
  intro vs v h; unfold cSidT at h; split at h
  · rename_i nd dd ag
    injection h with h; injection h with h hb; subst h
    exact callV_ok Esma1_ok af_rsTextm_ok ((by obtain ⟨⟨a, b⟩, ⟨c, d⟩, e, f⟩ := of_decide_eq_true hb; exact rsTextm_v nd dd ag a b c d e f))
  · cases h
noncomputable def af_lives12m : AF := afOf Tryd.prog Tryd.f29 []
theorem af_lives12m_ok : AllOk Tryd.prog 29 af_lives12m := .flat Tryd.func29 (by kernel_rfl) (by kernel_rfl) (by kernel_rfl) (by kernel_rfl) (by kernel_rfl)
noncomputable def GEsma2 : List (Nat × Con) := [(23, .val [.agg [.int .i64, .int .i64, .int .u32]] cSMake), (81, .val [.barr 16] cSSplit), (27, .val [.agg [.int .i64, .int .i64, .int .u32]] cSidT)]
theorem GEsma2_ok : GOk Tryd.prog GEsma2 := .cons (enters_of Tryd.func23 (by kernel_rfl) rfl) sMake_con <| .cons (enters_of Tryd.func81 (by kernel_rfl) rfl) sSplit_con <| .cons (enters_of Tryd.func27 (by kernel_rfl) rfl) sTextm_con <| .nil
noncomputable def IEsma2 : List (Nat × AF) := [(82, af_sIs)]
theorem IEsma2_ok : IOk Tryd.prog IEsma2 := .cons af_sIs_ok <| .nil
noncomputable def CEsma2 : List (Nat × (List Nat × (S → Option (Bool × Tr)))) := []
theorem CEsma2_ok : COk Tryd.prog CEsma2 := .nil
noncomputable def XEsma2 : List (Nat × (List Sh × (List V → PT))) := []
theorem XEsma2_ok : XOk Tryd.prog XEsma2 := .nil
noncomputable def Esma2 : Env := ⟨Tryd.prog, GEsma2, IEsma2, CEsma2, XEsma2⟩
theorem Esma2_ok : EnvOk Esma2 := ⟨by kernel_rfl, GEsma2_ok, IEsma2_ok, CEsma2_ok, XEsma2_ok⟩
theorem lives12m_t  : callV Esma2 af_lives12m [] =
 some (V.bool true) := by kernel_rfl

theorem lives12m_con : ∀ vs v, cTru vs = some (v, true) → SpecV Tryd.prog 29 vs v := by
  intro vs v h; unfold cTru at h; split at h
  · injection h with h; injection h with h hb; subst h
    exact callV_ok Esma2_ok af_lives12m_ok lives12m_t
  · cases h
noncomputable def af_SidMakes : AF := afOf Tryd.prog Tryd.f5 []
theorem af_SidMakes_ok : AllOk Tryd.prog 5 af_SidMakes := .flat Tryd.func5 (by kernel_rfl) (by kernel_rfl) (by kernel_rfl) (by kernel_rfl) (by kernel_rfl)
def sh_SidMakes : List Sh := [.agg [.int .i64, .int .i64, .int .u32]]
noncomputable def af_smNode : AF := afOf Tryd.prog Tryd.f25 []
theorem af_smNode_ok : AllOk Tryd.prog 25 af_smNode := .flat Tryd.func25 (by kernel_rfl) (by kernel_rfl) (by kernel_rfl) (by kernel_rfl) (by kernel_rfl)
noncomputable def af_rsmNode : AF := afOf Tryd.prog Tryd.f26 []
theorem af_rsmNode_ok : AllOk Tryd.prog 26 af_rsmNode := .flat Tryd.func26 (by kernel_rfl) (by kernel_rfl) (by kernel_rfl) (by kernel_rfl) (by kernel_rfl)
noncomputable def GEsma30 : List (Nat × Con) := [(23, .val [.agg [.int .i64, .int .i64, .int .u32]] cSMake), (24, .val [.agg [.int .i64, .int .i64, .int .u32]] cSMake)]
theorem GEsma30_ok : GOk Tryd.prog GEsma30 := .cons (enters_of Tryd.func23 (by kernel_rfl) rfl) sMake_con <| .cons (enters_of Tryd.func24 (by kernel_rfl) rfl) rsMake_con <| .nil
noncomputable def IEsma30 : List (Nat × AF) := []
theorem IEsma30_ok : IOk Tryd.prog IEsma30 := .nil
noncomputable def CEsma30 : List (Nat × (List Nat × (S → Option (Bool × Tr)))) := []
theorem CEsma30_ok : COk Tryd.prog CEsma30 := .nil
noncomputable def XEsma30 : List (Nat × (List Sh × (List V → PT))) := []
theorem XEsma30_ok : XOk Tryd.prog XEsma30 := .nil
noncomputable def Esma30 : Env := ⟨Tryd.prog, GEsma30, IEsma30, CEsma30, XEsma30⟩
theorem Esma30_ok : EnvOk Esma30 := ⟨by kernel_rfl, GEsma30_ok, IEsma30_ok, CEsma30_ok, XEsma30_ok⟩
theorem sNodem_t (nd : Int) : callV Esma30 af_smNode [.int .i64 nd] =
 some (V.barr (16 : Nat) (sidR nd (0 : Int) (0 : Int))) := by kernel_rfl

theorem rsNodem_t (nd : Int) : callV Esma30 af_rsmNode [.int .i64 nd] =
 some (V.barr (16 : Nat) (sidR nd (0 : Int) (0 : Int))) := by kernel_rfl

def cSidNode : List V → Option (V × Bool)
  | [.int .i64 nd] => some (.barr 16 (sidR nd 0 0), true)
  | _ => none
theorem smNode_con : ∀ vs v, cSidNode vs = some (v, true) → SpecV Tryd.prog 25 vs v := by
  intro vs v h; unfold cSidNode at h; split at h
  · rename_i nd
    injection h with h; injection h with h hb; subst h
    exact callV_ok Esma30_ok af_smNode_ok (sNodem_t nd)
  · cases h
theorem rsmNode_con : ∀ vs v, cSidNode vs = some (v, true) → SpecV Tryd.prog 26 vs v := by
  intro vs v h; unfold cSidNode at h; split at h
  · rename_i nd
    injection h with h; injection h with h hb; subst h
    exact callV_ok Esma30_ok af_rsmNode_ok (rsNodem_t nd)
  · cases h
noncomputable def GEsma3 : List (Nat × Con) := [(23, .val [.agg [.int .i64, .int .i64, .int .u32]] cSMake), (24, .val [.agg [.int .i64, .int .i64, .int .u32]] cSMake), (27, .val [.agg [.int .i64, .int .i64, .int .u32]] cSidT), (28, .val [.agg [.int .i64, .int .i64, .int .u32]] cSidT), (29, .val [] cTru), (25, .val [.int .i64] cSidNode), (26, .val [.int .i64] cSidNode)]
theorem GEsma3_ok : GOk Tryd.prog GEsma3 := .cons (enters_of Tryd.func23 (by kernel_rfl) rfl) sMake_con <| .cons (enters_of Tryd.func24 (by kernel_rfl) rfl) rsMake_con <| .cons (enters_of Tryd.func27 (by kernel_rfl) rfl) sTextm_con <| .cons (enters_of Tryd.func28 (by kernel_rfl) rfl) rsTextm_con <| .cons (enters_of Tryd.func29 (by kernel_rfl) rfl) lives12m_con <| .cons (enters_of Tryd.func25 (by kernel_rfl) rfl) smNode_con <| .cons (enters_of Tryd.func26 (by kernel_rfl) rfl) rsmNode_con <| .nil
noncomputable def IEsma3 : List (Nat × AF) := []
theorem IEsma3_ok : IOk Tryd.prog IEsma3 := .nil
noncomputable def CEsma3 : List (Nat × (List Nat × (S → Option (Bool × Tr)))) := []
theorem CEsma3_ok : COk Tryd.prog CEsma3 := .nil
noncomputable def XEsma3 : List (Nat × (List Sh × (List V → PT))) := []
theorem XEsma3_ok : XOk Tryd.prog XEsma3 := .nil
noncomputable def Esma3 : Env := ⟨Tryd.prog, GEsma3, IEsma3, CEsma3, XEsma3⟩
theorem Esma3_ok : EnvOk Esma3 := ⟨by kernel_rfl, GEsma3_ok, IEsma3_ok, CEsma3_ok, XEsma3_ok⟩
theorem SidMakes_t (nd : Int) (dd : Int) (ag : Int) : callV Esma3 af_SidMakes [.agg [.int .i64 nd, .int .i64 dd, .int .u32 ag]] =
 bif andT true (decide ((0 : Int) ≤ ag) && decide (ag ≤ (4294967295 : Int))) then
 bif andT true (decide ((0 : Int) ≤ ag) && decide (ag ≤ (4294967295 : Int))) then
 bif sidR nd dd ag == sidR nd dd ag then
 bif sidE nd dd == sidE nd dd then
 bif sidR nd (0 : Int) (0 : Int) == sidR nd (0 : Int) (0 : Int) then
 bif sidT nd dd ag == sidT nd dd ag then
 bif
 andT
 (andT true
 (decide
 (((-9223372036854775808 : Int) ≤ nd ∧ nd ≤ (9223372036854775807 : Int)) ∧
 ((-9223372036854775808 : Int) ≤ dd ∧ dd ≤ (9223372036854775807 : Int)) ∧
 (0 : Int) ≤ ag ∧ ag ≤ (4294967295 : Int))))
 (decide
 (((-9223372036854775808 : Int) ≤ nd ∧ nd ≤ (9223372036854775807 : Int)) ∧
 ((-9223372036854775808 : Int) ≤ dd ∧ dd ≤ (9223372036854775807 : Int)) ∧
 (0 : Int) ≤ ag ∧ ag ≤ (4294967295 : Int))) &&
 true then
 some (V.bool true)
 else none
 else
 bif
 andT
 (andT true
 (decide
 (((-9223372036854775808 : Int) ≤ nd ∧ nd ≤ (9223372036854775807 : Int)) ∧
 ((-9223372036854775808 : Int) ≤ dd ∧ dd ≤ (9223372036854775807 : Int)) ∧
 (0 : Int) ≤ ag ∧ ag ≤ (4294967295 : Int))))
 (decide
 (((-9223372036854775808 : Int) ≤ nd ∧ nd ≤ (9223372036854775807 : Int)) ∧
 ((-9223372036854775808 : Int) ≤ dd ∧ dd ≤ (9223372036854775807 : Int)) ∧
 (0 : Int) ≤ ag ∧ ag ≤ (4294967295 : Int))) &&
 true then
 some (V.bool false)
 else none
 else some (V.bool false)
 else some (V.bool false)
 else some (V.bool false)
 else none
 else none := by kernel_rfl

theorem SidMakes_v : ∀ xs, inRs 140737488351232 sh_SidMakes xs = true → callV Esma3 af_SidMakes xs = some (.bool true) := by
  intro xs h
  obtain ⟨zx1, zl1, rfl, zh1, zr1⟩ := inRs_cons h; clear h
  obtain ⟨zg1, rfl, za1⟩ := inR_agg zh1; clear zh1
  obtain ⟨zx2, zl2, rfl, zh2, zr2⟩ := inRs_cons za1; clear za1
  obtain ⟨nd, rfl, hnd0, hnd1⟩ := inR_i64 zh2; clear zh2
  obtain ⟨zx3, zl3, rfl, zh3, zr3⟩ := inRs_cons zr2; clear zr2
  obtain ⟨dd, rfl, hdd0, hdd1⟩ := inR_i64 zh3; clear zh3
  obtain ⟨zx4, zl4, rfl, zh4, zr4⟩ := inRs_cons zr3; clear zr3
  obtain ⟨ag, rfl, hag0, hag1⟩ := inR_u32 zh4; clear zh4
  obtain rfl := inRs_nil zr4; clear zr4
  obtain rfl := inRs_nil zr1; clear zr1
  rw [SidMakes_t]
  simp only [beq_self_eq_true, Bool.and_true]
  simp (disch := omega) only [dec_t, dec_f, inB_t, inC_t, andT_t, cond_true, cond_false, Bool.and_true, Bool.true_and, w64, wu32, wu8, nble_t, nblt_t, Bool.not_true, Bool.not_false, Bool.not_not, ieq_t, ieq_f, ine_t, ine_f, true_and, and_true, andT_l]
end Go.Proofs.YtbbgkhmlbickpaaDoor
