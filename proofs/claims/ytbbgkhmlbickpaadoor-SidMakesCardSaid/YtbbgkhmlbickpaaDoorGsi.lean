/- Part Gsi of the proof: laws used by the law of this claim. -/
import Derived.Test.YtbbgkhmlbickpaaDoorProg
import Derived.Test.YtbbgkhmlbickpaaDoorGe
import Derived.Test.YtbbgkhmlbickpaaDoorGl
import Derived.Test.YtbbgkhmlbickpaaDoorGk
import Derived.Test.YtbbgkhmlbickpaaDoorGf
set_option linter.all false
namespace Go.Proofs.YtbbgkhmlbickpaaDoor
open Go Go.Am Go.RowKit Go.Mix Go.Bas
set_option maxRecDepth 100000
def sidz (c : Bool) (x : Int) : Int := if c then x else 0
def sidA (nd dd ag : Int) : List UInt8 := [0xfd, 0x6c, 0, 0x62, 0, 0, 0, 0, b8 (nd / 256), b8 nd, b8 dd, 0] ++ four ag
def sidE (nd dd : Int) : Int := if (0 ≤ nd ∧ nd ≤ 65535) ∧ (0 ≤ dd ∧ dd ≤ 255) then 0 else 2
def sidR (nd dd ag : Int) : List UInt8 := if sidE nd dd = 0 then sidA nd dd ag else List.replicate 16 0
def spB (a : List UInt8) : Bool := sidA (gt a 8 * 256 + gt a 9) (gt a 10) (be32 a 12) == a
noncomputable def af_sBlock : AF := afOf Tryd.prog Tryd.f71 []
theorem af_sBlock_ok : AllOk Tryd.prog 71 af_sBlock := .flat Tryd.func71 (by kernel_rfl) (by kernel_rfl) (by kernel_rfl) (by kernel_rfl) (by kernel_rfl)
noncomputable def af_sMake : AF := afOf Tryd.prog Tryd.f23 [.unr 5]
theorem af_sMake_ok : AllOk Tryd.prog 23 af_sMake := .flat Tryd.func23 (by kernel_rfl) (by kernel_rfl) (by kernel_rfl) (by kernel_rfl) (by kernel_rfl)
noncomputable def af_rsMake : AF := afOf Tryd.prog Tryd.f24 [.unr 5]
theorem af_rsMake_ok : AllOk Tryd.prog 24 af_rsMake := .flat Tryd.func24 (by kernel_rfl) (by kernel_rfl) (by kernel_rfl) (by kernel_rfl) (by kernel_rfl)
noncomputable def af_sSplit : AF := afOf Tryd.prog Tryd.f81 []
theorem af_sSplit_ok : AllOk Tryd.prog 81 af_sSplit := .flat Tryd.func81 (by kernel_rfl) (by kernel_rfl) (by kernel_rfl) (by kernel_rfl) (by kernel_rfl)
noncomputable def af_sIs : AF := afOf Tryd.prog Tryd.f82 []
theorem af_sIs_ok : AllOk Tryd.prog 82 af_sIs := .flat Tryd.func82 (by kernel_rfl) (by kernel_rfl) (by kernel_rfl) (by kernel_rfl) (by kernel_rfl)
noncomputable def GEsi0 : List (Nat × Con) := [(74, .val [.int .i64] cTwo), (75, .val [.int .u32] cFour), (72, .app 5 aP16), (73, .app 5 aP32)]

theorem GEsi0_ok : GOk Tryd.prog GEsi0 := .cons (enters_of Tryd.func74 (by kernel_rfl) rfl) Two_con <| .cons (enters_of Tryd.func75 (by kernel_rfl) rfl) Four_con <| .consA (enters_of Tryd.func72 (by kernel_rfl) rfl) Put16_app <| .consA (enters_of Tryd.func73 (by kernel_rfl) rfl) Put32_app <| .nil

noncomputable def IEsi0 : List (Nat × AF) := [(71, af_sBlock)]

theorem IEsi0_ok : IOk Tryd.prog IEsi0 := .cons af_sBlock_ok <| .nil

noncomputable def CEsi0 : List (Nat × (List Nat × (S → Option (Bool × Tr)))) := []
theorem CEsi0_ok : COk Tryd.prog CEsi0 := .nil
noncomputable def XEsi0 : List (Nat × (List Sh × (List V → PT))) := []
theorem XEsi0_ok : XOk Tryd.prog XEsi0 := .nil
noncomputable def Esi0 : Env := ⟨Tryd.prog, GEsi0, IEsi0, CEsi0, XEsi0⟩
theorem Esi0_ok : EnvOk Esi0 := ⟨by kernel_rfl, GEsi0_ok, IEsi0_ok, CEsi0_ok, XEsi0_ok⟩
theorem sMake_t (nd dd ag : Int) : callV Esi0 af_sMake [.agg [.int .i64 nd, .int .i64 dd, .int .u32 ag]] =
 bif decide (nd < (0 : Int)) then
 some (V.tup [V.barr (16 : Nat) (List.replicate (16 : Nat) (0 : UInt8)), V.int IntKind.i64 (2 : Int)])
 else
 bif decide (nd > (65535 : Int)) then
 some (V.tup [V.barr (16 : Nat) (List.replicate (16 : Nat) (0 : UInt8)), V.int IntKind.i64 (2 : Int)])
 else
 bif decide (dd < (0 : Int)) then
 some (V.tup [V.barr (16 : Nat) (List.replicate (16 : Nat) (0 : UInt8)), V.int IntKind.i64 (2 : Int)])
 else
 bif decide (dd > (255 : Int)) then
 some (V.tup [V.barr (16 : Nat) (List.replicate (16 : Nat) (0 : UInt8)), V.int IntKind.i64 (2 : Int)])
 else
 bif
 andT true
 (decide ((0 : Int) ≤ ag) && decide (ag < (4294967296 : Int)) &&
 (two (64876 : Int) ++ two (98 : Int) ++ two (0 : Int) ++ two (0 : Int) ++ two nd ++
 u8 (IntKind.u8.wrap dd) :: u8 (0 : Int) :: List.replicate (nat_lit 0) (0 : UInt8) ++
 four ag).length.ble
 (140737488355328 : Nat)) then
 some
 (V.tup
 [V.barr (16 : Nat)
 (cpL (List.replicate (16 : Nat) (0 : UInt8)) (0 : Nat) (16 : Nat)
 (two (64876 : Int) ++ two (98 : Int) ++ two (0 : Int) ++ two (0 : Int) ++ two nd ++
 u8 (IntKind.u8.wrap dd) :: u8 (0 : Int) :: List.replicate (nat_lit 0) (0 : UInt8) ++
 four ag)),
 V.int IntKind.i64 (0 : Int)])
 else none := by kernel_rfl

theorem rsMake_t (nd dd ag : Int) : callV Esi0 af_rsMake [.agg [.int .i64 nd, .int .i64 dd, .int .u32 ag]] =
 bif decide (nd < (0 : Int)) then
 some (V.tup [V.barr (16 : Nat) (List.replicate (16 : Nat) (0 : UInt8)), V.int IntKind.i64 (2 : Int)])
 else
 bif decide (nd > (65535 : Int)) then
 some (V.tup [V.barr (16 : Nat) (List.replicate (16 : Nat) (0 : UInt8)), V.int IntKind.i64 (2 : Int)])
 else
 bif decide (dd < (0 : Int)) then
 some (V.tup [V.barr (16 : Nat) (List.replicate (16 : Nat) (0 : UInt8)), V.int IntKind.i64 (2 : Int)])
 else
 bif decide (dd > (255 : Int)) then
 some (V.tup [V.barr (16 : Nat) (List.replicate (16 : Nat) (0 : UInt8)), V.int IntKind.i64 (2 : Int)])
 else
 bif andT true (decide ((0 : Int) ≤ ag) && decide (ag < (4294967296 : Int))) && true then
 some
 (V.tup
 [V.barr (16 : Nat)
 (((((((((((List.replicate (16 : Nat) (0 : UInt8)).set (0 : Nat) (u8 (253 : Int))).set (1 : Nat)
 (u8 (108 : Int))).set
 (3 : Nat) (u8 (98 : Int))).set
 (8 : Nat) (u8 (gt (two nd) (0 : Nat)))).set
 (9 : Nat) (u8 (gt (two nd) (1 : Nat)))).set
 (10 : Nat) (u8 (IntKind.u8.wrap dd))).set
 (12 : Nat) (u8 (gt (four ag) (0 : Nat)))).set
 (13 : Nat) (u8 (gt (four ag) (1 : Nat)))).set
 (14 : Nat) (u8 (gt (four ag) (2 : Nat)))).set
 (15 : Nat) (u8 (gt (four ag) (3 : Nat)))),
 V.int IntKind.i64 (0 : Int)])
 else none := by kernel_rfl

theorem u8_nat (x : UInt8) : u8 ((x.toNat : Nat) : Int) = x := by
  unfold u8
  simp
theorem sMake_v (nd dd ag : Int) (h0 : 0 ≤ ag) (h1 : ag ≤ 4294967295) : callV Esi0 af_sMake [.agg [.int .i64 nd, .int .i64 dd, .int .u32 ag]] = some (.tup [.barr 16 (sidR nd dd ag), .int .i64 (sidE nd dd)]) := by
  rw [sMake_t]
  by_cases h : (0 ≤ nd ∧ nd ≤ 65535) ∧ (0 ≤ dd ∧ dd ≤ 255)
  · have e : sidE nd dd = 0 := if_pos h
    unfold sidR
    rw [e, if_pos rfl]
    have hl : (two 64876 ++ two 98 ++ two 0 ++ two 0 ++ two nd ++ u8 (IntKind.u8.wrap dd) :: u8 (0 : Int) :: List.replicate (nat_lit 0) (0 : UInt8) ++ four ag).length = 16 := rfl
    have hx : cpL (List.replicate 16 0) 0 16 (two 64876 ++ two 98 ++ two 0 ++ two 0 ++ two nd ++ u8 (IntKind.u8.wrap dd) :: u8 (0 : Int) :: List.replicate (nat_lit 0) (0 : UInt8) ++ four ag) = sidA nd dd ag := rfl
    rw [hx, hl]
    simp (disch := omega) only [dec_t, dec_f, inB_t, inC_t, andT_t, cond_true, cond_false, Bool.and_true, Bool.true_and, w64, wu32, wu8, nble_t, nblt_t, Bool.not_true, Bool.not_false, Bool.not_not, ieq_t, ieq_f, ine_t, ine_f, true_and, and_true, andT_l]
  · have e : sidE nd dd = 2 := if_neg h
    unfold sidR
    rw [e, if_neg (by decide)]
    try simp only [andT_t, andT_f, cond_true, cond_false, Bool.and_true, Bool.true_and, beq_self_eq_true]
    repeat' (refine bcase (fun hbc => ?_) (fun hbc => ?_))
    all_goals try simp only [decide_eq_true_eq, beq_iff_eq, bne_iff_ne, ne_eq, Bool.and_eq_true, andT_and, inB_iff, inC_iff, nble_iff, nblt_iff, decide_eq_false_iff_not, Bool.not_eq_true', Bool.not_eq_false', beq_eq_false_iff_ne, bne_eq_false_iff_eq, Bool.true_and, Bool.and_true, inB_iff_f, inC_iff_f, nble_iff_f, Bool.or_eq_true, Bool.not_eq_true, Decidable.not_not] at *
    all_goals first | rfl | (exfalso; omega)
theorem rsMake_v (nd dd ag : Int) (h0 : 0 ≤ ag) (h1 : ag ≤ 4294967295) : callV Esi0 af_rsMake [.agg [.int .i64 nd, .int .i64 dd, .int .u32 ag]] = some (.tup [.barr 16 (sidR nd dd ag), .int .i64 (sidE nd dd)]) := by
  rw [rsMake_t]
  by_cases h : (0 ≤ nd ∧ nd ≤ 65535) ∧ (0 ≤ dd ∧ dd ≤ 255)
  · have e : sidE nd dd = 0 := if_pos h
    unfold sidR
    rw [e, if_pos rfl]
    have e0 : u8 (gt (two nd) 0) = b8 (nd / 256) := u8_nat _
    have e1 : u8 (gt (two nd) 1) = b8 nd := u8_nat _
    have f0 : u8 (gt (four ag) 0) = b8 (ag / 16777216) := u8_nat _
    have f1 : u8 (gt (four ag) 1) = b8 (ag / 65536) := u8_nat _
    have f2 : u8 (gt (four ag) 2) = b8 (ag / 256) := u8_nat _
    have f3 : u8 (gt (four ag) 3) = b8 ag := u8_nat _
    have hx : (((((((((((List.replicate 16 0).set 0 (u8 253)).set 1 (u8 108)).set 3 (u8 98)).set 8 (b8 (nd / 256))).set 9 (b8 nd)).set 10 (u8 (IntKind.u8.wrap dd))).set 12 (b8 (ag / 16777216))).set 13 (b8 (ag / 65536))).set 14 (b8 (ag / 256))).set 15 (b8 ag)) = sidA nd dd ag := rfl
    rw [e0, e1, f0, f1, f2, f3, hx]
    simp (disch := omega) only [dec_t, dec_f, inB_t, inC_t, andT_t, cond_true, cond_false, Bool.and_true, Bool.true_and, w64, wu32, wu8, nble_t, nblt_t, Bool.not_true, Bool.not_false, Bool.not_not, ieq_t, ieq_f, ine_t, ine_f, true_and, and_true, andT_l]
  · have e : sidE nd dd = 2 := if_neg h
    unfold sidR
    rw [e, if_neg (by decide)]
    try simp only [andT_t, andT_f, cond_true, cond_false, Bool.and_true, Bool.true_and, beq_self_eq_true]
    repeat' (refine bcase (fun hbc => ?_) (fun hbc => ?_))
    all_goals try simp only [decide_eq_true_eq, beq_iff_eq, bne_iff_ne, ne_eq, Bool.and_eq_true, andT_and, inB_iff, inC_iff, nble_iff, nblt_iff, decide_eq_false_iff_not, Bool.not_eq_true', Bool.not_eq_false', beq_eq_false_iff_ne, bne_eq_false_iff_eq, Bool.true_and, Bool.and_true, inB_iff_f, inC_iff_f, nble_iff_f, Bool.or_eq_true, Bool.not_eq_true, Decidable.not_not] at *
    all_goals first | rfl | (exfalso; omega)
def cSMake : List V → Option (V × Bool)
  | [.agg [.int .i64 nd, .int .i64 dd, .int .u32 ag]] => some (.tup [.barr 16 (sidR nd dd ag), .int .i64 (sidE nd dd)], (decide (0 ≤ ag) && decide (ag ≤ 4294967295)))
  | _ => none
theorem sMake_con : ∀ vs v, cSMake vs = some (v, true) → SpecV Tryd.prog 23 vs v := by
  intro vs v h; unfold cSMake at h; split at h
  · rename_i nd dd ag
    injection h with h; injection h with h hb; subst h
    exact callV_ok Esi0_ok af_sMake_ok (sMake_v nd dd ag (of_decide_eq_true ((Bool.and_eq_true _ _).mp hb).1) (of_decide_eq_true ((Bool.and_eq_true _ _).mp hb).2))
  · cases h
theorem rsMake_con : ∀ vs v, cSMake vs = some (v, true) → SpecV Tryd.prog 24 vs v := by
  intro vs v h; unfold cSMake at h; split at h
  · rename_i nd dd ag
    injection h with h; injection h with h hb; subst h
    exact callV_ok Esi0_ok af_rsMake_ok (rsMake_v nd dd ag (of_decide_eq_true ((Bool.and_eq_true _ _).mp hb).1) (of_decide_eq_true ((Bool.and_eq_true _ _).mp hb).2))
  · cases h
noncomputable def GEsi1 : List (Nat × Con) := [(109, .val [.bytes, .int .i64] cU16), (110, .val [.bytes, .int .i64] cU32), (23, .val [.agg [.int .i64, .int .i64, .int .u32]] cSMake)]

theorem GEsi1_ok : GOk Tryd.prog GEsi1 := .cons (enters_of Tryd.func109 (by kernel_rfl) rfl) U16_con <| .cons (enters_of Tryd.func110 (by kernel_rfl) rfl) U32_con <| .cons (enters_of Tryd.func23 (by kernel_rfl) rfl) sMake_con <| .nil

noncomputable def IEsi1 : List (Nat × AF) := []
theorem IEsi1_ok : IOk Tryd.prog IEsi1 := .nil
noncomputable def CEsi1 : List (Nat × (List Nat × (S → Option (Bool × Tr)))) := []
theorem CEsi1_ok : COk Tryd.prog CEsi1 := .nil
noncomputable def XEsi1 : List (Nat × (List Sh × (List V → PT))) := []
theorem XEsi1_ok : XOk Tryd.prog XEsi1 := .nil
noncomputable def Esi1 : Env := ⟨Tryd.prog, GEsi1, IEsi1, CEsi1, XEsi1⟩
theorem Esi1_ok : EnvOk Esi1 := ⟨by kernel_rfl, GEsi1_ok, IEsi1_ok, CEsi1_ok, XEsi1_ok⟩
theorem sSplit_t (a : List UInt8) : callV Esi1 af_sSplit [.barr 16 a] =
 bif
 andT true
 (decide ((0 : Int) ≤ (u32 (cutL a (0 : Nat) ((0 : Nat) + ((16 : Nat) - (0 : Nat)))) (12 : Int)).1) &&
 decide
 ((u32 (cutL a (0 : Nat) ((0 : Nat) + ((16 : Nat) - (0 : Nat)))) (12 : Int)).1 ≤ (4294967295 : Int))) then
 bif
 sidE (u16 (cutL a (0 : Nat) ((0 : Nat) + ((16 : Nat) - (0 : Nat)))) (8 : Int)).1
 (IntKind.i64.wrap (gt a (10 : Nat))) !=
 (0 : Int) then
 some
 (V.tup
 [V.agg [V.int IntKind.i64 (0 : Int), V.int IntKind.i64 (0 : Int), V.int IntKind.u32 (0 : Int)], V.bool false])
 else
 bif
 !sidR (u16 (cutL a (0 : Nat) ((0 : Nat) + ((16 : Nat) - (0 : Nat)))) (8 : Int)).1
 (IntKind.i64.wrap (gt a (10 : Nat)))
 (u32 (cutL a (0 : Nat) ((0 : Nat) + ((16 : Nat) - (0 : Nat)))) (12 : Int)).1 ==
 a then
 some
 (V.tup
 [V.agg [V.int IntKind.i64 (0 : Int), V.int IntKind.i64 (0 : Int), V.int IntKind.u32 (0 : Int)],
 V.bool false])
 else
 some
 (V.tup
 [V.agg
 [V.int IntKind.i64 (u16 (cutL a (0 : Nat) ((0 : Nat) + ((16 : Nat) - (0 : Nat)))) (8 : Int)).1,
 V.int IntKind.i64 (IntKind.i64.wrap (gt a (10 : Nat))),
 V.int IntKind.u32 (u32 (cutL a (0 : Nat) ((0 : Nat) + ((16 : Nat) - (0 : Nat)))) (12 : Int)).1],
 V.bool true])
 else none := by kernel_rfl

def spV (a : List UInt8) : V := .tup [.agg [.int .i64 (sidz (spB a) (gt a 8 * 256 + gt a 9)), .int .i64 (sidz (spB a) (gt a 10)), .int .u32 (sidz (spB a) (be32 a 12))], .bool (spB a)]
theorem be32_rng (a : List UInt8) (i : Nat) : 0 ≤ be32 a i ∧ be32 a i ≤ 4294967295 := by
  have := gt_lo a i; have := gt_hi a i
  have := gt_lo a (i + 1); have := gt_hi a (i + 1)
  have := gt_lo a (i + 2); have := gt_hi a (i + 2)
  have := gt_lo a (i + 3); have := gt_hi a (i + 3)
  unfold be32
  omega
theorem sSplit_v (a : List UInt8) (h : a.length = 16) : callV Esi1 af_sSplit [.barr 16 a] = some (spV a) := by
  rw [sSplit_t]
  have hc : cutL a 0 (0 + (16 - 0)) = a := by rw [cutL_zero, List.take_of_length_le (by omega)]
  have hu : (u16 a 8).1 = gt a 8 * 256 + gt a 9 := by unfold u16; rw [if_pos (by omega)]; rfl
  have hw : (u32 a 12).1 = be32 a 12 := by unfold u32; rw [if_pos (by omega)]; rfl
  have g8 := gt_lo a 8; have g8' := gt_hi a 8
  have g9 := gt_lo a 9; have g9' := gt_hi a 9
  have g10 := gt_lo a 10; have g10' := gt_hi a 10
  obtain ⟨r0, r1⟩ := be32_rng a 12
  have hE : sidE (gt a 8 * 256 + gt a 9) (gt a 10) = 0 := if_pos ⟨⟨by omega, by omega⟩, by omega, by omega⟩
  have hR : sidR (gt a 8 * 256 + gt a 9) (gt a 10) (be32 a 12) = sidA (gt a 8 * 256 + gt a 9) (gt a 10) (be32 a 12) := if_pos hE
  rw [hc, hu, hw, w64 (x := gt a 10) (by omega) (by omega), hE, hR]
  show (bif andT true _ then bif _ then _ else bif !spB a then _ else _ else none) = _
  unfold spV
  cases spB a with
  | true =>
    simp (disch := omega) only [dec_t, dec_f, inB_t, inC_t, andT_t, cond_true, cond_false, Bool.and_true, Bool.true_and, w64, wu32, wu8, nble_t, nblt_t, Bool.not_true, Bool.not_false, Bool.not_not, ieq_t, ieq_f, ine_t, ine_f, true_and, and_true, andT_l]
    rfl
  | false =>
    simp (disch := omega) only [dec_t, dec_f, inB_t, inC_t, andT_t, cond_true, cond_false, Bool.and_true, Bool.true_and, w64, wu32, wu8, nble_t, nblt_t, Bool.not_true, Bool.not_false, Bool.not_not, ieq_t, ieq_f, ine_t, ine_f, true_and, and_true, andT_l]
    rfl
def cSSplit : List V → Option (V × Bool)
  | [.barr 16 a] => some (.tup [.agg [.int .i64 (sidz (spB a) (gt a 8 * 256 + gt a 9)), .int .i64 (sidz (spB a) (gt a 10)), .int .u32 (sidz (spB a) (be32 a 12))], .bool (spB a)], decide (a.length = 16))
  | _ => none
theorem sSplit_con : ∀ vs v, cSSplit vs = some (v, true) → SpecV Tryd.prog 81 vs v := by
  intro vs v h; unfold cSSplit at h; split at h
  · rename_i a
    injection h with h; injection h with h hb; subst h
    exact callV_ok Esi1_ok af_sSplit_ok (sSplit_v a (of_decide_eq_true hb))
  · cases h
end Go.Proofs.YtbbgkhmlbickpaaDoor
