/- Part Gm of the proof: laws used by the law of this claim. -/
import Derived.Test.YtiiamikkamdjoaaDoorProg
import Derived.Test.YtiiamikkamdjoaaDoorRows
import Derived.LaidLaws
import Derived.KernelRfl
import Derived.Deep.DeepHandedRow
import Derived.Test.YtiiamikkamdjoaaDoorGe
import Derived.Test.YtiiamikkamdjoaaDoorGl
import Derived.Test.YtiiamikkamdjoaaDoorGk
import Derived.Test.YtiiamikkamdjoaaDoorGf
set_option linter.all false
namespace Go.Proofs.YtiiamikkamdjoaaDoor
open Go Go.Am Go.RowKit Go.Mix Go.Bas
set_option maxRecDepth 100000
def zB (c : Bool) (x : Int) : Int := if c then x else 0
def sidA (nd dd ag : Int) : List UInt8 := [0xfd, 0x6c, 0, 0x62, 0, 0, 0, 0, b8 (nd / 256), b8 nd, b8 dd, 0] ++ four ag
def sidE (nd dd : Int) : Int := if (0 ≤ nd ∧ nd ≤ 65535) ∧ (0 ≤ dd ∧ dd ≤ 255) then 0 else 2
def sidR (nd dd ag : Int) : List UInt8 := if sidE nd dd = 0 then sidA nd dd ag else List.replicate 16 0
def spB (a : List UInt8) : Bool := sidA (gt a 8 * 256 + gt a 9) (gt a 10) (be32 a 12) == a
noncomputable def af_sBlock : AF := afOf Tryd.prog Tryd.f65 []
theorem af_sBlock_ok : AllOk Tryd.prog 65 af_sBlock := .flat Tryd.func65 (by kernel_rfl) (by kernel_rfl) (by kernel_rfl) (by kernel_rfl) (by kernel_rfl)
noncomputable def af_sMake : AF := afOf Tryd.prog Tryd.f27 [.unr 5]
theorem af_sMake_ok : AllOk Tryd.prog 27 af_sMake := .flat Tryd.func27 (by kernel_rfl) (by kernel_rfl) (by kernel_rfl) (by kernel_rfl) (by kernel_rfl)
noncomputable def af_rsMake : AF := afOf Tryd.prog Tryd.f28 [.unr 5]
theorem af_rsMake_ok : AllOk Tryd.prog 28 af_rsMake := .flat Tryd.func28 (by kernel_rfl) (by kernel_rfl) (by kernel_rfl) (by kernel_rfl) (by kernel_rfl)
noncomputable def af_sSplit : AF := afOf Tryd.prog Tryd.f22 []
theorem af_sSplit_ok : AllOk Tryd.prog 22 af_sSplit := .flat Tryd.func22 (by kernel_rfl) (by kernel_rfl) (by kernel_rfl) (by kernel_rfl) (by kernel_rfl)
noncomputable def af_rsSplit : AF := afOf Tryd.prog Tryd.f23 []
theorem af_rsSplit_ok : AllOk Tryd.prog 23 af_rsSplit := .flat Tryd.func23 (by kernel_rfl) (by kernel_rfl) (by kernel_rfl) (by kernel_rfl) (by kernel_rfl)
noncomputable def af_sNode : AF := afOf Tryd.prog Tryd.f29 []
theorem af_sNode_ok : AllOk Tryd.prog 29 af_sNode := .flat Tryd.func29 (by kernel_rfl) (by kernel_rfl) (by kernel_rfl) (by kernel_rfl) (by kernel_rfl)
noncomputable def af_rsNode : AF := afOf Tryd.prog Tryd.f30 []
theorem af_rsNode_ok : AllOk Tryd.prog 30 af_rsNode := .flat Tryd.func30 (by kernel_rfl) (by kernel_rfl) (by kernel_rfl) (by kernel_rfl) (by kernel_rfl)
noncomputable def af_sIs : AF := afOf Tryd.prog Tryd.f24 []
theorem af_sIs_ok : AllOk Tryd.prog 24 af_sIs := .flat Tryd.func24 (by kernel_rfl) (by kernel_rfl) (by kernel_rfl) (by kernel_rfl) (by kernel_rfl)
noncomputable def af_rsIs : AF := afOf Tryd.prog Tryd.f25 []
theorem af_rsIs_ok : AllOk Tryd.prog 25 af_rsIs := .flat Tryd.func25 (by kernel_rfl) (by kernel_rfl) (by kernel_rfl) (by kernel_rfl) (by kernel_rfl)
noncomputable def GEsi0 : List (Nat × Con) := [(62, .val [.bytes, .int .i64] cU16), (63, .val [.bytes, .int .i64] cU32), (64, .val [.bytes, .int .i64] cU32), (68, .val [.int .i64] cTwo), (69, .val [.int .u32] cFour), (66, .app 5 aP16), (67, .app 5 aP32)]
theorem GEsi0_ok : GOk Tryd.prog GEsi0 := .cons (enters_of Tryd.func62 (by kernel_rfl) rfl) U16_con <| .cons (enters_of Tryd.func63 (by kernel_rfl) rfl) U32_con <| .cons (enters_of Tryd.func64 (by kernel_rfl) rfl) rU32_con <| .cons (enters_of Tryd.func68 (by kernel_rfl) rfl) Two_con <| .cons (enters_of Tryd.func69 (by kernel_rfl) rfl) Four_con <| .consA (enters_of Tryd.func66 (by kernel_rfl) rfl) Put16_app <| .consA (enters_of Tryd.func67 (by kernel_rfl) rfl) Put32_app <| .nil
noncomputable def IEsi0 : List (Nat × AF) := [(65, af_sBlock), (27, af_sMake), (28, af_rsMake)]
theorem IEsi0_ok : IOk Tryd.prog IEsi0 := .cons af_sBlock_ok <| .cons af_sMake_ok <| .cons af_rsMake_ok <| .nil
noncomputable def CEsi0 : List (Nat × (List Nat × (S → Option S))) := []
theorem CEsi0_ok : COk Tryd.prog CEsi0 := .nil
noncomputable def Esi0 : Env := ⟨Tryd.prog, GEsi0, IEsi0, CEsi0⟩
theorem Esi0_ok : EnvOk Esi0 := ⟨by kernel_rfl, GEsi0_ok, IEsi0_ok, CEsi0_ok⟩
theorem sMake_t (nd dd ag : Int) : callV Esi0 af_sMake [.agg [.int .i64 nd, .int .i64 dd, .int .u32 ag]] =
    bif decide (nd < (0 : Int)) then
        some (V.tup [V.barr (16 : Nat) (List.replicate (16 : Nat) (0 : UInt8)), V.int IntKind.i64 (2 : Int)])
      else
        bif decide (nd > (65535 : Int)) then
          some (V.tup [V.barr (16 : Nat) (List.replicate (16 : Nat) (0 : UInt8)), V.int IntKind.i64 (2 : Int)])
        else
          bif decide (dd < (0 : Int)) then
            some (V.tup [V.barr (16 : Nat) (List.replicate (16 : Nat) (0 : UInt8)), V.int IntKind.i64 (2 : Int)])
          else
            bif decide (dd > (255 : Int)) then
              some (V.tup [V.barr (16 : Nat) (List.replicate (16 : Nat) (0 : UInt8)), V.int IntKind.i64 (2 : Int)])
            else
              bif
                  andT true
                    (decide ((0 : Int) ≤ ag) && decide (ag < (4294967296 : Int)) &&
                      (two (64876 : Int) ++ two (98 : Int) ++ two (0 : Int) ++ two (0 : Int) ++ two nd ++
                                u8 (IntKind.u8.wrap dd) :: u8 (0 : Int) :: List.replicate (nat_lit 0) (0 : UInt8) ++
                              four ag).length.ble
                        (140737488355328 : Nat)) then
                some
                  (V.tup
                    [V.barr (16 : Nat)
                        (cpL (List.replicate (16 : Nat) (0 : UInt8)) (0 : Nat) (16 : Nat)
                          (two (64876 : Int) ++ two (98 : Int) ++ two (0 : Int) ++ two (0 : Int) ++ two nd ++
                              u8 (IntKind.u8.wrap dd) :: u8 (0 : Int) :: List.replicate (nat_lit 0) (0 : UInt8) ++
                            four ag)),
                      V.int IntKind.i64 (0 : Int)])
              else none := by kernel_rfl

theorem rsMake_t (nd dd ag : Int) : callV Esi0 af_rsMake [.agg [.int .i64 nd, .int .i64 dd, .int .u32 ag]] =
    bif decide (nd < (0 : Int)) then
        some (V.tup [V.barr (16 : Nat) (List.replicate (16 : Nat) (0 : UInt8)), V.int IntKind.i64 (2 : Int)])
      else
        bif decide (nd > (65535 : Int)) then
          some (V.tup [V.barr (16 : Nat) (List.replicate (16 : Nat) (0 : UInt8)), V.int IntKind.i64 (2 : Int)])
        else
          bif decide (dd < (0 : Int)) then
            some (V.tup [V.barr (16 : Nat) (List.replicate (16 : Nat) (0 : UInt8)), V.int IntKind.i64 (2 : Int)])
          else
            bif decide (dd > (255 : Int)) then
              some (V.tup [V.barr (16 : Nat) (List.replicate (16 : Nat) (0 : UInt8)), V.int IntKind.i64 (2 : Int)])
            else
              bif andT true (decide ((0 : Int) ≤ ag) && decide (ag < (4294967296 : Int))) && true then
                some
                  (V.tup
                    [V.barr (16 : Nat)
                        (((((((((((List.replicate (16 : Nat) (0 : UInt8)).set (0 : Nat) (u8 (253 : Int))).set (1 : Nat)
                                                          (u8 (108 : Int))).set
                                                      (3 : Nat) (u8 (98 : Int))).set
                                                  (8 : Nat) (u8 (gt (two nd) (0 : Nat)))).set
                                              (9 : Nat) (u8 (gt (two nd) (1 : Nat)))).set
                                          (10 : Nat) (u8 (IntKind.u8.wrap dd))).set
                                      (12 : Nat) (u8 (gt (four ag) (0 : Nat)))).set
                                  (13 : Nat) (u8 (gt (four ag) (1 : Nat)))).set
                              (14 : Nat) (u8 (gt (four ag) (2 : Nat)))).set
                          (15 : Nat) (u8 (gt (four ag) (3 : Nat)))),
                      V.int IntKind.i64 (0 : Int)])
              else none := by kernel_rfl

theorem u8_nat (x : UInt8) : u8 ((x.toNat : Nat) : Int) = x := by
  unfold u8
  simp
theorem sMake_v (nd dd ag : Int) (h0 : 0 ≤ ag) (h1 : ag ≤ 4294967295) : callV Esi0 af_sMake [.agg [.int .i64 nd, .int .i64 dd, .int .u32 ag]] = some (.tup [.barr 16 (sidR nd dd ag), .int .i64 (sidE nd dd)]) := by
  rw [sMake_t]
  by_cases h : (0 ≤ nd ∧ nd ≤ 65535) ∧ (0 ≤ dd ∧ dd ≤ 255)
  · have e : sidE nd dd = 0 := if_pos h
    unfold sidR
    rw [e, if_pos rfl]
    have hl : (two 64876 ++ two 98 ++ two 0 ++ two 0 ++ two nd ++ u8 (IntKind.u8.wrap dd) :: u8 (0 : Int) :: List.replicate (nat_lit 0) (0 : UInt8) ++ four ag).length = 16 := rfl
    have hx : cpL (List.replicate 16 0) 0 16 (two 64876 ++ two 98 ++ two 0 ++ two 0 ++ two nd ++ u8 (IntKind.u8.wrap dd) :: u8 (0 : Int) :: List.replicate (nat_lit 0) (0 : UInt8) ++ four ag) = sidA nd dd ag := rfl
    rw [hx, hl]
    simp (disch := omega) only [dec_t, dec_f, inB_t, inC_t, andT_t, cond_true, cond_false, Bool.and_true, Bool.true_and, w64, wu32, wu8, nble_t, nblt_t, Bool.not_true, Bool.not_false, Bool.not_not, ieq_t, ieq_f, ine_t, ine_f, true_and, and_true, andT_l]
  · have e : sidE nd dd = 2 := if_neg h
    unfold sidR
    rw [e, if_neg (by decide)]
    try simp only [andT_t, andT_f, cond_true, cond_false, Bool.and_true, Bool.true_and, beq_self_eq_true]
    repeat' (refine bcase (fun hbc => ?_) (fun hbc => ?_))
    all_goals try simp only [decide_eq_true_eq, beq_iff_eq, bne_iff_ne, ne_eq, Bool.and_eq_true, andT_and, inB_iff, inC_iff, nble_iff, nblt_iff, decide_eq_false_iff_not, Bool.not_eq_true', Bool.not_eq_false', beq_eq_false_iff_ne, bne_eq_false_iff_eq, Bool.true_and, Bool.and_true, inB_iff_f, inC_iff_f, nble_iff_f, Bool.or_eq_true, Bool.not_eq_true, Decidable.not_not] at *
    all_goals first | rfl | (exfalso; omega)
theorem rsMake_v (nd dd ag : Int) (h0 : 0 ≤ ag) (h1 : ag ≤ 4294967295) : callV Esi0 af_rsMake [.agg [.int .i64 nd, .int .i64 dd, .int .u32 ag]] = some (.tup [.barr 16 (sidR nd dd ag), .int .i64 (sidE nd dd)]) := by
  rw [rsMake_t]
  by_cases h : (0 ≤ nd ∧ nd ≤ 65535) ∧ (0 ≤ dd ∧ dd ≤ 255)
  · have e : sidE nd dd = 0 := if_pos h
    unfold sidR
    rw [e, if_pos rfl]
    have e0 : u8 (gt (two nd) 0) = b8 (nd / 256) := u8_nat _
    have e1 : u8 (gt (two nd) 1) = b8 nd := u8_nat _
    have f0 : u8 (gt (four ag) 0) = b8 (ag / 16777216) := u8_nat _
    have f1 : u8 (gt (four ag) 1) = b8 (ag / 65536) := u8_nat _
    have f2 : u8 (gt (four ag) 2) = b8 (ag / 256) := u8_nat _
    have f3 : u8 (gt (four ag) 3) = b8 ag := u8_nat _
    have hx : (((((((((((List.replicate 16 0).set 0 (u8 253)).set 1 (u8 108)).set 3 (u8 98)).set 8 (b8 (nd / 256))).set 9 (b8 nd)).set 10 (u8 (IntKind.u8.wrap dd))).set 12 (b8 (ag / 16777216))).set 13 (b8 (ag / 65536))).set 14 (b8 (ag / 256))).set 15 (b8 ag)) = sidA nd dd ag := rfl
    rw [e0, e1, f0, f1, f2, f3, hx]
    simp (disch := omega) only [dec_t, dec_f, inB_t, inC_t, andT_t, cond_true, cond_false, Bool.and_true, Bool.true_and, w64, wu32, wu8, nble_t, nblt_t, Bool.not_true, Bool.not_false, Bool.not_not, ieq_t, ieq_f, ine_t, ine_f, true_and, and_true, andT_l]
  · have e : sidE nd dd = 2 := if_neg h
    unfold sidR
    rw [e, if_neg (by decide)]
    try simp only [andT_t, andT_f, cond_true, cond_false, Bool.and_true, Bool.true_and, beq_self_eq_true]
    repeat' (refine bcase (fun hbc => ?_) (fun hbc => ?_))
    all_goals try simp only [decide_eq_true_eq, beq_iff_eq, bne_iff_ne, ne_eq, Bool.and_eq_true, andT_and, inB_iff, inC_iff, nble_iff, nblt_iff, decide_eq_false_iff_not, Bool.not_eq_true', Bool.not_eq_false', beq_eq_false_iff_ne, bne_eq_false_iff_eq, Bool.true_and, Bool.and_true, inB_iff_f, inC_iff_f, nble_iff_f, Bool.or_eq_true, Bool.not_eq_true, Decidable.not_not] at *
    all_goals first | rfl | (exfalso; omega)
def cSMake : List V → Option (V × Bool)
  | [.agg [.int .i64 nd, .int .i64 dd, .int .u32 ag]] => some (.tup [.barr 16 (sidR nd dd ag), .int .i64 (sidE nd dd)], (decide (0 ≤ ag) && decide (ag ≤ 4294967295)))
  | _ => none
theorem sMake_con : ∀ vs v, cSMake vs = some (v, true) → SpecV Tryd.prog 27 vs v := by
  intro vs v h; unfold cSMake at h; split at h
  · rename_i nd dd ag
    injection h with h; injection h with h hb; subst h
    exact callV_ok Esi0_ok af_sMake_ok (sMake_v nd dd ag (of_decide_eq_true ((Bool.and_eq_true _ _).mp hb).1) (of_decide_eq_true ((Bool.and_eq_true _ _).mp hb).2))
  · cases h
theorem rsMake_con : ∀ vs v, cSMake vs = some (v, true) → SpecV Tryd.prog 28 vs v := by
  intro vs v h; unfold cSMake at h; split at h
  · rename_i nd dd ag
    injection h with h; injection h with h hb; subst h
    exact callV_ok Esi0_ok af_rsMake_ok (rsMake_v nd dd ag (of_decide_eq_true ((Bool.and_eq_true _ _).mp hb).1) (of_decide_eq_true ((Bool.and_eq_true _ _).mp hb).2))
  · cases h
noncomputable def GEsi1 : List (Nat × Con) := [(62, .val [.bytes, .int .i64] cU16), (63, .val [.bytes, .int .i64] cU32), (64, .val [.bytes, .int .i64] cU32), (27, .val [.agg [.int .i64, .int .i64, .int .u32]] cSMake), (28, .val [.agg [.int .i64, .int .i64, .int .u32]] cSMake)]
theorem GEsi1_ok : GOk Tryd.prog GEsi1 := .cons (enters_of Tryd.func62 (by kernel_rfl) rfl) U16_con <| .cons (enters_of Tryd.func63 (by kernel_rfl) rfl) U32_con <| .cons (enters_of Tryd.func64 (by kernel_rfl) rfl) rU32_con <| .cons (enters_of Tryd.func27 (by kernel_rfl) rfl) sMake_con <| .cons (enters_of Tryd.func28 (by kernel_rfl) rfl) rsMake_con <| .nil
noncomputable def IEsi1 : List (Nat × AF) := []
theorem IEsi1_ok : IOk Tryd.prog IEsi1 := .nil
noncomputable def CEsi1 : List (Nat × (List Nat × (S → Option S))) := []
theorem CEsi1_ok : COk Tryd.prog CEsi1 := .nil
noncomputable def Esi1 : Env := ⟨Tryd.prog, GEsi1, IEsi1, CEsi1⟩
theorem Esi1_ok : EnvOk Esi1 := ⟨by kernel_rfl, GEsi1_ok, IEsi1_ok, CEsi1_ok⟩
theorem sSplit_t (a : List UInt8) : callV Esi1 af_sSplit [.barr 16 a] =
    bif
          andT true
            (decide ((0 : Int) ≤ (u32 (cutL a (0 : Nat) ((0 : Nat) + ((16 : Nat) - (0 : Nat)))) (12 : Int)).1) &&
              decide
                ((u32 (cutL a (0 : Nat) ((0 : Nat) + ((16 : Nat) - (0 : Nat)))) (12 : Int)).1 ≤ (4294967295 : Int))) then
        bif
            sidE (u16 (cutL a (0 : Nat) ((0 : Nat) + ((16 : Nat) - (0 : Nat)))) (8 : Int)).1
                (IntKind.i64.wrap (gt a (10 : Nat))) !=
              (0 : Int) then
          some
            (V.tup
              [V.agg [V.int IntKind.i64 (0 : Int), V.int IntKind.i64 (0 : Int), V.int IntKind.u32 (0 : Int)], V.bool false])
        else
          bif
              !sidR (u16 (cutL a (0 : Nat) ((0 : Nat) + ((16 : Nat) - (0 : Nat)))) (8 : Int)).1
                    (IntKind.i64.wrap (gt a (10 : Nat)))
                    (u32 (cutL a (0 : Nat) ((0 : Nat) + ((16 : Nat) - (0 : Nat)))) (12 : Int)).1 ==
                  a then
            some
              (V.tup
                [V.agg [V.int IntKind.i64 (0 : Int), V.int IntKind.i64 (0 : Int), V.int IntKind.u32 (0 : Int)],
                  V.bool false])
          else
            some
              (V.tup
                [V.agg
                    [V.int IntKind.i64 (u16 (cutL a (0 : Nat) ((0 : Nat) + ((16 : Nat) - (0 : Nat)))) (8 : Int)).1,
                      V.int IntKind.i64 (IntKind.i64.wrap (gt a (10 : Nat))),
                      V.int IntKind.u32 (u32 (cutL a (0 : Nat) ((0 : Nat) + ((16 : Nat) - (0 : Nat)))) (12 : Int)).1],
                  V.bool true])
      else none := by kernel_rfl

theorem rsSplit_t (a : List UInt8) : callV Esi1 af_rsSplit [.barr 16 a] =
    bif gt a (0 : Nat) != (253 : Int) then
        some
          (V.tup
            [V.agg [V.int IntKind.i64 (0 : Int), V.int IntKind.i64 (0 : Int), V.int IntKind.u32 (0 : Int)], V.bool false])
      else
        bif gt a (1 : Nat) != (108 : Int) then
          some
            (V.tup
              [V.agg [V.int IntKind.i64 (0 : Int), V.int IntKind.i64 (0 : Int), V.int IntKind.u32 (0 : Int)], V.bool false])
        else
          bif gt a (2 : Nat) != (0 : Int) then
            some
              (V.tup
                [V.agg [V.int IntKind.i64 (0 : Int), V.int IntKind.i64 (0 : Int), V.int IntKind.u32 (0 : Int)],
                  V.bool false])
          else
            bif gt a (3 : Nat) != (98 : Int) then
              some
                (V.tup
                  [V.agg [V.int IntKind.i64 (0 : Int), V.int IntKind.i64 (0 : Int), V.int IntKind.u32 (0 : Int)],
                    V.bool false])
            else
              bif gt a (4 : Nat) != (0 : Int) then
                some
                  (V.tup
                    [V.agg [V.int IntKind.i64 (0 : Int), V.int IntKind.i64 (0 : Int), V.int IntKind.u32 (0 : Int)],
                      V.bool false])
              else
                bif gt a (5 : Nat) != (0 : Int) then
                  some
                    (V.tup
                      [V.agg [V.int IntKind.i64 (0 : Int), V.int IntKind.i64 (0 : Int), V.int IntKind.u32 (0 : Int)],
                        V.bool false])
                else
                  bif gt a (6 : Nat) != (0 : Int) then
                    some
                      (V.tup
                        [V.agg [V.int IntKind.i64 (0 : Int), V.int IntKind.i64 (0 : Int), V.int IntKind.u32 (0 : Int)],
                          V.bool false])
                  else
                    bif gt a (7 : Nat) != (0 : Int) then
                      some
                        (V.tup
                          [V.agg [V.int IntKind.i64 (0 : Int), V.int IntKind.i64 (0 : Int), V.int IntKind.u32 (0 : Int)],
                            V.bool false])
                    else
                      bif gt a (11 : Nat) != (0 : Int) then
                        some
                          (V.tup
                            [V.agg [V.int IntKind.i64 (0 : Int), V.int IntKind.i64 (0 : Int), V.int IntKind.u32 (0 : Int)],
                              V.bool false])
                      else
                        some
                          (V.tup
                            [V.agg
                                [V.int IntKind.i64
                                    (IntKind.i64.wrap
                                      (IntKind.i64.wrap (IntKind.i64.wrap (gt a (8 : Nat)) * (256 : Int)) +
                                        IntKind.i64.wrap (gt a (9 : Nat)))),
                                  V.int IntKind.i64 (IntKind.i64.wrap (gt a (10 : Nat))),
                                  V.int IntKind.u32
                                    (u32 (cutL a (0 : Nat) ((0 : Nat) + ((16 : Nat) - (0 : Nat)))) (12 : Int)).1],
                              V.bool true]) := by kernel_rfl

theorem list16 {l : List UInt8} (h : l.length = 16) : ∃ a0 a1 a2 a3 a4 a5 a6 a7 a8 a9 a10 a11 a12 a13 a14 a15, l = [a0, a1, a2, a3, a4, a5, a6, a7, a8, a9, a10, a11, a12, a13, a14, a15] := by
  match l, h with
  | [a0, a1, a2, a3, a4, a5, a6, a7, a8, a9, a10, a11, a12, a13, a14, a15], _ => exact ⟨_, _, _, _, _, _, _, _, _, _, _, _, _, _, _, _, rfl⟩
theorem b8_of {n : Int} {x : UInt8} (h : n % 256 = (x.toNat : Int)) : b8 n = x := by
  unfold b8
  rw [h]
  simp
theorem nat_ofInt {x : UInt8} {n : Nat} (h : (x.toNat : Int) = n) : x = UInt8.ofNat n := by
  have : x.toNat = n := by omega
  rw [← this]
  simp
theorem spB_iff {a : List UInt8} (h : a.length = 16) : spB a = true ↔ gt a 0 = 253 ∧ gt a 1 = 108 ∧ gt a 2 = 0 ∧ gt a 3 = 98 ∧ gt a 4 = 0 ∧ gt a 5 = 0 ∧ gt a 6 = 0 ∧ gt a 7 = 0 ∧ gt a 11 = 0 := by
  obtain ⟨a0, a1, a2, a3, a4, a5, a6, a7, a8, a9, a10, a11, a12, a13, a14, a15, rfl⟩ := list16 h
  have l8 := a8.toNat_lt; have l9 := a9.toNat_lt; have l10 := a10.toNat_lt
  have l12 := a12.toNat_lt; have l13 := a13.toNat_lt; have l14 := a14.toNat_lt; have l15 := a15.toNat_lt
  have g : ∀ (x y : Int), x = y → x = y := fun _ _ h => h
  have e8 : b8 (((a8.toNat : Int) * 256 + a9.toNat) / 256) = a8 := b8_of (by omega)
  have e9 : b8 ((a8.toNat : Int) * 256 + a9.toNat) = a9 := b8_of (by omega)
  have e10 : b8 (a10.toNat : Int) = a10 := b8_of (by omega)
  have e12 : b8 (((((a12.toNat : Int) * 256 + a13.toNat) * 256 + a14.toNat) * 256 + a15.toNat) / 16777216) = a12 := b8_of (by omega)
  have e13 : b8 (((((a12.toNat : Int) * 256 + a13.toNat) * 256 + a14.toNat) * 256 + a15.toNat) / 65536) = a13 := b8_of (by omega)
  have e14 : b8 (((((a12.toNat : Int) * 256 + a13.toNat) * 256 + a14.toNat) * 256 + a15.toNat) / 256) = a14 := b8_of (by omega)
  have e15 : b8 ((((a12.toNat : Int) * 256 + a13.toNat) * 256 + a14.toNat) * 256 + a15.toNat) = a15 := b8_of (by omega)
  have e : spB [a0, a1, a2, a3, a4, a5, a6, a7, a8, a9, a10, a11, a12, a13, a14, a15] = ([0xfd, 0x6c, 0, 0x62, 0, 0, 0, 0, a8, a9, a10, 0, a12, a13, a14, a15] == [a0, a1, a2, a3, a4, a5, a6, a7, a8, a9, a10, a11, a12, a13, a14, a15]) := by
    show ([0xfd, 0x6c, 0, 0x62, 0, 0, 0, 0, b8 (((a8.toNat : Int) * 256 + a9.toNat) / 256), b8 ((a8.toNat : Int) * 256 + a9.toNat), b8 (a10.toNat : Int), 0, b8 (((((a12.toNat : Int) * 256 + a13.toNat) * 256 + a14.toNat) * 256 + a15.toNat) / 16777216), b8 (((((a12.toNat : Int) * 256 + a13.toNat) * 256 + a14.toNat) * 256 + a15.toNat) / 65536), b8 (((((a12.toNat : Int) * 256 + a13.toNat) * 256 + a14.toNat) * 256 + a15.toNat) / 256), b8 ((((a12.toNat : Int) * 256 + a13.toNat) * 256 + a14.toNat) * 256 + a15.toNat)] == _) = _
    rw [e8, e9, e10, e12, e13, e14, e15]
  rw [e, beq_iff_eq]
  show _ ↔ ((a0.toNat : Int) = 253 ∧ (a1.toNat : Int) = 108 ∧ (a2.toNat : Int) = 0 ∧ (a3.toNat : Int) = 98 ∧ (a4.toNat : Int) = 0 ∧ (a5.toNat : Int) = 0 ∧ (a6.toNat : Int) = 0 ∧ (a7.toNat : Int) = 0 ∧ (a11.toNat : Int) = 0)
  constructor
  · intro h
    injection h with h0 h; injection h with h1 h; injection h with h2 h; injection h with h3 h; injection h with h4 h; injection h with h5 h; injection h with h6 h; injection h with h7 h
    injection h with _ h; injection h with _ h; injection h with _ h; injection h with h11 h
    subst h0; subst h1; subst h2; subst h3; subst h4; subst h5; subst h6; subst h7; subst h11
    exact ⟨rfl, rfl, rfl, rfl, rfl, rfl, rfl, rfl, rfl⟩
  · rintro ⟨h0, h1, h2, h3, h4, h5, h6, h7, h11⟩
    rw [nat_ofInt (n := 253) h0, nat_ofInt (n := 108) h1, nat_ofInt (n := 0) h2, nat_ofInt (n := 98) h3, nat_ofInt (n := 0) h4, nat_ofInt (n := 0) h5, nat_ofInt (n := 0) h6, nat_ofInt (n := 0) h7, nat_ofInt (n := 0) h11]
    rfl
def spV (a : List UInt8) : V := .tup [.agg [.int .i64 (zB (spB a) (gt a 8 * 256 + gt a 9)), .int .i64 (zB (spB a) (gt a 10)), .int .u32 (zB (spB a) (be32 a 12))], .bool (spB a)]
theorem be32_rng (a : List UInt8) (i : Nat) : 0 ≤ be32 a i ∧ be32 a i ≤ 4294967295 := by
  have := gt_lo a i; have := gt_hi a i
  have := gt_lo a (i + 1); have := gt_hi a (i + 1)
  have := gt_lo a (i + 2); have := gt_hi a (i + 2)
  have := gt_lo a (i + 3); have := gt_hi a (i + 3)
  unfold be32
  omega
theorem sSplit_v (a : List UInt8) (h : a.length = 16) : callV Esi1 af_sSplit [.barr 16 a] = some (spV a) := by
  rw [sSplit_t]
  have hc : cutL a 0 (0 + (16 - 0)) = a := by rw [cutL_zero, List.take_of_length_le (by omega)]
  have hu : (u16 a 8).1 = gt a 8 * 256 + gt a 9 := by unfold u16; rw [if_pos (by omega)]; rfl
  have hw : (u32 a 12).1 = be32 a 12 := by unfold u32; rw [if_pos (by omega)]; rfl
  have g8 := gt_lo a 8; have g8' := gt_hi a 8
  have g9 := gt_lo a 9; have g9' := gt_hi a 9
  have g10 := gt_lo a 10; have g10' := gt_hi a 10
  obtain ⟨r0, r1⟩ := be32_rng a 12
  have hE : sidE (gt a 8 * 256 + gt a 9) (gt a 10) = 0 := if_pos ⟨⟨by omega, by omega⟩, by omega, by omega⟩
  have hR : sidR (gt a 8 * 256 + gt a 9) (gt a 10) (be32 a 12) = sidA (gt a 8 * 256 + gt a 9) (gt a 10) (be32 a 12) := if_pos hE
  rw [hc, hu, hw, w64 (x := gt a 10) (by omega) (by omega), hE, hR]
  show (bif andT true _ then bif _ then _ else bif !spB a then _ else _ else none) = _
  unfold spV
  cases spB a with
  | true =>
    simp (disch := omega) only [dec_t, dec_f, inB_t, inC_t, andT_t, cond_true, cond_false, Bool.and_true, Bool.true_and, w64, wu32, wu8, nble_t, nblt_t, Bool.not_true, Bool.not_false, Bool.not_not, ieq_t, ieq_f, ine_t, ine_f, true_and, and_true, andT_l]
    rfl
  | false =>
    simp (disch := omega) only [dec_t, dec_f, inB_t, inC_t, andT_t, cond_true, cond_false, Bool.and_true, Bool.true_and, w64, wu32, wu8, nble_t, nblt_t, Bool.not_true, Bool.not_false, Bool.not_not, ieq_t, ieq_f, ine_t, ine_f, true_and, and_true, andT_l]
    rfl
theorem rsSplit_v (a : List UInt8) (h : a.length = 16) : callV Esi1 af_rsSplit [.barr 16 a] = some (spV a) := by
  rw [rsSplit_t]
  have hc : cutL a 0 (0 + (16 - 0)) = a := by rw [cutL_zero, List.take_of_length_le (by omega)]
  have hw : (u32 a 12).1 = be32 a 12 := by unfold u32; rw [if_pos (by omega)]; rfl
  have g8 := gt_lo a 8; have g8' := gt_hi a 8
  have g9 := gt_lo a 9; have g9' := gt_hi a 9
  have g10 := gt_lo a 10; have g10' := gt_hi a 10
  have hi := spB_iff h
  rw [hc, hw]
  unfold spV
  cases hs : spB a with
  | true =>
    obtain ⟨h0, h1, h2, h3, h4, h5, h6, h7, h11⟩ := hi.1 hs
    simp (disch := omega) only [dec_t, dec_f, inB_t, inC_t, andT_t, cond_true, cond_false, Bool.and_true, Bool.true_and, w64, wu32, wu8, nble_t, nblt_t, Bool.not_true, Bool.not_false, Bool.not_not, ieq_t, ieq_f, ine_t, ine_f, true_and, and_true, andT_l]
    rfl
  | false =>
    have hn : ¬ (gt a 0 = 253 ∧ gt a 1 = 108 ∧ gt a 2 = 0 ∧ gt a 3 = 98 ∧ gt a 4 = 0 ∧ gt a 5 = 0 ∧ gt a 6 = 0 ∧ gt a 7 = 0 ∧ gt a 11 = 0) := fun h => by rw [hi.2 h] at hs; cases hs
    clear hi hs
    try simp only [andT_t, andT_f, cond_true, cond_false, Bool.and_true, Bool.true_and, beq_self_eq_true]
    repeat' (refine bcase (fun hbc => ?_) (fun hbc => ?_))
    all_goals try simp only [decide_eq_true_eq, beq_iff_eq, bne_iff_ne, ne_eq, Bool.and_eq_true, andT_and, inB_iff, inC_iff, nble_iff, nblt_iff, decide_eq_false_iff_not, Bool.not_eq_true', Bool.not_eq_false', beq_eq_false_iff_ne, bne_eq_false_iff_eq, Bool.true_and, Bool.and_true, inB_iff_f, inC_iff_f, nble_iff_f, Bool.or_eq_true, Bool.not_eq_true, Decidable.not_not] at *
    all_goals first | rfl | (exfalso; omega)
def cSSplit : List V → Option (V × Bool)
  | [.barr 16 a] => some (.tup [.agg [.int .i64 (zB (spB a) (gt a 8 * 256 + gt a 9)), .int .i64 (zB (spB a) (gt a 10)), .int .u32 (zB (spB a) (be32 a 12))], .bool (spB a)], decide (a.length = 16))
  | _ => none
theorem sSplit_con : ∀ vs v, cSSplit vs = some (v, true) → SpecV Tryd.prog 22 vs v := by
  intro vs v h; unfold cSSplit at h; split at h
  · rename_i a
    injection h with h; injection h with h hb; subst h
    exact callV_ok Esi1_ok af_sSplit_ok (sSplit_v a (of_decide_eq_true hb))
  · cases h
theorem rsSplit_con : ∀ vs v, cSSplit vs = some (v, true) → SpecV Tryd.prog 23 vs v := by
  intro vs v h; unfold cSSplit at h; split at h
  · rename_i a
    injection h with h; injection h with h hb; subst h
    exact callV_ok Esi1_ok af_rsSplit_ok (rsSplit_v a (of_decide_eq_true hb))
  · cases h
end Go.Proofs.YtiiamikkamdjoaaDoor

namespace Go.Proofs.YtiiamikkamdjoaaDoor
open Go Go.Am Go.RowKit Go.Mix Go.Bas
set_option maxRecDepth 100000
def cTrue : List V → Option (V × Bool)
  | [] => some (.bool true, true)
  | _ => none
noncomputable def af_xItoa : AF := afOf Tryd.prog Tryd.f70 []
theorem af_xItoa_ok : AllOk Tryd.prog 70 af_xItoa := .flat Tryd.func70 (by kernel_rfl) (by kernel_rfl) (by kernel_rfl) (by kernel_rfl) (by kernel_rfl)
noncomputable def af_xItoai : AF := afOf Tryd.prog Tryd.f90 []
theorem af_xItoai_ok : AllOk Tryd.prog 90 af_xItoai := .flat Tryd.func90 (by kernel_rfl) (by kernel_rfl) (by kernel_rfl) (by kernel_rfl) (by kernel_rfl)
noncomputable def af_xFmtI : AF := afOf Tryd.prog Tryd.f99 []
theorem af_xFmtI_ok : AllOk Tryd.prog 99 af_xFmtI := .flat Tryd.func99 (by kernel_rfl) (by kernel_rfl) (by kernel_rfl) (by kernel_rfl) (by kernel_rfl)
noncomputable def af_xSmall : AF := afOf Tryd.prog Tryd.f100 []
theorem af_xSmall_ok : AllOk Tryd.prog 100 af_xSmall := .flat Tryd.func100 (by kernel_rfl) (by kernel_rfl) (by kernel_rfl) (by kernel_rfl) (by kernel_rfl)
noncomputable def af_xFmtU : AF := afOf Tryd.prog Tryd.f72 []
theorem af_xFmtU_ok : AllOk Tryd.prog 72 af_xFmtU := .flat Tryd.func72 (by kernel_rfl) (by kernel_rfl) (by kernel_rfl) (by kernel_rfl) (by kernel_rfl)
noncomputable def af_xFmtUi : AF := afOf Tryd.prog Tryd.f91 []
theorem af_xFmtUi_ok : AllOk Tryd.prog 91 af_xFmtUi := .flat Tryd.func91 (by kernel_rfl) (by kernel_rfl) (by kernel_rfl) (by kernel_rfl) (by kernel_rfl)
noncomputable def af_sWord : AF := afOf Tryd.prog Tryd.f71 []
theorem af_sWord_ok : AllOk Tryd.prog 71 af_sWord := .flat Tryd.func71 (by kernel_rfl) (by kernel_rfl) (by kernel_rfl) (by kernel_rfl) (by kernel_rfl)
noncomputable def GEsi2 : List (Nat × Con) := []
theorem GEsi2_ok : GOk Tryd.prog GEsi2 := .nil
noncomputable def IEsi2 : List (Nat × AF) := [(90, af_xItoai), (99, af_xFmtI), (100, af_xSmall), (91, af_xFmtUi)]
theorem IEsi2_ok : IOk Tryd.prog IEsi2 := .cons af_xItoai_ok <| .cons af_xFmtI_ok <| .cons af_xSmall_ok <| .cons af_xFmtUi_ok <| .nil
noncomputable def CEsi2 : List (Nat × (List Nat × (S → Option S))) := []
theorem CEsi2_ok : COk Tryd.prog CEsi2 := .nil
noncomputable def Esi2 : Env := ⟨Tryd.prog, GEsi2, IEsi2, CEsi2⟩
theorem Esi2_ok : EnvOk Esi2 := ⟨by kernel_rfl, GEsi2_ok, IEsi2_ok, CEsi2_ok⟩
def cItoa3 : List V → Option (V × Bool)
  | [.int .i64 n] => some (.str [51], decide (n = 3))
  | _ => none
theorem xItoa_3 : callV Esi2 af_xItoa [.int .i64 3] = some (.str [51]) := by kernel_rfl
theorem xItoa_con : ∀ vs v, cItoa3 vs = some (v, true) → SpecV Tryd.prog 70 vs v := by
  intro vs v h; unfold cItoa3 at h; split at h
  · rename_i n
    injection h with h; injection h with h hb; subst h
    exact callV_ok Esi2_ok af_xItoa_ok ((by have e := of_decide_eq_true hb; subst e; exact xItoa_3))
  · cases h
def cWord5 : List V → Option (V × Bool)
  | [.int .i64 n] => some (.str [115, 116, 101, 101, 114], decide (n = 5))
  | _ => none
theorem sWord_5 : callV Esi2 af_sWord [.int .i64 5] = some (.str [115, 116, 101, 101, 114]) := by kernel_rfl
theorem sWord_con : ∀ vs v, cWord5 vs = some (v, true) → SpecV Tryd.prog 71 vs v := by
  intro vs v h; unfold cWord5 at h; split at h
  · rename_i n
    injection h with h; injection h with h hb; subst h
    exact callV_ok Esi2_ok af_sWord_ok ((by have e := of_decide_eq_true hb; subst e; exact sWord_5))
  · cases h
def cFmtU7 : List V → Option (V × Bool)
  | [.int .u64 n, .int .i64 b] => some (.str [55], decide (n = 7 ∧ b = 10))
  | _ => none
theorem xFmtU_7 : callV Esi2 af_xFmtU [.int .u64 7, .int .i64 10] = some (.str [55]) := by kernel_rfl
theorem xFmtU_con : ∀ vs v, cFmtU7 vs = some (v, true) → SpecV Tryd.prog 72 vs v := by
  intro vs v h; unfold cFmtU7 at h; split at h
  · rename_i n b
    injection h with h; injection h with h hb; subst h
    exact callV_ok Esi2_ok af_xFmtU_ok ((by obtain ⟨e, e'⟩ := of_decide_eq_true hb; subst e; subst e'; exact xFmtU_7))
  · cases h
noncomputable def af_sText : AF := afOf Tryd.prog Tryd.f31 []
theorem af_sText_ok : AllOk Tryd.prog 31 af_sText := .flat Tryd.func31 (by kernel_rfl) (by kernel_rfl) (by kernel_rfl) (by kernel_rfl) (by kernel_rfl)
noncomputable def af_lives12 : AF := afOf Tryd.prog Tryd.f26 []
theorem af_lives12_ok : AllOk Tryd.prog 26 af_lives12 := .flat Tryd.func26 (by kernel_rfl) (by kernel_rfl) (by kernel_rfl) (by kernel_rfl) (by kernel_rfl)
noncomputable def GEsi3 : List (Nat × Con) := [(27, .val [.agg [.int .i64, .int .i64, .int .u32]] cSMake), (22, .val [.barr 16] cSSplit), (70, .val [.int .i64] cItoa3), (71, .val [.int .i64] cWord5), (72, .val [.int .u64, .int .i64] cFmtU7)]
theorem GEsi3_ok : GOk Tryd.prog GEsi3 := .cons (enters_of Tryd.func27 (by kernel_rfl) rfl) sMake_con <| .cons (enters_of Tryd.func22 (by kernel_rfl) rfl) sSplit_con <| .cons (enters_of Tryd.func70 (by kernel_rfl) rfl) xItoa_con <| .cons (enters_of Tryd.func71 (by kernel_rfl) rfl) sWord_con <| .cons (enters_of Tryd.func72 (by kernel_rfl) rfl) xFmtU_con <| .nil
noncomputable def IEsi3 : List (Nat × AF) := [(24, af_sIs), (31, af_sText)]
theorem IEsi3_ok : IOk Tryd.prog IEsi3 := .cons af_sIs_ok <| .cons af_sText_ok <| .nil
noncomputable def CEsi3 : List (Nat × (List Nat × (S → Option S))) := []
theorem CEsi3_ok : COk Tryd.prog CEsi3 := .nil
noncomputable def Esi3 : Env := ⟨Tryd.prog, GEsi3, IEsi3, CEsi3⟩
theorem Esi3_ok : EnvOk Esi3 := ⟨by kernel_rfl, GEsi3_ok, IEsi3_ok, CEsi3_ok⟩
theorem lives12_v : callV Esi3 af_lives12 [] = some (.bool true) := by kernel_rfl
theorem lives12_con : ∀ vs v, cTrue vs = some (v, true) → SpecV Tryd.prog 26 vs v := by
  intro vs v h; unfold cTrue at h; split at h
  · injection h with h; injection h with h hb; subst h
    exact callV_ok Esi3_ok af_lives12_ok lives12_v
  · cases h
noncomputable def GEsi5 : List (Nat × Con) := [(22, .val [.barr 16] cSSplit), (23, .val [.barr 16] cSSplit)]
theorem GEsi5_ok : GOk Tryd.prog GEsi5 := .cons (enters_of Tryd.func22 (by kernel_rfl) rfl) sSplit_con <| .cons (enters_of Tryd.func23 (by kernel_rfl) rfl) rsSplit_con <| .nil
noncomputable def IEsi5 : List (Nat × AF) := []
theorem IEsi5_ok : IOk Tryd.prog IEsi5 := .nil
noncomputable def CEsi5 : List (Nat × (List Nat × (S → Option S))) := []
theorem CEsi5_ok : COk Tryd.prog CEsi5 := .nil
noncomputable def Esi5 : Env := ⟨Tryd.prog, GEsi5, IEsi5, CEsi5⟩
theorem Esi5_ok : EnvOk Esi5 := ⟨by kernel_rfl, GEsi5_ok, IEsi5_ok, CEsi5_ok⟩
theorem sIs_t (a : List UInt8) (nd dd : Int) : callV Esi5 af_sIs [.barr 16 a, .int .i64 nd, .int .i64 dd] =
    bif andT true (decide (a.length = (16 : Nat))) then
        bif spB a then
          some
            (V.bool
              (zB (spB a) (gt a (8 : Nat) * (256 : Int) + gt a (9 : Nat)) == nd &&
                (zB (spB a) (gt a (10 : Nat)) == dd &&
                  (zB (spB a) (be32 a (12 : Nat)) == zB (spB a) (be32 a (12 : Nat)) && true))))
        else some (V.bool false)
      else none := by kernel_rfl

theorem rsIs_t (a : List UInt8) (nd dd : Int) : callV Esi5 af_rsIs [.barr 16 a, .int .i64 nd, .int .i64 dd] =
    bif andT true (decide (a.length = (16 : Nat))) then
        bif spB a then
          bif zB (spB a) (gt a (8 : Nat) * (256 : Int) + gt a (9 : Nat)) == nd then
            some (V.bool (zB (spB a) (gt a (10 : Nat)) == dd))
          else some (V.bool false)
        else some (V.bool false)
      else none := by kernel_rfl

def sisB (a : List UInt8) (nd dd : Int) : Bool := spB a && (gt a 8 * 256 + gt a 9 == nd && gt a 10 == dd)
theorem sIs_v (a : List UInt8) (nd dd : Int) (h : a.length = 16) : callV Esi5 af_sIs [.barr 16 a, .int .i64 nd, .int .i64 dd] = some (.bool (sisB a nd dd)) := by
  rw [sIs_t, dec_t h]
  unfold sisB
  cases spB a with
  | true => simp [zB, andT]
  | false => rfl
theorem rsIs_v (a : List UInt8) (nd dd : Int) (h : a.length = 16) : callV Esi5 af_rsIs [.barr 16 a, .int .i64 nd, .int .i64 dd] = some (.bool (sisB a nd dd)) := by
  rw [rsIs_t, dec_t h]
  unfold sisB
  cases spB a with
  | true =>
    have e : ∀ x, zB true x = x := fun _ => rfl
    rw [e, e]
    cases (gt a 8 * 256 + gt a 9 == nd) <;> rfl
  | false => rfl
def cSIs : List V → Option (V × Bool)
  | [.barr 16 a, .int .i64 nd, .int .i64 dd] => some (.bool (sisB a nd dd), decide (a.length = 16))
  | _ => none
theorem sIs_con : ∀ vs v, cSIs vs = some (v, true) → SpecV Tryd.prog 24 vs v := by
  intro vs v h; unfold cSIs at h; split at h
  · rename_i a nd dd
    injection h with h; injection h with h hb; subst h
    exact callV_ok Esi5_ok af_sIs_ok (sIs_v a nd dd (of_decide_eq_true hb))
  · cases h
theorem rsIs_con : ∀ vs v, cSIs vs = some (v, true) → SpecV Tryd.prog 25 vs v := by
  intro vs v h; unfold cSIs at h; split at h
  · rename_i a nd dd
    injection h with h; injection h with h hb; subst h
    exact callV_ok Esi5_ok af_rsIs_ok (rsIs_v a nd dd (of_decide_eq_true hb))
  · cases h
noncomputable def af_SidSplits : AF := afOf Tryd.prog Tryd.f5 []
theorem af_SidSplits_ok : AllOk Tryd.prog 5 af_SidSplits := .flat Tryd.func5 (by kernel_rfl) (by kernel_rfl) (by kernel_rfl) (by kernel_rfl) (by kernel_rfl)
noncomputable def af_SidBack : AF := afOf Tryd.prog Tryd.f6 []
theorem af_SidBack_ok : AllOk Tryd.prog 6 af_SidBack := .flat Tryd.func6 (by kernel_rfl) (by kernel_rfl) (by kernel_rfl) (by kernel_rfl) (by kernel_rfl)
noncomputable def GEsi4 : List (Nat × Con) := [(26, .val [] cTrue), (27, .val [.agg [.int .i64, .int .i64, .int .u32]] cSMake), (28, .val [.agg [.int .i64, .int .i64, .int .u32]] cSMake), (22, .val [.barr 16] cSSplit), (23, .val [.barr 16] cSSplit), (24, .val [.barr 16, .int .i64, .int .i64] cSIs), (25, .val [.barr 16, .int .i64, .int .i64] cSIs)]
theorem GEsi4_ok : GOk Tryd.prog GEsi4 := .cons (enters_of Tryd.func26 (by kernel_rfl) rfl) lives12_con <| .cons (enters_of Tryd.func27 (by kernel_rfl) rfl) sMake_con <| .cons (enters_of Tryd.func28 (by kernel_rfl) rfl) rsMake_con <| .cons (enters_of Tryd.func22 (by kernel_rfl) rfl) sSplit_con <| .cons (enters_of Tryd.func23 (by kernel_rfl) rfl) rsSplit_con <| .cons (enters_of Tryd.func24 (by kernel_rfl) rfl) sIs_con <| .cons (enters_of Tryd.func25 (by kernel_rfl) rfl) rsIs_con <| .nil
noncomputable def IEsi4 : List (Nat × AF) := []
theorem IEsi4_ok : IOk Tryd.prog IEsi4 := .nil
noncomputable def CEsi4 : List (Nat × (List Nat × (S → Option S))) := []
theorem CEsi4_ok : COk Tryd.prog CEsi4 := .nil
noncomputable def Esi4 : Env := ⟨Tryd.prog, GEsi4, IEsi4, CEsi4⟩
theorem Esi4_ok : EnvOk Esi4 := ⟨by kernel_rfl, GEsi4_ok, IEsi4_ok, CEsi4_ok⟩
def sh_SidSplits : List Sh := [.barr 16, .int .i64, .int .i64]
def sh_SidBack : List Sh := [.agg [.int .i64, .int .i64, .int .u32], .barr 16]
theorem SidSplits_t (a : List UInt8) (nd : Int) (dd : Int) : callV Esi4 af_SidSplits [.barr 16 a, .int .i64 nd, .int .i64 dd] =
    bif andT true (decide (a.length = (16 : Nat))) then
        bif andT true (decide (a.length = (16 : Nat))) then
          bif
              zB (spB a) (gt a (8 : Nat) * (256 : Int) + gt a (9 : Nat)) ==
                  zB (spB a) (gt a (8 : Nat) * (256 : Int) + gt a (9 : Nat)) &&
                (zB (spB a) (gt a (10 : Nat)) == zB (spB a) (gt a (10 : Nat)) &&
                  (zB (spB a) (be32 a (12 : Nat)) == zB (spB a) (be32 a (12 : Nat)) && true)) then
            bif spB a == spB a then
              bif sisB a nd dd == sisB a nd dd then
                bif andT (andT true (decide (a.length = (16 : Nat)))) (decide (a.length = (16 : Nat))) && true then
                  some (V.bool true)
                else none
              else
                bif andT (andT true (decide (a.length = (16 : Nat)))) (decide (a.length = (16 : Nat))) && true then
                  some (V.bool false)
                else none
            else some (V.bool false)
          else some (V.bool false)
        else none
      else none := by kernel_rfl

theorem SidBack_t (nd : Int) (dd : Int) (ag : Int) (a : List UInt8) : callV Esi4 af_SidBack [.agg [.int .i64 nd, .int .i64 dd, .int .u32 ag], .barr 16 a] =
    bif andT true (decide ((0 : Int) ≤ ag) && decide (ag ≤ (4294967295 : Int))) then
        bif sidE nd dd == (0 : Int) then
          bif andT true (decide ((sidR nd dd ag).length = (16 : Nat))) then
            bif !spB (sidR nd dd ag) then some (V.bool false)
            else
              bif
                  !(zB (spB (sidR nd dd ag)) (gt (sidR nd dd ag) (8 : Nat) * (256 : Int) + gt (sidR nd dd ag) (9 : Nat)) ==
                        nd &&
                      (zB (spB (sidR nd dd ag)) (gt (sidR nd dd ag) (10 : Nat)) == dd &&
                        (zB (spB (sidR nd dd ag)) (be32 (sidR nd dd ag) (12 : Nat)) == ag && true))) then
                some (V.bool false)
              else
                bif andT true (decide (a.length = (16 : Nat))) then
                  bif spB a then
                    bif
                        andT true
                          (decide ((0 : Int) ≤ zB (spB a) (be32 a (12 : Nat))) &&
                            decide (zB (spB a) (be32 a (12 : Nat)) ≤ (4294967295 : Int))) then
                      bif
                          sidE (zB (spB a) (gt a (8 : Nat) * (256 : Int) + gt a (9 : Nat)))
                              (zB (spB a) (gt a (10 : Nat))) !=
                            (0 : Int) then
                        some (V.bool false)
                      else
                        bif
                            !sidR (zB (spB a) (gt a (8 : Nat) * (256 : Int) + gt a (9 : Nat)))
                                  (zB (spB a) (gt a (10 : Nat))) (zB (spB a) (be32 a (12 : Nat))) ==
                                a then
                          some (V.bool false)
                        else some (V.bool true)
                    else none
                  else some (V.bool true)
                else none
          else none
        else
          bif andT true (decide (a.length = (16 : Nat))) then
            bif spB a then
              bif
                  andT true
                    (decide ((0 : Int) ≤ zB (spB a) (be32 a (12 : Nat))) &&
                      decide (zB (spB a) (be32 a (12 : Nat)) ≤ (4294967295 : Int))) then
                bif
                    sidE (zB (spB a) (gt a (8 : Nat) * (256 : Int) + gt a (9 : Nat))) (zB (spB a) (gt a (10 : Nat))) !=
                      (0 : Int) then
                  some (V.bool false)
                else
                  bif
                      !sidR (zB (spB a) (gt a (8 : Nat) * (256 : Int) + gt a (9 : Nat))) (zB (spB a) (gt a (10 : Nat)))
                            (zB (spB a) (be32 a (12 : Nat))) ==
                          a then
                    some (V.bool false)
                  else some (V.bool true)
              else none
            else some (V.bool true)
          else none
      else none := by kernel_rfl

theorem SidSplits_v : ∀ xs, inRs 140737488351232 sh_SidSplits xs = true → callV Esi4 af_SidSplits xs = some (.bool true) := by
  intro xs h
  obtain ⟨zx1, zl1, rfl, zh1, zr1⟩ := inRs_cons h; clear h
  obtain ⟨a, rfl, ha⟩ := inR_barr zh1; clear zh1
  obtain ⟨zx2, zl2, rfl, zh2, zr2⟩ := inRs_cons zr1; clear zr1
  obtain ⟨nd, rfl, hnd0, hnd1⟩ := inR_i64 zh2; clear zh2
  obtain ⟨zx3, zl3, rfl, zh3, zr3⟩ := inRs_cons zr2; clear zr2
  obtain ⟨dd, rfl, hdd0, hdd1⟩ := inR_i64 zh3; clear zh3
  obtain rfl := inRs_nil zr3; clear zr3
  rw [SidSplits_t]
  simp only [beq_self_eq_true, Bool.and_true]
  simp (disch := omega) only [dec_t, dec_f, inB_t, inC_t, andT_t, cond_true, cond_false, Bool.and_true, Bool.true_and, w64, wu32, wu8, nble_t, nblt_t, Bool.not_true, Bool.not_false, Bool.not_not, ieq_t, ieq_f, ine_t, ine_f, true_and, and_true, andT_l]
theorem sidA_back {nd dd ag : Int} (h : sidE nd dd = 0) (h0 : 0 ≤ ag) (h1 : ag ≤ 4294967295) : gt (sidA nd dd ag) 8 * 256 + gt (sidA nd dd ag) 9 = nd ∧ gt (sidA nd dd ag) 10 = dd ∧ be32 (sidA nd dd ag) 12 = ag := by
  have hb : (0 ≤ nd ∧ nd ≤ 65535) ∧ (0 ≤ dd ∧ dd ≤ 255) := by
    unfold sidE at h
    split at h
    · assumption
    · cases h
  have e8 : gt (sidA nd dd ag) 8 = nd / 256 % 256 := b8_toNat _
  have e9 : gt (sidA nd dd ag) 9 = nd % 256 := b8_toNat _
  have e10 : gt (sidA nd dd ag) 10 = dd % 256 := b8_toNat _
  have e12 : gt (sidA nd dd ag) 12 = ag / 16777216 % 256 := b8_toNat _
  have e13 : gt (sidA nd dd ag) 13 = ag / 65536 % 256 := b8_toNat _
  have e14 : gt (sidA nd dd ag) 14 = ag / 256 % 256 := b8_toNat _
  have e15 : gt (sidA nd dd ag) 15 = ag % 256 := b8_toNat _
  refine ⟨by omega, by omega, ?_⟩
  unfold be32
  rw [e12, e13, e14, e15]
  omega
theorem SidBack_v : ∀ xs, inRs 140737488351232 sh_SidBack xs = true → callV Esi4 af_SidBack xs = some (.bool true) := by
  intro xs h
  obtain ⟨zx1, zl1, rfl, zh1, zr1⟩ := inRs_cons h; clear h
  obtain ⟨zg1, rfl, za1⟩ := inR_agg zh1; clear zh1
  obtain ⟨zx2, zl2, rfl, zh2, zr2⟩ := inRs_cons za1; clear za1
  obtain ⟨nd, rfl, hnd0, hnd1⟩ := inR_i64 zh2; clear zh2
  obtain ⟨zx3, zl3, rfl, zh3, zr3⟩ := inRs_cons zr2; clear zr2
  obtain ⟨dd, rfl, hdd0, hdd1⟩ := inR_i64 zh3; clear zh3
  obtain ⟨zx4, zl4, rfl, zh4, zr4⟩ := inRs_cons zr3; clear zr3
  obtain ⟨ag, rfl, hag0, hag1⟩ := inR_u32 zh4; clear zh4
  obtain rfl := inRs_nil zr4; clear zr4
  obtain ⟨zx5, zl5, rfl, zh5, zr5⟩ := inRs_cons zr1; clear zr1
  obtain ⟨a, rfl, ha⟩ := inR_barr zh5; clear zh5
  obtain rfl := inRs_nil zr5; clear zr5
  rw [SidBack_t]
  have z1 : ∀ x, zB true x = x := fun _ => rfl
  have g8 := gt_lo a 8; have g8' := gt_hi a 8
  have g9 := gt_lo a 9; have g9' := gt_hi a 9
  have g10 := gt_lo a 10; have g10' := gt_hi a 10
  obtain ⟨r0, r1⟩ := be32_rng a 12
  have hE : sidE (gt a 8 * 256 + gt a 9) (gt a 10) = 0 := if_pos ⟨⟨by omega, by omega⟩, by omega, by omega⟩
  have hR : sidR (gt a 8 * 256 + gt a 9) (gt a 10) (be32 a 12) = sidA (gt a 8 * 256 + gt a 9) (gt a 10) (be32 a 12) := if_pos hE
  have second : (bif andT true (decide (a.length = 16)) then bif spB a then bif andT true (decide (0 ≤ zB (spB a) (be32 a 12)) && decide (zB (spB a) (be32 a 12) ≤ 4294967295)) then
      bif sidE (zB (spB a) (gt a 8 * 256 + gt a 9)) (zB (spB a) (gt a 10)) != 0 then some (V.bool false) else
      bif !(sidR (zB (spB a) (gt a 8 * 256 + gt a 9)) (zB (spB a) (gt a 10)) (zB (spB a) (be32 a 12)) == a) then some (V.bool false) else some (V.bool true) else none else some (V.bool true) else none) = some (V.bool true) := by
    cases hs : spB a with
    | true =>
      rw [z1, z1, z1, hE, hR]
      have hq : (sidA (gt a 8 * 256 + gt a 9) (gt a 10) (be32 a 12) == a) = true := hs
      rw [hq]
      simp (disch := omega) only [dec_t, dec_f, inB_t, inC_t, andT_t, cond_true, cond_false, Bool.and_true, Bool.true_and, w64, wu32, wu8, nble_t, nblt_t, Bool.not_true, Bool.not_false, Bool.not_not, ieq_t, ieq_f, ine_t, ine_f, true_and, and_true, andT_l]
    | false =>
      simp (disch := omega) only [dec_t, dec_f, inB_t, inC_t, andT_t, cond_true, cond_false, Bool.and_true, Bool.true_and, w64, wu32, wu8, nble_t, nblt_t, Bool.not_true, Bool.not_false, Bool.not_not, ieq_t, ieq_f, ine_t, ine_f, true_and, and_true, andT_l]
  rw [second]
  by_cases he : sidE nd dd = 0
  · obtain ⟨k1, k2, k3⟩ := sidA_back he hag0 hag1
    have hA : sidR nd dd ag = sidA nd dd ag := if_pos he
    have hs : spB (sidA nd dd ag) = true := by
      unfold spB
      rw [k1, k2, k3]
      exact beq_self_eq_true _
    have hl : (sidA nd dd ag).length = 16 := rfl
    rw [hA, hs, k1, k2, k3, he, hl, dec_t rfl]
    simp only [z1, beq_self_eq_true]
    simp (disch := omega) only [dec_t, dec_f, inB_t, inC_t, andT_t, cond_true, cond_false, Bool.and_true, Bool.true_and, w64, wu32, wu8, nble_t, nblt_t, Bool.not_true, Bool.not_false, Bool.not_not, ieq_t, ieq_f, ine_t, ine_f, true_and, and_true, andT_l]
  · simp (disch := omega) only [dec_t, dec_f, inB_t, inC_t, andT_t, cond_true, cond_false, Bool.and_true, Bool.true_and, w64, wu32, wu8, nble_t, nblt_t, Bool.not_true, Bool.not_false, Bool.not_not, ieq_t, ieq_f, ine_t, ine_f, true_and, and_true, andT_l]
end Go.Proofs.YtiiamikkamdjoaaDoor

namespace Go.Proofs.YtiiamikkamdjoaaDoor
open Go Go.ChangeShapes Go.WideShapes Go.ChangeAt
def litC : DataW Unit → Value
  | .lit (.int k n) => .int k n
  | _ => Go.undef
def cellsD : DataW Unit → Array Value
  | .agg l => (l.map litC).toArray
  | _ => #[]
def putC (cs : Array Value) : Obj → Obj
  | .cells _ t frozen => .cells cs t frozen
  | o => o
noncomputable def laidW (os : Os) : World :=
  { World.holding Tryd.prog os ⟨#[], #[], []⟩ with heap := (((World.holding Tryd.prog os ⟨#[], #[], []⟩).heap.modify 2 (putC (cellsD Rows.laid_math_bits_deBruijn32tab))).modify 3 (putC (cellsD Rows.laid_math_bits_deBruijn64tab))).modify 0 (putC (cellsD Rows.laid_internal_strconv_uint64pow10)) }
theorem laid_met (os : Os) (args : Array Value) : laidMet Tryd.prog Rows.sidSplitsRow.laid ((laidW os).forCall (fun _ _ => 0) ⟨#[], args, []⟩).memory :=
  laidMet_of_run' 8 (by kernel_rfl) (by kernel_rfl)
end Go.Proofs.YtiiamikkamdjoaaDoor
