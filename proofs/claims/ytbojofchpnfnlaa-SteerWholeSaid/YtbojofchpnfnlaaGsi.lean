/- Part Gsi of the proof: laws used by the law of this claim. -/
import Derived.Test.YtbojofchpnfnlaaProg
import Derived.Test.YtbojofchpnfnlaaGe
import Derived.Test.YtbojofchpnfnlaaGl
import Derived.Test.YtbojofchpnfnlaaGk
import Derived.Test.YtbojofchpnfnlaaGf
set_option linter.all false
namespace Go.Proofs.Ytbojofchpnfnlaa
open Go Go.Am Go.RowKit Go.Mix Go.Bas
set_option maxRecDepth 100000
def sidA (nd dd ag : Int) : List UInt8 := [0xfd, 0x6c, 0, 0x62, 0, 0, 0, 0, b8 (nd / 256), b8 nd, b8 dd, 0] ++ four ag
def sidE (nd dd : Int) : Int := if (0 ≤ nd ∧ nd ≤ 65535) ∧ (0 ≤ dd ∧ dd ≤ 255) then 0 else 2
def sidR (nd dd ag : Int) : List UInt8 := if sidE nd dd = 0 then sidA nd dd ag else List.replicate 16 0
noncomputable def af_sBlock : AF := afOf Try.prog Try.f193 []
theorem af_sBlock_ok : AllOk Try.prog 193 af_sBlock := .flat Try.func193 (by kernel_rfl) (by kernel_rfl) (by kernel_rfl) (by kernel_rfl) (by kernel_rfl)
noncomputable def af_sMake : AF := afOf Try.prog Try.f178 [.unr 5]
theorem af_sMake_ok : AllOk Try.prog 178 af_sMake := .flat Try.func178 (by kernel_rfl) (by kernel_rfl) (by kernel_rfl) (by kernel_rfl) (by kernel_rfl)
noncomputable def af_sNode : AF := afOf Try.prog Try.f149 []
theorem af_sNode_ok : AllOk Try.prog 149 af_sNode := .flat Try.func149 (by kernel_rfl) (by kernel_rfl) (by kernel_rfl) (by kernel_rfl) (by kernel_rfl)
noncomputable def GEsi0 : List (Nat × Con) := [(57, .app 5 aP16), (58, .app 5 aP32)]

theorem GEsi0_ok : GOk Try.prog GEsi0 := .consA (enters_of Try.func57 (by kernel_rfl) rfl) Put16_app <| .consA (enters_of Try.func58 (by kernel_rfl) rfl) Put32_app <| .nil

noncomputable def IEsi0 : List (Nat × AF) := [(193, af_sBlock)]

theorem IEsi0_ok : IOk Try.prog IEsi0 := .cons af_sBlock_ok <| .nil

noncomputable def CEsi0 : List (Nat × (List Nat × (S → Option S))) := []
theorem CEsi0_ok : COk Try.prog CEsi0 := .nil
noncomputable def XEsi0 : List (Nat × (List Sh × (List V → PT))) := []
theorem XEsi0_ok : XOk Try.prog XEsi0 := .nil
noncomputable def Esi0 : Env := ⟨Try.prog, GEsi0, IEsi0, CEsi0, XEsi0⟩
theorem Esi0_ok : EnvOk Esi0 := ⟨by kernel_rfl, GEsi0_ok, IEsi0_ok, CEsi0_ok, XEsi0_ok⟩
theorem sMake_t (nd dd ag : Int) : callV Esi0 af_sMake [.agg [.int .i64 nd, .int .i64 dd, .int .u32 ag]] =
 bif decide (nd < (0 : Int)) then
 some (V.tup [V.barr (16 : Nat) (List.replicate (16 : Nat) (0 : UInt8)), V.int IntKind.i64 (2 : Int)])
 else
 bif decide (nd > (65535 : Int)) then
 some (V.tup [V.barr (16 : Nat) (List.replicate (16 : Nat) (0 : UInt8)), V.int IntKind.i64 (2 : Int)])
 else
 bif decide (dd < (0 : Int)) then
 some (V.tup [V.barr (16 : Nat) (List.replicate (16 : Nat) (0 : UInt8)), V.int IntKind.i64 (2 : Int)])
 else
 bif decide (dd > (255 : Int)) then
 some (V.tup [V.barr (16 : Nat) (List.replicate (16 : Nat) (0 : UInt8)), V.int IntKind.i64 (2 : Int)])
 else
 bif
 andT true
 (decide ((0 : Int) ≤ ag) && decide (ag < (4294967296 : Int)) &&
 (two (64876 : Int) ++ two (98 : Int) ++ two (0 : Int) ++ two (0 : Int) ++ two nd ++
 u8 (IntKind.u8.wrap dd) :: u8 (0 : Int) :: List.replicate (nat_lit 0) (0 : UInt8) ++
 four ag).length.ble
 (140737488355328 : Nat)) then
 some
 (V.tup
 [V.barr (16 : Nat)
 (cpL (List.replicate (16 : Nat) (0 : UInt8)) (0 : Nat) (16 : Nat)
 (two (64876 : Int) ++ two (98 : Int) ++ two (0 : Int) ++ two (0 : Int) ++ two nd ++
 u8 (IntKind.u8.wrap dd) :: u8 (0 : Int) :: List.replicate (nat_lit 0) (0 : UInt8) ++
 four ag)),
 V.int IntKind.i64 (0 : Int)])
 else none := by kernel_rfl

theorem u8_nat (x : UInt8) : u8 ((x.toNat : Nat) : Int) = x := by
  unfold u8
  simp
theorem sMake_v (nd dd ag : Int) (h0 : 0 ≤ ag) (h1 : ag ≤ 4294967295) : callV Esi0 af_sMake [.agg [.int .i64 nd, .int .i64 dd, .int .u32 ag]] = some (.tup [.barr 16 (sidR nd dd ag), .int .i64 (sidE nd dd)]) := by
  rw [sMake_t]
  by_cases h : (0 ≤ nd ∧ nd ≤ 65535) ∧ (0 ≤ dd ∧ dd ≤ 255)
  · have e : sidE nd dd = 0 := if_pos h
    unfold sidR
    rw [e, if_pos rfl]
    have hl : (two 64876 ++ two 98 ++ two 0 ++ two 0 ++ two nd ++ u8 (IntKind.u8.wrap dd) :: u8 (0 : Int) :: List.replicate (nat_lit 0) (0 : UInt8) ++ four ag).length = 16 := rfl
    have hx : cpL (List.replicate 16 0) 0 16 (two 64876 ++ two 98 ++ two 0 ++ two 0 ++ two nd ++ u8 (IntKind.u8.wrap dd) :: u8 (0 : Int) :: List.replicate (nat_lit 0) (0 : UInt8) ++ four ag) = sidA nd dd ag := rfl
    rw [hx, hl]
    simp (disch := omega) only [dec_t, dec_f, inB_t, inC_t, andT_t, cond_true, cond_false, Bool.and_true, Bool.true_and, w64, wu32, wu8, nble_t, nblt_t, Bool.not_true, Bool.not_false, Bool.not_not, ieq_t, ieq_f, ine_t, ine_f, true_and, and_true, andT_l]
  · have e : sidE nd dd = 2 := if_neg h
    unfold sidR
    rw [e, if_neg (by decide)]
    try simp only [andT_t, andT_f, cond_true, cond_false, Bool.and_true, Bool.true_and, beq_self_eq_true]
    repeat' (refine bcase (fun hbc => ?_) (fun hbc => ?_))
    all_goals try simp only [decide_eq_true_eq, beq_iff_eq, bne_iff_ne, ne_eq, Bool.and_eq_true, andT_and, inB_iff, inC_iff, nble_iff, nblt_iff, decide_eq_false_iff_not, Bool.not_eq_true', Bool.not_eq_false', beq_eq_false_iff_ne, bne_eq_false_iff_eq, Bool.true_and, Bool.and_true, inB_iff_f, inC_iff_f, nble_iff_f, Bool.or_eq_true, Bool.not_eq_true, Decidable.not_not] at *
    all_goals first | rfl | (exfalso; omega)
def cSMake : List V → Option (V × Bool)
  | [.agg [.int .i64 nd, .int .i64 dd, .int .u32 ag]] => some (.tup [.barr 16 (sidR nd dd ag), .int .i64 (sidE nd dd)], (decide (0 ≤ ag) && decide (ag ≤ 4294967295)))
  | _ => none
theorem sMake_con : ∀ vs v, cSMake vs = some (v, true) → SpecV Try.prog 178 vs v := by
  intro vs v h; unfold cSMake at h; split at h
  · rename_i nd dd ag
    injection h with h; injection h with h hb; subst h
    exact callV_ok Esi0_ok af_sMake_ok (sMake_v nd dd ag (of_decide_eq_true ((Bool.and_eq_true _ _).mp hb).1) (of_decide_eq_true ((Bool.and_eq_true _ _).mp hb).2))
  · cases h
end Go.Proofs.Ytbojofchpnfnlaa
