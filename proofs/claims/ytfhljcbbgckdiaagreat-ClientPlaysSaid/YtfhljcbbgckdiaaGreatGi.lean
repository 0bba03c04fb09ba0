/- Part Gi of the proof: laws used by the law of this claim. -/
import Derived.Test.YtfhljcbbgckdiaaGreatProg
import Derived.Test.YtfhljcbbgckdiaaGreatGd
import Derived.Test.YtfhljcbbgckdiaaGreatGe
import Derived.Test.YtfhljcbbgckdiaaGreatGc
import Derived.Test.YtfhljcbbgckdiaaGreatGf
set_option linter.all false
namespace Go.Proofs.YtfhljcbbgckdiaaGreat
open Go.RowKit Go.Mix Go.Bas
end Go.Proofs.YtfhljcbbgckdiaaGreat
namespace Go.Proofs.YtfhljcbbgckdiaaGreat
open Go Go.Am Go.RowKit Go.Mix Go.Bas
section
set_option maxRecDepth 100000
end
end Go.Proofs.YtfhljcbbgckdiaaGreat
namespace Go.Proofs.YtfhljcbbgckdiaaGreat
open Go Go.Am Go.RowKit Go.Mix Go.Bas
def parI (e x : Int) : Int := if e = 0 then x else 0
def parA (e : Int) (l : List UInt8) : List UInt8 := if e = 0 then l else List.replicate 16 0
def geE (b : List UInt8) : Int := if b.length < 40 then 3 else if gt b 0 / 16 = 6 then 0 else 5
def hC (b : List UInt8) : Int := parI (geE b) (gt b 0 % 16 * 16 + gt b 1 / 16)
def hS (b : List UInt8) : List UInt8 := parA (geE b) (cutL b 8 24)
def hD (b : List UInt8) : List UInt8 := parA (geE b) (cutL b 24 40)
set_option maxRecDepth 100000
end Go.Proofs.YtfhljcbbgckdiaaGreat
namespace Go.Proofs.YtfhljcbbgckdiaaGreat
open Go Go.Am Go.RowKit Go.Mix Go.Bas
set_option maxRecDepth 100000
noncomputable def af_IParse : AF := afOf Tryz.prog Tryz.f188 []
theorem af_IParse_ok : AllOk Tryz.prog 188 af_IParse := .flat Tryz.func188 (by kernel_rfl) (by kernel_rfl) (by kernel_rfl) (by kernel_rfl) (by kernel_rfl)
noncomputable def af_rIParse : AF := afOf Tryz.prog Tryz.f39 []
theorem af_rIParse_ok : AllOk Tryz.prog 39 af_rIParse := .flat Tryz.func39 (by kernel_rfl) (by kernel_rfl) (by kernel_rfl) (by kernel_rfl) (by kernel_rfl)
noncomputable def GE8b : List (Nat × Con) := [(113, .val [.bytes, .int .i64] cU32), (68, .val [.bytes, .int .i64] cU32), (176, .val [.barr 16, .barr 16, .int .i64, .bytes] cFine), (38, .val [.barr 16, .barr 16, .int .i64, .bytes] cFine), (121, .val [.bytes] cClone)]
theorem GE8b_ok : GOk Tryz.prog GE8b := .cons (enters_of Tryz.func113 (by kernel_rfl) rfl) U32_con <| .cons (enters_of Tryz.func68 (by kernel_rfl) rfl) rU32_con <| .cons (enters_of Tryz.func176 (by kernel_rfl) rfl) Fine_con <| .cons (enters_of Tryz.func38 (by kernel_rfl) rfl) rFine_con <| .cons (enters_of Tryz.func121 (by kernel_rfl) rfl) Clone_con <| .nil
noncomputable def IE8b : List (Nat × AF) := []
theorem IE8b_ok : IOk Tryz.prog IE8b := .nil
noncomputable def CE8b : List (Nat × (List Nat × (S → Option (Bool × Tr)))) := []
theorem CE8b_ok : COk Tryz.prog CE8b := .nil
noncomputable def XE8b : List (Nat × (List Sh × (List V → PT))) := []
theorem XE8b_ok : XOk Tryz.prog XE8b := .nil
noncomputable def E8b : Env := ⟨Tryz.prog, GE8b, IE8b, CE8b, XE8b, false⟩
theorem E8b_ok : EnvOk E8b := ⟨by kernel_rfl, GE8b_ok, IE8b_ok, CE8b_ok, XE8b_ok⟩
def ipE (s d b : List UInt8) : Int := if b.length < 8 then 3 else if both s d 58 b = 65535 then 0 else 6
def parL (e : Int) (l : List UInt8) : List UInt8 := if e = 0 then l else []
def ipV (s d b : List UInt8) : V := .tup [.agg [.int .i64 (parI (ipE s d b) (gt b 0)), .int .i64 (parI (ipE s d b) (gt b 1)), .int .u32 (parI (ipE s d b) (be32 b 4)), .bytes (parL (ipE s d b) (b.drop 8))], .int .i64 (ipE s d b)]
def cIParse : List V → Option (V × Bool)
 | [.barr 16 s, .barr 16 d, .bytes b] => some (ipV s d b, decide (b.length ≤ 1048576))
 | _ => none
theorem IParse_t (s d b : List UInt8) : callV E8b af_IParse [.barr 16 s, .barr 16 d, .bytes b] =
 bif decide ((↑b.length : Int) < (8 : Int)) then
 some
 (V.tup
 [V.agg [V.int IntKind.i64 0, V.int IntKind.i64 0, V.int IntKind.u32 0, V.bytes []],
 V.int IntKind.i64 3])
 else
 bif andT true (decide (b.length ≤ (140737488355327 : Nat))) then
 bif !both s d (58 : Int) b == (65535 : Int) then
 some
 (V.tup
 [V.agg [V.int IntKind.i64 0, V.int IntKind.i64 0, V.int IntKind.u32 0, V.bytes []],
 V.int IntKind.i64 6])
 else
 bif
 andT (andT (andT (andT true (inB (0 : Int) b.length)) (inB (1 : Int) b.length)) (Am.inC (8 : Int) b.length))
 (decide ((cutL b (8 : Nat) b.length).length ≤ (140737488355328 : Nat))) &&
 true then
 some
 (V.tup
 [V.agg
 [V.int IntKind.i64 (IntKind.i64.wrap (gt b (0 : Nat))),
 V.int IntKind.i64 (IntKind.i64.wrap (gt b (1 : Nat))), V.int IntKind.u32 (u32 b (4 : Int)).1,
 V.bytes (cutL b (8 : Nat) b.length)],
 V.int IntKind.i64 0])
 else none
 else none := by kernel_rfl
theorem rIParse_t (s d b : List UInt8) : callV E8b af_rIParse [.barr 16 s, .barr 16 d, .bytes b] =
 bif decide ((↑b.length : Int) < (8 : Int)) then
 some
 (V.tup
 [V.agg [V.int IntKind.i64 0, V.int IntKind.i64 0, V.int IntKind.u32 0, V.bytes []],
 V.int IntKind.i64 3])
 else
 bif andT true (decide (b.length ≤ (140737488355327 : Nat))) then
 bif !both s d (58 : Int) b == (65535 : Int) then
 some
 (V.tup
 [V.agg [V.int IntKind.i64 0, V.int IntKind.i64 0, V.int IntKind.u32 0, V.bytes []],
 V.int IntKind.i64 6])
 else
 bif
 andT (andT (andT (andT true (inB (0 : Int) b.length)) (inB (1 : Int) b.length)) (Am.inC (8 : Int) b.length))
 (((List.replicate (0 : Nat) (0 : UInt8) ++ cutL b (8 : Nat) b.length).length * (1 : Nat)).ble
 (140737488355328 : Nat)) &&
 true then
 some
 (V.tup
 [V.agg
 [V.int IntKind.i64 (IntKind.i64.wrap (gt b (0 : Nat))),
 V.int IntKind.i64 (IntKind.i64.wrap (gt b (1 : Nat))), V.int IntKind.u32 (u32 b (4 : Int)).1,
 V.bytes (List.replicate (0 : Nat) (0 : UInt8) ++ cutL b (8 : Nat) b.length)],
 V.int IntKind.i64 0])
 else none
 else none := by kernel_rfl
theorem IParse_v (s d b : List UInt8) (hb : b.length ≤ 1048576) : callV E8b af_IParse [.barr 16 s, .barr 16 d, .bytes b] = some (ipV s d b) := by
 rw [IParse_t]
 unfold ipV
 have g0 := gt_lo b 0; have g0' := gt_hi b 0
 have g1 := gt_lo b 1; have g1' := gt_hi b 1
 by_cases h : b.length < 8
 ·have he : ipE s d b = 3 := if_pos h
  rw [he]
  simp (disch := omega) only [dec_t, dec_f, inB_t, inC_t, andT_t, cond_true, cond_false, Bool.and_true, Bool.true_and, w64, wu32, wu8, nble_t, nblt_t, Bool.not_true, Bool.not_false, Bool.not_not]
  rfl
 ·have hu : (u32 b 4).1 = be32 b 4 := by unfold u32; rw [if_pos (by omega)]; rfl
  have hl : (cutL b 8 b.length).length ≤ 140737488355328 := by rw [length_cutL]; omega
  rw [hu]
  by_cases h2 : both s d 58 b = 65535
  ·have he : ipE s d b = 0 := by unfold ipE; rw [if_neg h, if_pos h2]
   rw [he, ieq_t h2]
   simp (disch := omega) only [dec_t, dec_f, inB_t, inC_t, andT_t, cond_true, cond_false, Bool.and_true, Bool.true_and, w64, wu32, wu8, nble_t, nblt_t, Bool.not_true, Bool.not_false, Bool.not_not]
   rw [cutL_all]
   rfl
  ·have he : ipE s d b = 6 := by unfold ipE; rw [if_neg h, if_neg h2]
   rw [he, ieq_f h2]
   simp (disch := omega) only [dec_t, dec_f, inB_t, inC_t, andT_t, cond_true, cond_false, Bool.and_true, Bool.true_and, w64, wu32, wu8, nble_t, nblt_t, Bool.not_true, Bool.not_false, Bool.not_not]
   rfl
theorem rIParse_v (s d b : List UInt8) (hb : b.length ≤ 1048576) : callV E8b af_rIParse [.barr 16 s, .barr 16 d, .bytes b] = some (ipV s d b) := by
 rw [rIParse_t]
 unfold ipV
 have g0 := gt_lo b 0; have g0' := gt_hi b 0
 have g1 := gt_lo b 1; have g1' := gt_hi b 1
 by_cases h : b.length < 8
 ·have he : ipE s d b = 3 := if_pos h
  rw [he]
  simp (disch := omega) only [dec_t, dec_f, inB_t, inC_t, andT_t, cond_true, cond_false, Bool.and_true, Bool.true_and, w64, wu32, wu8, nble_t, nblt_t, Bool.not_true, Bool.not_false, Bool.not_not]
  rfl
 ·have hu : (u32 b 4).1 = be32 b 4 := by unfold u32; rw [if_pos (by omega)]; rfl
  rw [List.replicate_zero, List.nil_append, cutL_all]
  have hl : (b.drop 8).length * 1 ≤ 140737488355328 := by rw [List.length_drop]; omega
  rw [hu]
  by_cases h2 : both s d 58 b = 65535
  ·have he : ipE s d b = 0 := by unfold ipE; rw [if_neg h, if_pos h2]
   rw [he, ieq_t h2, nble_t hl]
   simp (disch := omega) only [dec_t, dec_f, inB_t, inC_t, andT_t, cond_true, cond_false, Bool.and_true, Bool.true_and, w64, wu32, wu8, nble_t, nblt_t, Bool.not_true, Bool.not_false, Bool.not_not]
   rfl
  ·have he : ipE s d b = 6 := by unfold ipE; rw [if_neg h, if_neg h2]
   rw [he, ieq_f h2]
   simp (disch := omega) only [dec_t, dec_f, inB_t, inC_t, andT_t, cond_true, cond_false, Bool.and_true, Bool.true_and, w64, wu32, wu8, nble_t, nblt_t, Bool.not_true, Bool.not_false, Bool.not_not]
   rfl
theorem IParse_con : ∀ vs v, cIParse vs = some (v, true) → SpecV Tryz.prog 188 vs v := by
 intro vs v h; unfold cIParse at h; split at h
 ·rename_i s d b
  injection h with h; injection h with h hb; subst h
  exact callV_ok E8b_ok af_IParse_ok (IParse_v s d b (of_decide_eq_true hb))
 ·cases h
theorem rIParse_con : ∀ vs v, cIParse vs = some (v, true) → SpecV Tryz.prog 39 vs v := by
 intro vs v h; unfold cIParse at h; split at h
 ·rename_i s d b
  injection h with h; injection h with h hb; subst h
  exact callV_ok E8b_ok af_rIParse_ok (rIParse_v s d b (of_decide_eq_true hb))
 ·cases h
end Go.Proofs.YtfhljcbbgckdiaaGreat