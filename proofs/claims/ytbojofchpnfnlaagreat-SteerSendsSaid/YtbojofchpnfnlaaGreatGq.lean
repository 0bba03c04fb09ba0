/- Part Gq of the proof: laws used by the law of this claim. -/
import Derived.Test.YtbojofchpnfnlaaGreatGt
import Derived.Test.YtbojofchpnfnlaaGreatGo
import Derived.Test.YtbojofchpnfnlaaGreatGi
import Derived.Test.YtbojofchpnfnlaaGreatGz
set_option linter.all false
namespace Go.Proofs.YtbojofchpnfnlaaGreat
open Go Go.Am Go.RowKit Go.Mix Go.Bas
set_option maxRecDepth 100000
noncomputable def af_pkReason : AF := afOf Tryz.prog Tryz.f13 []
theorem af_pkReason_ok : AllOk Tryz.prog 13 af_pkReason := .flat Tryz.func13 (by kernel_rfl) (by kernel_rfl) (by kernel_rfl) (by kernel_rfl) (by kernel_rfl)
noncomputable def af_rPkReason : AF := afOf Tryz.prog Tryz.f14 [.unr 7]
theorem af_rPkReason_ok : AllOk Tryz.prog 14 af_rPkReason := .flat Tryz.func14 (by kernel_rfl) (by kernel_rfl) (by kernel_rfl) (by kernel_rfl) (by kernel_rfl)
noncomputable def af_pkMade : AF := afOf Tryz.prog Tryz.f66 []
theorem af_pkMade_ok : AllOk Tryz.prog 66 af_pkMade := .flat Tryz.func66 (by kernel_rfl) (by kernel_rfl) (by kernel_rfl) (by kernel_rfl) (by kernel_rfl)
noncomputable def af_rPkMade : AF := afOf Tryz.prog Tryz.f85 []
theorem af_rPkMade_ok : AllOk Tryz.prog 85 af_rPkMade := .flat Tryz.func85 (by kernel_rfl) (by kernel_rfl) (by kernel_rfl) (by kernel_rfl) (by kernel_rfl)
noncomputable def GEpka : List (Nat × Con) := [(67, .app 5 aSxPut), (50, .val [.agg [.int .i64, .int .i64, .int .i64, .int .i64, .int .i64, .barr 16, .barr 16]] cRSxPut)]
theorem GEpka_ok : GOk Tryz.prog GEpka := .consA (enters_of Tryz.func67 (by kernel_rfl) rfl) sxPut_app <| .cons (enters_of Tryz.func50 (by kernel_rfl) rfl) rSxPut_con <| .nil
noncomputable def IEpka : List (Nat × AF) := []
theorem IEpka_ok : IOk Tryz.prog IEpka := .nil
noncomputable def CEpka : List (Nat × (List Nat × (S → Option (Bool × Tr)))) := []
theorem CEpka_ok : COk Tryz.prog CEpka := .nil
noncomputable def XEpka : List (Nat × (List Sh × (List V → PT))) := []
theorem XEpka_ok : XOk Tryz.prog XEpka := .nil
noncomputable def Epka : Env := ⟨Tryz.prog, GEpka, IEpka, CEpka, XEpka⟩
theorem Epka_ok : EnvOk Epka := ⟨by kernel_rfl, GEpka_ok, IEpka_ok, CEpka_ok, XEpka_ok⟩
theorem pkReason_t (e : Int) : callV Epka af_pkReason [.int .i64 e] =
 bif e == (0 : Int) then some (V.int IntKind.i64 (0 : Int))
 else
 bif e == (3 : Int) then some (V.int IntKind.i64 (1 : Int))
 else
 bif e == (6 : Int) then some (V.int IntKind.i64 (3 : Int))
 else
 bif e == (7 : Int) then some (V.int IntKind.i64 (4 : Int))
 else
 bif e == (4 : Int) then some (V.int IntKind.i64 (10 : Int))
 else bif e == (13 : Int) then some (V.int IntKind.i64 (9 : Int)) else some (V.int IntKind.i64 (2 : Int)) := by kernel_rfl

theorem rPkReason_t (e : Int) : callV Epka af_rPkReason [.int .i64 e] =
 bif (0 : Int) == e then some (V.int IntKind.i64 (0 : Int))
 else
 bif (3 : Int) == e then some (V.int IntKind.i64 (1 : Int))
 else
 bif (6 : Int) == e then some (V.int IntKind.i64 (3 : Int))
 else
 bif (7 : Int) == e then some (V.int IntKind.i64 (4 : Int))
 else
 bif (4 : Int) == e then some (V.int IntKind.i64 (10 : Int))
 else bif (13 : Int) == e then some (V.int IntKind.i64 (9 : Int)) else some (V.int IntKind.i64 (2 : Int)) := by kernel_rfl

theorem pkMade_t (s d b : List UInt8) (k : Int) : callV Epka af_pkMade [.barr 16 s, .barr 16 d, .int .i64 k, .bytes b] =
 bif decide ((↑b.length : Int) > (1460 : Int)) then
 some (V.tup [V.ownv (5 : Nat) (V.bytes []), V.int IntKind.i64 (4 : Int)])
 else
 bif
 andT
 (andT true ((hdX (0 : Int) (0 : Int) (↑b.length : Int) k (64 : Int) s d).length.ble (140737488355328 : Nat)))
 (((hdX (0 : Int) (0 : Int) (↑b.length : Int) k (64 : Int) s d ++ b).length * (1 : Nat)).ble
 (140737488355328 : Nat)) then
 some
 (V.tup
 [V.ownv (5 : Nat) (V.bytes (hdX (0 : Int) (0 : Int) (↑b.length : Int) k (64 : Int) s d ++ b)),
 V.int IntKind.i64 (0 : Int)])
 else none := by kernel_rfl

theorem rPkMade_t (s d b : List UInt8) (k : Int) : callV Epka af_rPkMade [.barr 16 s, .barr 16 d, .int .i64 k, .bytes b] =
 bif decide ((↑b.length : Int) > (1460 : Int)) then
 some (V.tup [V.ownv (5 : Nat) (V.bytes []), V.int IntKind.i64 (4 : Int)])
 else
 bif
 andT true
 (((hdX (0 : Int) (0 : Int) (↑b.length : Int) k (64 : Int) s d ++ b).length * (1 : Nat)).ble
 (140737488355328 : Nat)) then
 some
 (V.tup
 [V.ownv (5 : Nat) (V.bytes (hdX (0 : Int) (0 : Int) (↑b.length : Int) k (64 : Int) s d ++ b)),
 V.int IntKind.i64 (0 : Int)])
 else none := by kernel_rfl

def rsN (e : Int) : Int := if e = 0 then 0 else if e = 3 then 1 else if e = 6 then 3 else if e = 7 then 4 else if e = 4 then 10 else if e = 13 then 9 else 2
theorem pkReason_v (e : Int) : callV Epka af_pkReason [.int .i64 e] = some (.int .i64 (rsN e)) := by
  rw [pkReason_t]
  unfold rsN
  repeat' split
  all_goals
    simp (disch := omega) only [dec_t, dec_f, inB_t, inC_t, andT_t, cond_true, cond_false, Bool.and_true, Bool.true_and, w64, wu32, wu8, nble_t, nblt_t, Bool.not_true, Bool.not_false, Bool.not_not, ieq_t, ieq_f, ine_t, ine_f, true_and, and_true, andT_l]
theorem rPkReason_v (e : Int) : callV Epka af_rPkReason [.int .i64 e] = some (.int .i64 (rsN e)) := by
  rw [rPkReason_t]
  unfold rsN
  repeat' split
  all_goals
    simp (disch := omega) only [dec_t, dec_f, inB_t, inC_t, andT_t, cond_true, cond_false, Bool.and_true, Bool.true_and, w64, wu32, wu8, nble_t, nblt_t, Bool.not_true, Bool.not_false, Bool.not_not, ieq_t, ieq_f, ine_t, ine_f, true_and, and_true, andT_l]
def cReason : List V → Option (V × Bool)
  | [.int .i64 e] => some (.int .i64 (rsN e), true)
  | _ => none
theorem pkReason_con : ∀ vs v, cReason vs = some (v, true) → SpecV Tryz.prog 13 vs v := by
  intro vs v h; unfold cReason at h; split at h
  · rename_i e
    injection h with h; injection h with h hb; subst h
    exact callV_ok Epka_ok af_pkReason_ok (pkReason_v e)
  · cases h
theorem rPkReason_con : ∀ vs v, cReason vs = some (v, true) → SpecV Tryz.prog 14 vs v := by
  intro vs v h; unfold cReason at h; split at h
  · rename_i e
    injection h with h; injection h with h hb; subst h
    exact callV_ok Epka_ok af_rPkReason_ok (rPkReason_v e)
  · cases h
def mdE (b : List UInt8) : Int := if 1460 < b.length then 4 else 0
def mdB (s d b : List UInt8) (k : Int) : List UInt8 := if 1460 < b.length then [] else hdX 0 0 b.length k 64 s d ++ b
theorem pkMade_v (s d b : List UInt8) (k : Int) : callV Epka af_pkMade [.barr 16 s, .barr 16 d, .int .i64 k, .bytes b] = some (.tup [.ownv 5 (.bytes (mdB s d b k)), .int .i64 (mdE b)]) := by
  rw [pkMade_t]
  unfold mdB mdE
  by_cases h : 1460 < b.length
  · rw [if_pos h, if_pos h]
    simp (disch := omega) only [dec_t, dec_f, inB_t, inC_t, andT_t, cond_true, cond_false, Bool.and_true, Bool.true_and, w64, wu32, wu8, nble_t, nblt_t, Bool.not_true, Bool.not_false, Bool.not_not, ieq_t, ieq_f, ine_t, ine_f, true_and, and_true, andT_l]
  · have hx := hdX_len 0 0 b.length k 64 s d
    have hl : (hdX 0 0 b.length k 64 s d ++ b).length ≤ 140737488355328 := by rw [List.length_append]; omega
    rw [if_neg h, if_neg h]
    simp only [Nat.mul_one]
    simp (disch := omega) only [dec_t, dec_f, inB_t, inC_t, andT_t, cond_true, cond_false, Bool.and_true, Bool.true_and, w64, wu32, wu8, nble_t, nblt_t, Bool.not_true, Bool.not_false, Bool.not_not, ieq_t, ieq_f, ine_t, ine_f, true_and, and_true, andT_l]
theorem rPkMade_v (s d b : List UInt8) (k : Int) : callV Epka af_rPkMade [.barr 16 s, .barr 16 d, .int .i64 k, .bytes b] = some (.tup [.ownv 5 (.bytes (mdB s d b k)), .int .i64 (mdE b)]) := by
  rw [rPkMade_t]
  unfold mdB mdE
  by_cases h : 1460 < b.length
  · rw [if_pos h, if_pos h]
    simp (disch := omega) only [dec_t, dec_f, inB_t, inC_t, andT_t, cond_true, cond_false, Bool.and_true, Bool.true_and, w64, wu32, wu8, nble_t, nblt_t, Bool.not_true, Bool.not_false, Bool.not_not, ieq_t, ieq_f, ine_t, ine_f, true_and, and_true, andT_l]
  · have hx := hdX_len 0 0 b.length k 64 s d
    have hl : (hdX 0 0 b.length k 64 s d ++ b).length ≤ 140737488355328 := by rw [List.length_append]; omega
    rw [if_neg h, if_neg h]
    simp only [Nat.mul_one]
    simp (disch := omega) only [dec_t, dec_f, inB_t, inC_t, andT_t, cond_true, cond_false, Bool.and_true, Bool.true_and, w64, wu32, wu8, nble_t, nblt_t, Bool.not_true, Bool.not_false, Bool.not_not, ieq_t, ieq_f, ine_t, ine_f, true_and, and_true, andT_l]
def cMade : List V → Option (V × Bool)
  | [.barr 16 s, .barr 16 d, .int .i64 k, .bytes b] => some (.tup [.ownv 5 (.bytes (mdB s d b k)), .int .i64 (mdE b)], true)
  | _ => none
theorem pkMade_con : ∀ vs v, cMade vs = some (v, true) → SpecV Tryz.prog 66 vs v := by
  intro vs v h; unfold cMade at h; split at h
  · rename_i s d k b
    injection h with h; injection h with h hb; subst h
    exact callV_ok Epka_ok af_pkMade_ok (pkMade_v s d b k)
  · cases h
theorem rPkMade_con : ∀ vs v, cMade vs = some (v, true) → SpecV Tryz.prog 85 vs v := by
  intro vs v h; unfold cMade at h; split at h
  · rename_i s d k b
    injection h with h; injection h with h hb; subst h
    exact callV_ok Epka_ok af_rPkMade_ok (rPkMade_v s d b k)
  · cases h
end Go.Proofs.YtbojofchpnfnlaaGreat

namespace Go.Proofs.YtbojofchpnfnlaaGreat
open Go Go.Am Go.RowKit Go.Mix Go.Bas
set_option maxRecDepth 100000
noncomputable def af_pkTcp : AF := afOf Tryz.prog Tryz.f34 []
theorem af_pkTcp_ok : AllOk Tryz.prog 34 af_pkTcp := .flat Tryz.func34 (by kernel_rfl) (by kernel_rfl) (by kernel_rfl) (by kernel_rfl) (by kernel_rfl)
noncomputable def GEpkc : List (Nat × Con) := [(64, .val [.agg [.int .i64, .int .i64, .int .u32, .int .u32, .int .i64, .int .i64, .int .i64, .int .i64, .rows (.agg [.int .i64, .bytes]), .bytes]] cTcpPut), (65, .val [.barr 16, .barr 16, .agg [.int .i64, .int .i64, .int .u32, .int .u32, .int .i64, .int .i64, .int .i64, .int .i64, .rows (.agg [.int .i64, .bytes]), .bytes]] cTcSeal), (66, .val [.barr 16, .barr 16, .int .i64, .bytes] cMade)]

theorem GEpkc_ok : GOk Tryz.prog GEpkc := .cons (enters_of Tryz.func64 (by kernel_rfl) rfl) tcpPut_con <| .cons (enters_of Tryz.func65 (by kernel_rfl) rfl) tcSeal_con <| .cons (enters_of Tryz.func66 (by kernel_rfl) rfl) pkMade_con <| .nil

noncomputable def IEpkc : List (Nat × AF) := []
theorem IEpkc_ok : IOk Tryz.prog IEpkc := .nil
noncomputable def CEpkc : List (Nat × (List Nat × (S → Option (Bool × Tr)))) := []
theorem CEpkc_ok : COk Tryz.prog CEpkc := .nil
noncomputable def XEpkc : List (Nat × (List Sh × (List V → PT))) := []
theorem XEpkc_ok : XOk Tryz.prog XEpkc := .nil
noncomputable def Epkc : Env := ⟨Tryz.prog, GEpkc, IEpkc, CEpkc, XEpkc⟩
theorem Epkc_ok : EnvOk Epkc := ⟨by kernel_rfl, GEpkc_ok, IEpkc_ok, CEpkc_ok, XEpkc_ok⟩
theorem pkTcp_t (s d : List UInt8) (sp dp sq ak fl wn sm ug : Int) (op : List V) (pl : List UInt8) : callV Epkc af_pkTcp [.barr 16 s, .barr 16 d, .agg [.int .i64 sp, .int .i64 dp, .int .u32 sq, .int .u32 ak, .int .i64 fl, .int .i64 wn, .int .i64 sm, .int .i64 ug, .rows (.agg [.int .i64, .bytes]) op, .bytes pl]] =
 bif
 andT
 (andT true
 (decide (op.length ≤ (4611686018427387904 : Nat)) &&
 (smallL op &&
 decide (((0 : Int) ≤ sq ∧ sq ≤ (4294967295 : Int)) ∧ (0 : Int) ≤ ak ∧ ak ≤ (4294967295 : Int)))))
 (decide
 ((tcS s d
 { sp := sp, dp := dp, sq := sq, ak := ak, fl := fl, wn := wn, sm := sm, ug := ug, op := op, pl := pl }).9.length ≤
 (4611686018427387904 : Nat)) &&
 (smallL
 (tcS s d
 { sp := sp, dp := dp, sq := sq, ak := ak, fl := fl, wn := wn, sm := sm, ug := ug, op := op, pl := pl }).9 &&
 decide
 (((0 : Int) ≤
 (tcS s d
 { sp := sp, dp := dp, sq := sq, ak := ak, fl := fl, wn := wn, sm := sm, ug := ug, op := op, pl := pl }).3 ∧
 (tcS s d
 { sp := sp, dp := dp, sq := sq, ak := ak, fl := fl, wn := wn, sm := sm, ug := ug, op := op, pl := pl }).3 ≤
 (4294967295 : Int)) ∧
 (0 : Int) ≤
 (tcS s d
 { sp := sp, dp := dp, sq := sq, ak := ak, fl := fl, wn := wn, sm := sm, ug := ug, op := op, pl := pl }).4 ∧
 (tcS s d
 { sp := sp, dp := dp, sq := sq, ak := ak, fl := fl, wn := wn, sm := sm, ug := ug, op := op, pl := pl }).4 ≤
 (4294967295 : Int)))) then
 bif
 tcEr
 { sp := (tcS s d { sp := sp, dp := dp, sq := sq, ak := ak, fl := fl, wn := wn, sm := sm, ug := ug, op := op, pl := pl }).1, dp := (tcS s d { sp := sp, dp := dp, sq := sq, ak := ak, fl := fl, wn := wn, sm := sm, ug := ug, op := op, pl := pl }).2, sq := (tcS s d { sp := sp, dp := dp, sq := sq, ak := ak, fl := fl, wn := wn, sm := sm, ug := ug, op := op, pl := pl }).3, ak := (tcS s d { sp := sp, dp := dp, sq := sq, ak := ak, fl := fl, wn := wn, sm := sm, ug := ug, op := op, pl := pl }).4, fl := (tcS s d { sp := sp, dp := dp, sq := sq, ak := ak, fl := fl, wn := wn, sm := sm, ug := ug, op := op, pl := pl }).5, wn := (tcS s d { sp := sp, dp := dp, sq := sq, ak := ak, fl := fl, wn := wn, sm := sm, ug := ug, op := op, pl := pl }).6, sm := (tcS s d { sp := sp, dp := dp, sq := sq, ak := ak, fl := fl, wn := wn, sm := sm, ug := ug, op := op, pl := pl }).7, ug := (tcS s d { sp := sp, dp := dp, sq := sq, ak := ak, fl := fl, wn := wn, sm := sm, ug := ug, op := op, pl := pl }).8, op := (tcS s d { sp := sp, dp := dp, sq := sq, ak := ak, fl := fl, wn := wn, sm := sm, ug := ug, op := op, pl := pl }).9, pl := (tcS s d { sp := sp, dp := dp, sq := sq, ak := ak, fl := fl, wn := wn, sm := sm, ug := ug, op := op, pl := pl }).10 } !=
 (0 : Int) then
 some
 (V.tup
 [V.ownv (5 : Nat) (V.bytes []),
 V.int IntKind.i64
 (tcEr
 { sp := (tcS s d { sp := sp, dp := dp, sq := sq, ak := ak, fl := fl, wn := wn, sm := sm, ug := ug, op := op, pl := pl }).1, dp := (tcS s d { sp := sp, dp := dp, sq := sq, ak := ak, fl := fl, wn := wn, sm := sm, ug := ug, op := op, pl := pl }).2, sq := (tcS s d { sp := sp, dp := dp, sq := sq, ak := ak, fl := fl, wn := wn, sm := sm, ug := ug, op := op, pl := pl }).3, ak := (tcS s d { sp := sp, dp := dp, sq := sq, ak := ak, fl := fl, wn := wn, sm := sm, ug := ug, op := op, pl := pl }).4, fl := (tcS s d { sp := sp, dp := dp, sq := sq, ak := ak, fl := fl, wn := wn, sm := sm, ug := ug, op := op, pl := pl }).5, wn := (tcS s d { sp := sp, dp := dp, sq := sq, ak := ak, fl := fl, wn := wn, sm := sm, ug := ug, op := op, pl := pl }).6, sm := (tcS s d { sp := sp, dp := dp, sq := sq, ak := ak, fl := fl, wn := wn, sm := sm, ug := ug, op := op, pl := pl }).7, ug := (tcS s d { sp := sp, dp := dp, sq := sq, ak := ak, fl := fl, wn := wn, sm := sm, ug := ug, op := op, pl := pl }).8, op := (tcS s d { sp := sp, dp := dp, sq := sq, ak := ak, fl := fl, wn := wn, sm := sm, ug := ug, op := op, pl := pl }).9, pl := (tcS s d { sp := sp, dp := dp, sq := sq, ak := ak, fl := fl, wn := wn, sm := sm, ug := ug, op := op, pl := pl }).10 })])
 else
 some
 (V.tup
 [V.ownv (5 : Nat)
 (V.bytes
 (mdB s d
 (tcP
 { sp := (tcS s d { sp := sp, dp := dp, sq := sq, ak := ak, fl := fl, wn := wn, sm := sm, ug := ug, op := op, pl := pl }).1, dp := (tcS s d { sp := sp, dp := dp, sq := sq, ak := ak, fl := fl, wn := wn, sm := sm, ug := ug, op := op, pl := pl }).2, sq := (tcS s d { sp := sp, dp := dp, sq := sq, ak := ak, fl := fl, wn := wn, sm := sm, ug := ug, op := op, pl := pl }).3, ak := (tcS s d { sp := sp, dp := dp, sq := sq, ak := ak, fl := fl, wn := wn, sm := sm, ug := ug, op := op, pl := pl }).4, fl := (tcS s d { sp := sp, dp := dp, sq := sq, ak := ak, fl := fl, wn := wn, sm := sm, ug := ug, op := op, pl := pl }).5, wn := (tcS s d { sp := sp, dp := dp, sq := sq, ak := ak, fl := fl, wn := wn, sm := sm, ug := ug, op := op, pl := pl }).6, sm := (tcS s d { sp := sp, dp := dp, sq := sq, ak := ak, fl := fl, wn := wn, sm := sm, ug := ug, op := op, pl := pl }).7, ug := (tcS s d { sp := sp, dp := dp, sq := sq, ak := ak, fl := fl, wn := wn, sm := sm, ug := ug, op := op, pl := pl }).8, op := (tcS s d { sp := sp, dp := dp, sq := sq, ak := ak, fl := fl, wn := wn, sm := sm, ug := ug, op := op, pl := pl }).9, pl := (tcS s d { sp := sp, dp := dp, sq := sq, ak := ak, fl := fl, wn := wn, sm := sm, ug := ug, op := op, pl := pl }).10 })
 (6 : Int))),
 V.int IntKind.i64
 (mdE
 (tcP
 { sp := (tcS s d { sp := sp, dp := dp, sq := sq, ak := ak, fl := fl, wn := wn, sm := sm, ug := ug, op := op, pl := pl }).1, dp := (tcS s d { sp := sp, dp := dp, sq := sq, ak := ak, fl := fl, wn := wn, sm := sm, ug := ug, op := op, pl := pl }).2, sq := (tcS s d { sp := sp, dp := dp, sq := sq, ak := ak, fl := fl, wn := wn, sm := sm, ug := ug, op := op, pl := pl }).3, ak := (tcS s d { sp := sp, dp := dp, sq := sq, ak := ak, fl := fl, wn := wn, sm := sm, ug := ug, op := op, pl := pl }).4, fl := (tcS s d { sp := sp, dp := dp, sq := sq, ak := ak, fl := fl, wn := wn, sm := sm, ug := ug, op := op, pl := pl }).5, wn := (tcS s d { sp := sp, dp := dp, sq := sq, ak := ak, fl := fl, wn := wn, sm := sm, ug := ug, op := op, pl := pl }).6, sm := (tcS s d { sp := sp, dp := dp, sq := sq, ak := ak, fl := fl, wn := wn, sm := sm, ug := ug, op := op, pl := pl }).7, ug := (tcS s d { sp := sp, dp := dp, sq := sq, ak := ak, fl := fl, wn := wn, sm := sm, ug := ug, op := op, pl := pl }).8, op := (tcS s d { sp := sp, dp := dp, sq := sq, ak := ak, fl := fl, wn := wn, sm := sm, ug := ug, op := op, pl := pl }).9, pl := (tcS s d { sp := sp, dp := dp, sq := sq, ak := ak, fl := fl, wn := wn, sm := sm, ug := ug, op := op, pl := pl }).10 }))])
 else none := by kernel_rfl

def pkE (s d : List UInt8) (t : Tc) : Int := if tcEr (tcS s d t) = 0 then mdE (tcP (tcS s d t)) else tcEr (tcS s d t)
def pkB (s d : List UInt8) (t : Tc) : List UInt8 := if tcEr (tcS s d t) = 0 then mdB s d (tcP (tcS s d t)) 6 else []
theorem tcS_keep (s d : List UInt8) (t : Tc) : (tcS s d t).op = t.op ∧ (tcS s d t).sq = t.sq ∧ (tcS s d t).ak = t.ak := by
  unfold tcS
  split <;> exact ⟨rfl, rfl, rfl⟩
theorem pkTcp_v (s d : List UInt8) (t : Tc) (h : t.op.length ≤ 4611686018427387904) (hs : smallL t.op = true) (hq : u32ok t.sq) (ha : u32ok t.ak) : callV Epkc af_pkTcp [.barr 16 s, .barr 16 d, t.v] = some (.tup [.ownv 5 (.bytes (pkB s d t)), .int .i64 (pkE s d t)]) := by
  obtain ⟨f1, f2, f3⟩ := tcS_keep s d t
  unfold pkB pkE
  obtain ⟨sp, dp, sq, ak, fl, wn, sm, ug, op, pl⟩ := t
  rw [Tc.v, pkTcp_t]
  generalize tcS s d ⟨sp, dp, sq, ak, fl, wn, sm, ug, op, pl⟩ = T at *
  obtain ⟨sp', dp', sq', ak', fl', wn', sm', ug', op', pl'⟩ := T
  simp only at f1 f2 f3 h hs hq ha ⊢
  subst f1; subst f2; subst f3
  rw [hs]
  by_cases e : tcEr ⟨sp', dp', sq', ak', fl', wn', sm', ug', op', pl'⟩ = 0
  · rw [if_pos e, if_pos e]
    simp (disch := omega) only [dec_t, dec_f, inB_t, inC_t, andT_t, cond_true, cond_false, Bool.and_true, Bool.true_and, w64, wu32, wu8, nble_t, nblt_t, Bool.not_true, Bool.not_false, Bool.not_not, ieq_t, ieq_f, ine_t, ine_f, true_and, and_true, andT_l]
  · rw [if_neg e, if_neg e]
    simp (disch := omega) only [dec_t, dec_f, inB_t, inC_t, andT_t, cond_true, cond_false, Bool.and_true, Bool.true_and, w64, wu32, wu8, nble_t, nblt_t, Bool.not_true, Bool.not_false, Bool.not_not, ieq_t, ieq_f, ine_t, ine_f, true_and, and_true, andT_l]
def cPkTcp : List V → Option (V × Bool)
  | [.barr 16 s, .barr 16 d, .agg [.int .i64 sp, .int .i64 dp, .int .u32 sq, .int .u32 ak, .int .i64 fl, .int .i64 wn, .int .i64 sm, .int .i64 ug, .rows (.agg [.int .i64, .bytes]) op, .bytes pl]] => some (.tup [.ownv 5 (.bytes (pkB s d ⟨sp, dp, sq, ak, fl, wn, sm, ug, op, pl⟩)), .int .i64 (pkE s d ⟨sp, dp, sq, ak, fl, wn, sm, ug, op, pl⟩)], (decide (op.length ≤ 4611686018427387904) && (smallL op && decide (u32ok sq ∧ u32ok ak))))
  | _ => none
theorem pkTcp_con : ∀ vs v, cPkTcp vs = some (v, true) → SpecV Tryz.prog 34 vs v := by
  intro vs v h; unfold cPkTcp at h; split at h
  · rename_i s d sp dp sq ak fl wn sm ug op pl
    injection h with h; injection h with h hb; subst h
    exact callV_ok Epkc_ok af_pkTcp_ok ((cTcpPut_h hb).elim fun a b => pkTcp_v s d ⟨sp, dp, sq, ak, fl, wn, sm, ug, op, pl⟩ a b.1 b.2.1 b.2.2)
  · cases h
end Go.Proofs.YtbojofchpnfnlaaGreat

namespace Go.Proofs.YtbojofchpnfnlaaGreat
open Go Go.Am Go.RowKit Go.Mix Go.Bas
set_option maxRecDepth 100000
noncomputable def af_pkIcmp : AF := afOf Tryz.prog Tryz.f42 []
theorem af_pkIcmp_ok : AllOk Tryz.prog 42 af_pkIcmp := .flat Tryz.func42 (by kernel_rfl) (by kernel_rfl) (by kernel_rfl) (by kernel_rfl) (by kernel_rfl)
noncomputable def af_rPkIcmp : AF := afOf Tryz.prog Tryz.f46 []
theorem af_rPkIcmp_ok : AllOk Tryz.prog 46 af_rPkIcmp := .flat Tryz.func46 (by kernel_rfl) (by kernel_rfl) (by kernel_rfl) (by kernel_rfl) (by kernel_rfl)
noncomputable def GEpkd : List (Nat × Con) := [(82, .val [.barr 16, .barr 16, .agg [.int .i64, .int .i64, .int .u32, .bytes]] cPut), (84, .val [.barr 16, .barr 16, .agg [.int .i64, .int .i64, .int .u32, .bytes]] cPut), (66, .val [.barr 16, .barr 16, .int .i64, .bytes] cMade), (85, .val [.barr 16, .barr 16, .int .i64, .bytes] cMade)]
theorem GEpkd_ok : GOk Tryz.prog GEpkd := .cons (enters_of Tryz.func82 (by kernel_rfl) rfl) IPut_con <| .cons (enters_of Tryz.func84 (by kernel_rfl) rfl) rIPut_con <| .cons (enters_of Tryz.func66 (by kernel_rfl) rfl) pkMade_con <| .cons (enters_of Tryz.func85 (by kernel_rfl) rfl) rPkMade_con <| .nil
noncomputable def IEpkd : List (Nat × AF) := []
theorem IEpkd_ok : IOk Tryz.prog IEpkd := .nil
noncomputable def CEpkd : List (Nat × (List Nat × (S → Option (Bool × Tr)))) := []
theorem CEpkd_ok : COk Tryz.prog CEpkd := .nil
noncomputable def XEpkd : List (Nat × (List Sh × (List V → PT))) := []
theorem XEpkd_ok : XOk Tryz.prog XEpkd := .nil
noncomputable def Epkd : Env := ⟨Tryz.prog, GEpkd, IEpkd, CEpkd, XEpkd⟩
theorem Epkd_ok : EnvOk Epkd := ⟨by kernel_rfl, GEpkd_ok, IEpkd_ok, CEpkd_ok, XEpkd_ok⟩
theorem pkIcmp_t (s d : List UInt8) (kd cd wd : Int) (body : List UInt8) : callV Epkd af_pkIcmp [.barr 16 s, .barr 16 d, .agg [.int .i64 kd, .int .i64 cd, .int .u32 wd, .bytes body]] =
 bif andT true (decide (body.length ≤ (140737488351232 : Nat) ∧ (0 : Int) ≤ wd ∧ wd < (4294967296 : Int))) then
 bif (↑(putM s d kd cd wd body).length : Int) == (0 : Int) then
 some (V.tup [V.ownv (5 : Nat) (V.bytes []), V.int IntKind.i64 (2 : Int)])
 else
 some
 (V.tup
 [V.ownv (5 : Nat) (V.bytes (mdB s d (putM s d kd cd wd body) (58 : Int))),
 V.int IntKind.i64 (mdE (putM s d kd cd wd body))])
 else none := by kernel_rfl

theorem rPkIcmp_t (s d : List UInt8) (kd cd wd : Int) (body : List UInt8) : callV Epkd af_rPkIcmp [.barr 16 s, .barr 16 d, .agg [.int .i64 kd, .int .i64 cd, .int .u32 wd, .bytes body]] =
 bif andT true (decide (body.length ≤ (140737488351232 : Nat) ∧ (0 : Int) ≤ wd ∧ wd < (4294967296 : Int))) then
 bif (↑(putM s d kd cd wd body).length : Int) == (0 : Int) then
 some (V.tup [V.ownv (5 : Nat) (V.bytes []), V.int IntKind.i64 (2 : Int)])
 else
 some
 (V.tup
 [V.ownv (5 : Nat) (V.bytes (mdB s d (putM s d kd cd wd body) (58 : Int))),
 V.int IntKind.i64 (mdE (putM s d kd cd wd body))])
 else none := by kernel_rfl

def piE (s d : List UInt8) (kd cd wd : Int) (body : List UInt8) : Int := if (putM s d kd cd wd body).length = 0 then 2 else mdE (putM s d kd cd wd body)
def piB (s d : List UInt8) (kd cd wd : Int) (body : List UInt8) : List UInt8 := if (putM s d kd cd wd body).length = 0 then [] else mdB s d (putM s d kd cd wd body) 58
theorem pkIcmp_v (s d : List UInt8) (kd cd wd : Int) (body : List UInt8) (h : body.length ≤ 140737488351232 ∧ 0 ≤ wd ∧ wd < 4294967296) : callV Epkd af_pkIcmp [.barr 16 s, .barr 16 d, .agg [.int .i64 kd, .int .i64 cd, .int .u32 wd, .bytes body]] = some (.tup [.ownv 5 (.bytes (piB s d kd cd wd body)), .int .i64 (piE s d kd cd wd body)]) := by
  rw [pkIcmp_t]
  unfold piB piE
  by_cases h0 : (putM s d kd cd wd body).length = 0
  · rw [if_pos h0, if_pos h0]
    simp (disch := omega) only [dec_t, dec_f, inB_t, inC_t, andT_t, cond_true, cond_false, Bool.and_true, Bool.true_and, w64, wu32, wu8, nble_t, nblt_t, Bool.not_true, Bool.not_false, Bool.not_not, ieq_t, ieq_f, ine_t, ine_f, true_and, and_true, andT_l]
  · rw [if_neg h0, if_neg h0]
    simp (disch := omega) only [dec_t, dec_f, inB_t, inC_t, andT_t, cond_true, cond_false, Bool.and_true, Bool.true_and, w64, wu32, wu8, nble_t, nblt_t, Bool.not_true, Bool.not_false, Bool.not_not, ieq_t, ieq_f, ine_t, ine_f, true_and, and_true, andT_l]
theorem rPkIcmp_v (s d : List UInt8) (kd cd wd : Int) (body : List UInt8) (h : body.length ≤ 140737488351232 ∧ 0 ≤ wd ∧ wd < 4294967296) : callV Epkd af_rPkIcmp [.barr 16 s, .barr 16 d, .agg [.int .i64 kd, .int .i64 cd, .int .u32 wd, .bytes body]] = some (.tup [.ownv 5 (.bytes (piB s d kd cd wd body)), .int .i64 (piE s d kd cd wd body)]) := by
  rw [rPkIcmp_t]
  unfold piB piE
  by_cases h0 : (putM s d kd cd wd body).length = 0
  · rw [if_pos h0, if_pos h0]
    simp (disch := omega) only [dec_t, dec_f, inB_t, inC_t, andT_t, cond_true, cond_false, Bool.and_true, Bool.true_and, w64, wu32, wu8, nble_t, nblt_t, Bool.not_true, Bool.not_false, Bool.not_not, ieq_t, ieq_f, ine_t, ine_f, true_and, and_true, andT_l]
  · rw [if_neg h0, if_neg h0]
    simp (disch := omega) only [dec_t, dec_f, inB_t, inC_t, andT_t, cond_true, cond_false, Bool.and_true, Bool.true_and, w64, wu32, wu8, nble_t, nblt_t, Bool.not_true, Bool.not_false, Bool.not_not, ieq_t, ieq_f, ine_t, ine_f, true_and, and_true, andT_l]
def cPkIcmp : List V → Option (V × Bool)
  | [.barr 16 s, .barr 16 d, .agg [.int .i64 kd, .int .i64 cd, .int .u32 wd, .bytes body]] => some (.tup [.ownv 5 (.bytes (piB s d kd cd wd body)), .int .i64 (piE s d kd cd wd body)], decide (body.length ≤ 140737488351232 ∧ 0 ≤ wd ∧ wd < 4294967296))
  | _ => none
theorem pkIcmp_con : ∀ vs v, cPkIcmp vs = some (v, true) → SpecV Tryz.prog 42 vs v := by
  intro vs v h; unfold cPkIcmp at h; split at h
  · rename_i s d kd cd wd body
    injection h with h; injection h with h hb; subst h
    exact callV_ok Epkd_ok af_pkIcmp_ok (pkIcmp_v s d kd cd wd body (of_decide_eq_true hb))
  · cases h
theorem rPkIcmp_con : ∀ vs v, cPkIcmp vs = some (v, true) → SpecV Tryz.prog 46 vs v := by
  intro vs v h; unfold cPkIcmp at h; split at h
  · rename_i s d kd cd wd body
    injection h with h; injection h with h hb; subst h
    exact callV_ok Epkd_ok af_rPkIcmp_ok (rPkIcmp_v s d kd cd wd body (of_decide_eq_true hb))
  · cases h
end Go.Proofs.YtbojofchpnfnlaaGreat

namespace Go.Proofs.YtbojofchpnfnlaaGreat
open Go Go.Am Go.RowKit Go.Mix Go.Bas
set_option maxRecDepth 100000
end Go.Proofs.YtbojofchpnfnlaaGreat
