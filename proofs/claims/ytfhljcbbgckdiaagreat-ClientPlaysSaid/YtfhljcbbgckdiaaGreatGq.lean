/- Part Gq of the proof: laws used by the law of this claim. -/
import Derived.Test.YtfhljcbbgckdiaaGreatGt
import Derived.Test.YtfhljcbbgckdiaaGreatGo
import Derived.Test.YtfhljcbbgckdiaaGreatGi
import Derived.Test.YtfhljcbbgckdiaaGreatGz
set_option linter.all false
namespace Go.Proofs.YtfhljcbbgckdiaaGreat
open Go Go.Am Go.RowKit Go.Mix Go.Bas
set_option maxRecDepth 100000
noncomputable def af_pkMade : AF := afOf Tryz.prog Tryz.f106 []
theorem af_pkMade_ok : AllOk Tryz.prog 106 af_pkMade := .flat Tryz.func106 (by kernel_rfl) (by kernel_rfl) (by kernel_rfl) (by kernel_rfl) (by kernel_rfl)
noncomputable def af_rPkMade : AF := afOf Tryz.prog Tryz.f54 []
theorem af_rPkMade_ok : AllOk Tryz.prog 54 af_rPkMade := .flat Tryz.func54 (by kernel_rfl) (by kernel_rfl) (by kernel_rfl) (by kernel_rfl) (by kernel_rfl)
noncomputable def GEpka : List (Nat × Con) := [(128, .app 5 aSxPut), (86, .val [.agg [.int .i64, .int .i64, .int .i64, .int .i64, .int .i64, .barr 16, .barr 16]] cRSxPut)]
theorem GEpka_ok : GOk Tryz.prog GEpka := .consA (enters_of Tryz.func128 (by kernel_rfl) rfl) sxPut_app <| .cons (enters_of Tryz.func86 (by kernel_rfl) rfl) rSxPut_con <| .nil
noncomputable def IEpka : List (Nat × AF) := []
theorem IEpka_ok : IOk Tryz.prog IEpka := .nil
noncomputable def CEpka : List (Nat × (List Nat × (S → Option (Bool × Tr)))) := []
theorem CEpka_ok : COk Tryz.prog CEpka := .nil
noncomputable def XEpka : List (Nat × (List Sh × (List V → PT))) := []
theorem XEpka_ok : XOk Tryz.prog XEpka := .nil
noncomputable def Epka : Env := ⟨Tryz.prog, GEpka, IEpka, CEpka, XEpka, false⟩
theorem Epka_ok : EnvOk Epka := ⟨by kernel_rfl, GEpka_ok, IEpka_ok, CEpka_ok, XEpka_ok⟩
theorem pkMade_t (s d b : List UInt8) (k : Int) : callV Epka af_pkMade [.barr 16 s, .barr 16 d, .int .i64 k, .bytes b] =
 bif decide ((↑b.length : Int) > (1460 : Int)) then
 some (V.tup [V.ownv (5 : Nat) (V.bytes []), V.int IntKind.i64 4])
 else
 bif
 andT
 (andT true ((hdX (0 : Int) (0 : Int) (↑b.length : Int) k (64 : Int) s d).length.ble (140737488355328 : Nat)))
 (((hdX (0 : Int) (0 : Int) (↑b.length : Int) k (64 : Int) s d ++ b).length * (1 : Nat)).ble
 (140737488355328 : Nat)) then
 some
 (V.tup
 [V.ownv (5 : Nat) (V.bytes (hdX (0 : Int) (0 : Int) (↑b.length : Int) k (64 : Int) s d ++ b)),
 V.int IntKind.i64 0])
 else none := by kernel_rfl
theorem rPkMade_t (s d b : List UInt8) (k : Int) : callV Epka af_rPkMade [.barr 16 s, .barr 16 d, .int .i64 k, .bytes b] =
 bif decide ((↑b.length : Int) > (1460 : Int)) then
 some (V.tup [V.ownv (5 : Nat) (V.bytes []), V.int IntKind.i64 4])
 else
 bif
 andT true
 (((hdX (0 : Int) (0 : Int) (↑b.length : Int) k (64 : Int) s d ++ b).length * (1 : Nat)).ble
 (140737488355328 : Nat)) then
 some
 (V.tup
 [V.ownv (5 : Nat) (V.bytes (hdX (0 : Int) (0 : Int) (↑b.length : Int) k (64 : Int) s d ++ b)),
 V.int IntKind.i64 0])
 else none := by kernel_rfl
def mdE (b : List UInt8) : Int := if 1460 < b.length then 4 else 0
def mdB (s d b : List UInt8) (k : Int) : List UInt8 := if 1460 < b.length then [] else hdX 0 0 b.length k 64 s d ++ b
theorem pkMade_v (s d b : List UInt8) (k : Int) : callV Epka af_pkMade [.barr 16 s, .barr 16 d, .int .i64 k, .bytes b] = some (.tup [.ownv 5 (.bytes (mdB s d b k)), .int .i64 (mdE b)]) := by
 rw [pkMade_t]
 unfold mdB mdE
 by_cases h : 1460 < b.length
 ·rw [if_pos h, if_pos h]
  simp (disch := omega) only [tre]
 ·have hx := hdX_len 0 0 b.length k 64 s d
  have hl : (hdX 0 0 b.length k 64 s d ++ b).length ≤ 140737488355328 := by rw [List.length_append]; omega
  rw [if_neg h, if_neg h]
  simp only [Nat.mul_one]
  simp (disch := omega) only [tre]
theorem rPkMade_v (s d b : List UInt8) (k : Int) : callV Epka af_rPkMade [.barr 16 s, .barr 16 d, .int .i64 k, .bytes b] = some (.tup [.ownv 5 (.bytes (mdB s d b k)), .int .i64 (mdE b)]) := by
 rw [rPkMade_t]
 unfold mdB mdE
 by_cases h : 1460 < b.length
 ·rw [if_pos h, if_pos h]
  simp (disch := omega) only [tre]
 ·have hx := hdX_len 0 0 b.length k 64 s d
  have hl : (hdX 0 0 b.length k 64 s d ++ b).length ≤ 140737488355328 := by rw [List.length_append]; omega
  rw [if_neg h, if_neg h]
  simp only [Nat.mul_one]
  simp (disch := omega) only [tre]
def cMade : List V → Option (V × Bool)
 | [.barr 16 s, .barr 16 d, .int .i64 k, .bytes b] => some (.tup [.ownv 5 (.bytes (mdB s d b k)), .int .i64 (mdE b)], true)
 | _ => none
theorem pkMade_con : ∀ vs v, cMade vs = some (v, true) → SpecV Tryz.prog 106 vs v := by
 intro vs v h; unfold cMade at h; split at h
 ·rename_i s d k b
  injection h with h; injection h with h hb; subst h
  exact callV_ok Epka_ok af_pkMade_ok (pkMade_v s d b k)
 ·cases h
theorem rPkMade_con : ∀ vs v, cMade vs = some (v, true) → SpecV Tryz.prog 54 vs v := by
 intro vs v h; unfold cMade at h; split at h
 ·rename_i s d k b
  injection h with h; injection h with h hb; subst h
  exact callV_ok Epka_ok af_rPkMade_ok (rPkMade_v s d b k)
 ·cases h
theorem rTcSeal_v (s d : List UInt8) (t : Tc) (h : t.op.length ≤ 4611686018427387904) (hs : smallL t.op = true) (hq : u32ok t.sq) (ha : u32ok t.ak) : callV Etcf af_rTcSeal [.barr 16 s, .barr 16 d, t.v] = some (tcS s d t).v := by
 unfold tcS
 have h0 : tcEr t = 0 → tcEr { t with sm := 0 } = 0 := fun e => tcEr_sm e (by decide)
 have hl : tcEr t = 0 → (tcP { t with sm := 0 }).length ≤ 140737488355327 := fun e => Nat.le_trans (tcp_len (h0 e)).2 (by decide)
 obtain ⟨sp, dp, sq, ak, fl, wn, sm, ug, op, pl⟩ := t
 simp only at h hs hq ha h0 hl
 rw [Tc.v, rTcSeal_t, hs]
 by_cases e : tcEr ⟨sp, dp, sq, ak, fl, wn, sm, ug, op, pl⟩ = 0
 ·have h0 := h0 e
  have hl := hl e
  rw [if_pos e]
  simp (disch := omega) only [tre]
  rfl
 ·rw [if_neg e]
  simp (disch := omega) only [tre]
  rfl
theorem rTcSeal_con : ∀ vs v, cTcSeal vs = some (v, true) → SpecV Tryz.prog 53 vs v := by
 intro vs v h; unfold cTcSeal at h; split at h
 ·rename_i s d sp dp sq ak fl wn sm ug op pl
  injection h with h; injection h with h hb; subst h
  exact callV_ok Etcf_ok af_rTcSeal_ok ((cTcpPut_h hb).elim fun a b => rTcSeal_v s d ⟨sp, dp, sq, ak, fl, wn, sm, ug, op, pl⟩ a b.1 b.2.1 b.2.2)
 ·cases h
noncomputable def af_pkTcp : AF := afOf Tryz.prog Tryz.f80 []
theorem af_pkTcp_ok : AllOk Tryz.prog 80 af_pkTcp := .flat Tryz.func80 (by kernel_rfl) (by kernel_rfl) (by kernel_rfl) (by kernel_rfl) (by kernel_rfl)
noncomputable def af_rPkTcp : AF := afOf Tryz.prog Tryz.f25 []
theorem af_rPkTcp_ok : AllOk Tryz.prog 25 af_rPkTcp := .flat Tryz.func25 (by kernel_rfl) (by kernel_rfl) (by kernel_rfl) (by kernel_rfl) (by kernel_rfl)
noncomputable def GEpkc : List (Nat × Con) := [(104, .val [.agg [.int .i64, .int .i64, .int .u32, .int .u32, .int .i64, .int .i64, .int .i64, .int .i64, .rows (.agg [.int .i64, .bytes]), .bytes]] cTcpPut), (52, .val [.agg [.int .i64, .int .i64, .int .u32, .int .u32, .int .i64, .int .i64, .int .i64, .int .i64, .rows (.agg [.int .i64, .bytes]), .bytes]] cTcpPut), (105, .val [.barr 16, .barr 16, .agg [.int .i64, .int .i64, .int .u32, .int .u32, .int .i64, .int .i64, .int .i64, .int .i64, .rows (.agg [.int .i64, .bytes]), .bytes]] cTcSeal), (53, .val [.barr 16, .barr 16, .agg [.int .i64, .int .i64, .int .u32, .int .u32, .int .i64, .int .i64, .int .i64, .int .i64, .rows (.agg [.int .i64, .bytes]), .bytes]] cTcSeal), (106, .val [.barr 16, .barr 16, .int .i64, .bytes] cMade), (54, .val [.barr 16, .barr 16, .int .i64, .bytes] cMade)]
theorem GEpkc_ok : GOk Tryz.prog GEpkc := .cons (enters_of Tryz.func104 (by kernel_rfl) rfl) tcpPut_con <| .cons (enters_of Tryz.func52 (by kernel_rfl) rfl) rTcpPut_con <| .cons (enters_of Tryz.func105 (by kernel_rfl) rfl) tcSeal_con <| .cons (enters_of Tryz.func53 (by kernel_rfl) rfl) rTcSeal_con <| .cons (enters_of Tryz.func106 (by kernel_rfl) rfl) pkMade_con <| .cons (enters_of Tryz.func54 (by kernel_rfl) rfl) rPkMade_con <| .nil
noncomputable def IEpkc : List (Nat × AF) := []
theorem IEpkc_ok : IOk Tryz.prog IEpkc := .nil
noncomputable def CEpkc : List (Nat × (List Nat × (S → Option (Bool × Tr)))) := []
theorem CEpkc_ok : COk Tryz.prog CEpkc := .nil
noncomputable def XEpkc : List (Nat × (List Sh × (List V → PT))) := []
theorem XEpkc_ok : XOk Tryz.prog XEpkc := .nil
noncomputable def Epkc : Env := ⟨Tryz.prog, GEpkc, IEpkc, CEpkc, XEpkc, false⟩
theorem Epkc_ok : EnvOk Epkc := ⟨by kernel_rfl, GEpkc_ok, IEpkc_ok, CEpkc_ok, XEpkc_ok⟩
theorem pkTcp_t (s d : List UInt8) (sp dp sq ak fl wn sm ug : Int) (op : List V) (pl : List UInt8) : callV Epkc af_pkTcp [.barr 16 s, .barr 16 d, .agg [.int .i64 sp, .int .i64 dp, .int .u32 sq, .int .u32 ak, .int .i64 fl, .int .i64 wn, .int .i64 sm, .int .i64 ug, .rows (.agg [.int .i64, .bytes]) op, .bytes pl]] =
 bif
 andT
 (andT true
 (decide (op.length ≤ (4611686018427387904 : Nat)) &&
 (smallL op &&
 decide (((0 : Int) ≤ sq ∧ sq ≤ (4294967295 : Int)) ∧ (0 : Int) ≤ ak ∧ ak ≤ (4294967295 : Int)))))
 (decide
 ((tcS s d
 { sp := sp, dp := dp, sq := sq, ak := ak, fl := fl, wn := wn, sm := sm, ug := ug, op := op, pl := pl }).9.length ≤
 (4611686018427387904 : Nat)) &&
 (smallL
 (tcS s d
 { sp := sp, dp := dp, sq := sq, ak := ak, fl := fl, wn := wn, sm := sm, ug := ug, op := op, pl := pl }).9 &&
 decide
 (((0 : Int) ≤
 (tcS s d
 { sp := sp, dp := dp, sq := sq, ak := ak, fl := fl, wn := wn, sm := sm, ug := ug, op := op, pl := pl }).3 ∧
 (tcS s d
 { sp := sp, dp := dp, sq := sq, ak := ak, fl := fl, wn := wn, sm := sm, ug := ug, op := op, pl := pl }).3 ≤
 (4294967295 : Int)) ∧
 (0 : Int) ≤
 (tcS s d
 { sp := sp, dp := dp, sq := sq, ak := ak, fl := fl, wn := wn, sm := sm, ug := ug, op := op, pl := pl }).4 ∧
 (tcS s d
 { sp := sp, dp := dp, sq := sq, ak := ak, fl := fl, wn := wn, sm := sm, ug := ug, op := op, pl := pl }).4 ≤
 (4294967295 : Int)))) then
 bif
 tcEr
 { sp := (tcS s d { sp := sp, dp := dp, sq := sq, ak := ak, fl := fl, wn := wn, sm := sm, ug := ug, op := op, pl := pl }).1, dp := (tcS s d { sp := sp, dp := dp, sq := sq, ak := ak, fl := fl, wn := wn, sm := sm, ug := ug, op := op, pl := pl }).2, sq := (tcS s d { sp := sp, dp := dp, sq := sq, ak := ak, fl := fl, wn := wn, sm := sm, ug := ug, op := op, pl := pl }).3, ak := (tcS s d { sp := sp, dp := dp, sq := sq, ak := ak, fl := fl, wn := wn, sm := sm, ug := ug, op := op, pl := pl }).4, fl := (tcS s d { sp := sp, dp := dp, sq := sq, ak := ak, fl := fl, wn := wn, sm := sm, ug := ug, op := op, pl := pl }).5, wn := (tcS s d { sp := sp, dp := dp, sq := sq, ak := ak, fl := fl, wn := wn, sm := sm, ug := ug, op := op, pl := pl }).6, sm := (tcS s d { sp := sp, dp := dp, sq := sq, ak := ak, fl := fl, wn := wn, sm := sm, ug := ug, op := op, pl := pl }).7, ug := (tcS s d { sp := sp, dp := dp, sq := sq, ak := ak, fl := fl, wn := wn, sm := sm, ug := ug, op := op, pl := pl }).8, op := (tcS s d { sp := sp, dp := dp, sq := sq, ak := ak, fl := fl, wn := wn, sm := sm, ug := ug, op := op, pl := pl }).9, pl := (tcS s d { sp := sp, dp := dp, sq := sq, ak := ak, fl := fl, wn := wn, sm := sm, ug := ug, op := op, pl := pl }).10 } !=
 (0 : Int) then
 some
 (V.tup
 [V.ownv (5 : Nat) (V.bytes []),
 V.int IntKind.i64
 (tcEr
 { sp := (tcS s d { sp := sp, dp := dp, sq := sq, ak := ak, fl := fl, wn := wn, sm := sm, ug := ug, op := op, pl := pl }).1, dp := (tcS s d { sp := sp, dp := dp, sq := sq, ak := ak, fl := fl, wn := wn, sm := sm, ug := ug, op := op, pl := pl }).2, sq := (tcS s d { sp := sp, dp := dp, sq := sq, ak := ak, fl := fl, wn := wn, sm := sm, ug := ug, op := op, pl := pl }).3, ak := (tcS s d { sp := sp, dp := dp, sq := sq, ak := ak, fl := fl, wn := wn, sm := sm, ug := ug, op := op, pl := pl }).4, fl := (tcS s d { sp := sp, dp := dp, sq := sq, ak := ak, fl := fl, wn := wn, sm := sm, ug := ug, op := op, pl := pl }).5, wn := (tcS s d { sp := sp, dp := dp, sq := sq, ak := ak, fl := fl, wn := wn, sm := sm, ug := ug, op := op, pl := pl }).6, sm := (tcS s d { sp := sp, dp := dp, sq := sq, ak := ak, fl := fl, wn := wn, sm := sm, ug := ug, op := op, pl := pl }).7, ug := (tcS s d { sp := sp, dp := dp, sq := sq, ak := ak, fl := fl, wn := wn, sm := sm, ug := ug, op := op, pl := pl }).8, op := (tcS s d { sp := sp, dp := dp, sq := sq, ak := ak, fl := fl, wn := wn, sm := sm, ug := ug, op := op, pl := pl }).9, pl := (tcS s d { sp := sp, dp := dp, sq := sq, ak := ak, fl := fl, wn := wn, sm := sm, ug := ug, op := op, pl := pl }).10 })])
 else
 some
 (V.tup
 [V.ownv (5 : Nat)
 (V.bytes
 (mdB s d
 (tcP
 { sp := (tcS s d { sp := sp, dp := dp, sq := sq, ak := ak, fl := fl, wn := wn, sm := sm, ug := ug, op := op, pl := pl }).1, dp := (tcS s d { sp := sp, dp := dp, sq := sq, ak := ak, fl := fl, wn := wn, sm := sm, ug := ug, op := op, pl := pl }).2, sq := (tcS s d { sp := sp, dp := dp, sq := sq, ak := ak, fl := fl, wn := wn, sm := sm, ug := ug, op := op, pl := pl }).3, ak := (tcS s d { sp := sp, dp := dp, sq := sq, ak := ak, fl := fl, wn := wn, sm := sm, ug := ug, op := op, pl := pl }).4, fl := (tcS s d { sp := sp, dp := dp, sq := sq, ak := ak, fl := fl, wn := wn, sm := sm, ug := ug, op := op, pl := pl }).5, wn := (tcS s d { sp := sp, dp := dp, sq := sq, ak := ak, fl := fl, wn := wn, sm := sm, ug := ug, op := op, pl := pl }).6, sm := (tcS s d { sp := sp, dp := dp, sq := sq, ak := ak, fl := fl, wn := wn, sm := sm, ug := ug, op := op, pl := pl }).7, ug := (tcS s d { sp := sp, dp := dp, sq := sq, ak := ak, fl := fl, wn := wn, sm := sm, ug := ug, op := op, pl := pl }).8, op := (tcS s d { sp := sp, dp := dp, sq := sq, ak := ak, fl := fl, wn := wn, sm := sm, ug := ug, op := op, pl := pl }).9, pl := (tcS s d { sp := sp, dp := dp, sq := sq, ak := ak, fl := fl, wn := wn, sm := sm, ug := ug, op := op, pl := pl }).10 })
 (6 : Int))),
 V.int IntKind.i64
 (mdE
 (tcP
 { sp := (tcS s d { sp := sp, dp := dp, sq := sq, ak := ak, fl := fl, wn := wn, sm := sm, ug := ug, op := op, pl := pl }).1, dp := (tcS s d { sp := sp, dp := dp, sq := sq, ak := ak, fl := fl, wn := wn, sm := sm, ug := ug, op := op, pl := pl }).2, sq := (tcS s d { sp := sp, dp := dp, sq := sq, ak := ak, fl := fl, wn := wn, sm := sm, ug := ug, op := op, pl := pl }).3, ak := (tcS s d { sp := sp, dp := dp, sq := sq, ak := ak, fl := fl, wn := wn, sm := sm, ug := ug, op := op, pl := pl }).4, fl := (tcS s d { sp := sp, dp := dp, sq := sq, ak := ak, fl := fl, wn := wn, sm := sm, ug := ug, op := op, pl := pl }).5, wn := (tcS s d { sp := sp, dp := dp, sq := sq, ak := ak, fl := fl, wn := wn, sm := sm, ug := ug, op := op, pl := pl }).6, sm := (tcS s d { sp := sp, dp := dp, sq := sq, ak := ak, fl := fl, wn := wn, sm := sm, ug := ug, op := op, pl := pl }).7, ug := (tcS s d { sp := sp, dp := dp, sq := sq, ak := ak, fl := fl, wn := wn, sm := sm, ug := ug, op := op, pl := pl }).8, op := (tcS s d { sp := sp, dp := dp, sq := sq, ak := ak, fl := fl, wn := wn, sm := sm, ug := ug, op := op, pl := pl }).9, pl := (tcS s d { sp := sp, dp := dp, sq := sq, ak := ak, fl := fl, wn := wn, sm := sm, ug := ug, op := op, pl := pl }).10 }))])
 else none := by kernel_rfl
theorem rPkTcp_t (s d : List UInt8) (sp dp sq ak fl wn sm ug : Int) (op : List V) (pl : List UInt8) : callV Epkc af_rPkTcp [.barr 16 s, .barr 16 d, .agg [.int .i64 sp, .int .i64 dp, .int .u32 sq, .int .u32 ak, .int .i64 fl, .int .i64 wn, .int .i64 sm, .int .i64 ug, .rows (.agg [.int .i64, .bytes]) op, .bytes pl]] =
 bif
 andT
 (andT true
 (decide (op.length ≤ (4611686018427387904 : Nat)) &&
 (smallL op &&
 decide (((0 : Int) ≤ sq ∧ sq ≤ (4294967295 : Int)) ∧ (0 : Int) ≤ ak ∧ ak ≤ (4294967295 : Int)))))
 (decide
 ((tcS s d
 { sp := sp, dp := dp, sq := sq, ak := ak, fl := fl, wn := wn, sm := sm, ug := ug, op := op, pl := pl }).9.length ≤
 (4611686018427387904 : Nat)) &&
 (smallL
 (tcS s d
 { sp := sp, dp := dp, sq := sq, ak := ak, fl := fl, wn := wn, sm := sm, ug := ug, op := op, pl := pl }).9 &&
 decide
 (((0 : Int) ≤
 (tcS s d
 { sp := sp, dp := dp, sq := sq, ak := ak, fl := fl, wn := wn, sm := sm, ug := ug, op := op, pl := pl }).3 ∧
 (tcS s d
 { sp := sp, dp := dp, sq := sq, ak := ak, fl := fl, wn := wn, sm := sm, ug := ug, op := op, pl := pl }).3 ≤
 (4294967295 : Int)) ∧
 (0 : Int) ≤
 (tcS s d
 { sp := sp, dp := dp, sq := sq, ak := ak, fl := fl, wn := wn, sm := sm, ug := ug, op := op, pl := pl }).4 ∧
 (tcS s d
 { sp := sp, dp := dp, sq := sq, ak := ak, fl := fl, wn := wn, sm := sm, ug := ug, op := op, pl := pl }).4 ≤
 (4294967295 : Int)))) then
 bif
 tcEr
 { sp := (tcS s d { sp := sp, dp := dp, sq := sq, ak := ak, fl := fl, wn := wn, sm := sm, ug := ug, op := op, pl := pl }).1, dp := (tcS s d { sp := sp, dp := dp, sq := sq, ak := ak, fl := fl, wn := wn, sm := sm, ug := ug, op := op, pl := pl }).2, sq := (tcS s d { sp := sp, dp := dp, sq := sq, ak := ak, fl := fl, wn := wn, sm := sm, ug := ug, op := op, pl := pl }).3, ak := (tcS s d { sp := sp, dp := dp, sq := sq, ak := ak, fl := fl, wn := wn, sm := sm, ug := ug, op := op, pl := pl }).4, fl := (tcS s d { sp := sp, dp := dp, sq := sq, ak := ak, fl := fl, wn := wn, sm := sm, ug := ug, op := op, pl := pl }).5, wn := (tcS s d { sp := sp, dp := dp, sq := sq, ak := ak, fl := fl, wn := wn, sm := sm, ug := ug, op := op, pl := pl }).6, sm := (tcS s d { sp := sp, dp := dp, sq := sq, ak := ak, fl := fl, wn := wn, sm := sm, ug := ug, op := op, pl := pl }).7, ug := (tcS s d { sp := sp, dp := dp, sq := sq, ak := ak, fl := fl, wn := wn, sm := sm, ug := ug, op := op, pl := pl }).8, op := (tcS s d { sp := sp, dp := dp, sq := sq, ak := ak, fl := fl, wn := wn, sm := sm, ug := ug, op := op, pl := pl }).9, pl := (tcS s d { sp := sp, dp := dp, sq := sq, ak := ak, fl := fl, wn := wn, sm := sm, ug := ug, op := op, pl := pl }).10 } !=
 (0 : Int) then
 some
 (V.tup
 [V.ownv (5 : Nat) (V.bytes []),
 V.int IntKind.i64
 (tcEr
 { sp := (tcS s d { sp := sp, dp := dp, sq := sq, ak := ak, fl := fl, wn := wn, sm := sm, ug := ug, op := op, pl := pl }).1, dp := (tcS s d { sp := sp, dp := dp, sq := sq, ak := ak, fl := fl, wn := wn, sm := sm, ug := ug, op := op, pl := pl }).2, sq := (tcS s d { sp := sp, dp := dp, sq := sq, ak := ak, fl := fl, wn := wn, sm := sm, ug := ug, op := op, pl := pl }).3, ak := (tcS s d { sp := sp, dp := dp, sq := sq, ak := ak, fl := fl, wn := wn, sm := sm, ug := ug, op := op, pl := pl }).4, fl := (tcS s d { sp := sp, dp := dp, sq := sq, ak := ak, fl := fl, wn := wn, sm := sm, ug := ug, op := op, pl := pl }).5, wn := (tcS s d { sp := sp, dp := dp, sq := sq, ak := ak, fl := fl, wn := wn, sm := sm, ug := ug, op := op, pl := pl }).6, sm := (tcS s d { sp := sp, dp := dp, sq := sq, ak := ak, fl := fl, wn := wn, sm := sm, ug := ug, op := op, pl := pl }).7, ug := (tcS s d { sp := sp, dp := dp, sq := sq, ak := ak, fl := fl, wn := wn, sm := sm, ug := ug, op := op, pl := pl }).8, op := (tcS s d { sp := sp, dp := dp, sq := sq, ak := ak, fl := fl, wn := wn, sm := sm, ug := ug, op := op, pl := pl }).9, pl := (tcS s d { sp := sp, dp := dp, sq := sq, ak := ak, fl := fl, wn := wn, sm := sm, ug := ug, op := op, pl := pl }).10 })])
 else
 some
 (V.tup
 [V.ownv (5 : Nat)
 (V.bytes
 (mdB s d
 (tcP
 { sp := (tcS s d { sp := sp, dp := dp, sq := sq, ak := ak, fl := fl, wn := wn, sm := sm, ug := ug, op := op, pl := pl }).1, dp := (tcS s d { sp := sp, dp := dp, sq := sq, ak := ak, fl := fl, wn := wn, sm := sm, ug := ug, op := op, pl := pl }).2, sq := (tcS s d { sp := sp, dp := dp, sq := sq, ak := ak, fl := fl, wn := wn, sm := sm, ug := ug, op := op, pl := pl }).3, ak := (tcS s d { sp := sp, dp := dp, sq := sq, ak := ak, fl := fl, wn := wn, sm := sm, ug := ug, op := op, pl := pl }).4, fl := (tcS s d { sp := sp, dp := dp, sq := sq, ak := ak, fl := fl, wn := wn, sm := sm, ug := ug, op := op, pl := pl }).5, wn := (tcS s d { sp := sp, dp := dp, sq := sq, ak := ak, fl := fl, wn := wn, sm := sm, ug := ug, op := op, pl := pl }).6, sm := (tcS s d { sp := sp, dp := dp, sq := sq, ak := ak, fl := fl, wn := wn, sm := sm, ug := ug, op := op, pl := pl }).7, ug := (tcS s d { sp := sp, dp := dp, sq := sq, ak := ak, fl := fl, wn := wn, sm := sm, ug := ug, op := op, pl := pl }).8, op := (tcS s d { sp := sp, dp := dp, sq := sq, ak := ak, fl := fl, wn := wn, sm := sm, ug := ug, op := op, pl := pl }).9, pl := (tcS s d { sp := sp, dp := dp, sq := sq, ak := ak, fl := fl, wn := wn, sm := sm, ug := ug, op := op, pl := pl }).10 })
 (6 : Int))),
 V.int IntKind.i64
 (mdE
 (tcP
 { sp := (tcS s d { sp := sp, dp := dp, sq := sq, ak := ak, fl := fl, wn := wn, sm := sm, ug := ug, op := op, pl := pl }).1, dp := (tcS s d { sp := sp, dp := dp, sq := sq, ak := ak, fl := fl, wn := wn, sm := sm, ug := ug, op := op, pl := pl }).2, sq := (tcS s d { sp := sp, dp := dp, sq := sq, ak := ak, fl := fl, wn := wn, sm := sm, ug := ug, op := op, pl := pl }).3, ak := (tcS s d { sp := sp, dp := dp, sq := sq, ak := ak, fl := fl, wn := wn, sm := sm, ug := ug, op := op, pl := pl }).4, fl := (tcS s d { sp := sp, dp := dp, sq := sq, ak := ak, fl := fl, wn := wn, sm := sm, ug := ug, op := op, pl := pl }).5, wn := (tcS s d { sp := sp, dp := dp, sq := sq, ak := ak, fl := fl, wn := wn, sm := sm, ug := ug, op := op, pl := pl }).6, sm := (tcS s d { sp := sp, dp := dp, sq := sq, ak := ak, fl := fl, wn := wn, sm := sm, ug := ug, op := op, pl := pl }).7, ug := (tcS s d { sp := sp, dp := dp, sq := sq, ak := ak, fl := fl, wn := wn, sm := sm, ug := ug, op := op, pl := pl }).8, op := (tcS s d { sp := sp, dp := dp, sq := sq, ak := ak, fl := fl, wn := wn, sm := sm, ug := ug, op := op, pl := pl }).9, pl := (tcS s d { sp := sp, dp := dp, sq := sq, ak := ak, fl := fl, wn := wn, sm := sm, ug := ug, op := op, pl := pl }).10 }))])
 else none := by kernel_rfl
def pkE (s d : List UInt8) (t : Tc) : Int := if tcEr (tcS s d t) = 0 then mdE (tcP (tcS s d t)) else tcEr (tcS s d t)
def pkB (s d : List UInt8) (t : Tc) : List UInt8 := if tcEr (tcS s d t) = 0 then mdB s d (tcP (tcS s d t)) 6 else []
theorem tcS_keep (s d : List UInt8) (t : Tc) : (tcS s d t).op = t.op ∧ (tcS s d t).sq = t.sq ∧ (tcS s d t).ak = t.ak := by
 unfold tcS
 split <;> exact ⟨rfl, rfl, rfl⟩
theorem pkTcp_v (s d : List UInt8) (t : Tc) (h : t.op.length ≤ 4611686018427387904) (hs : smallL t.op = true) (hq : u32ok t.sq) (ha : u32ok t.ak) : callV Epkc af_pkTcp [.barr 16 s, .barr 16 d, t.v] = some (.tup [.ownv 5 (.bytes (pkB s d t)), .int .i64 (pkE s d t)]) := by
 obtain ⟨f1, f2, f3⟩ := tcS_keep s d t
 unfold pkB pkE
 obtain ⟨sp, dp, sq, ak, fl, wn, sm, ug, op, pl⟩ := t
 rw [Tc.v, pkTcp_t]
 generalize tcS s d ⟨sp, dp, sq, ak, fl, wn, sm, ug, op, pl⟩ = T at *
 obtain ⟨sp', dp', sq', ak', fl', wn', sm', ug', op', pl'⟩ := T
 simp only at f1 f2 f3 h hs hq ha ⊢
 subst f1; subst f2; subst f3
 rw [hs]
 by_cases e : tcEr ⟨sp', dp', sq', ak', fl', wn', sm', ug', op', pl'⟩ = 0
 ·rw [if_pos e, if_pos e]
  simp (disch := omega) only [tre]
 ·rw [if_neg e, if_neg e]
  simp (disch := omega) only [tre]
theorem rPkTcp_v (s d : List UInt8) (t : Tc) (h : t.op.length ≤ 4611686018427387904) (hs : smallL t.op = true) (hq : u32ok t.sq) (ha : u32ok t.ak) : callV Epkc af_rPkTcp [.barr 16 s, .barr 16 d, t.v] = some (.tup [.ownv 5 (.bytes (pkB s d t)), .int .i64 (pkE s d t)]) := by
 obtain ⟨f1, f2, f3⟩ := tcS_keep s d t
 unfold pkB pkE
 obtain ⟨sp, dp, sq, ak, fl, wn, sm, ug, op, pl⟩ := t
 rw [Tc.v, rPkTcp_t]
 generalize tcS s d ⟨sp, dp, sq, ak, fl, wn, sm, ug, op, pl⟩ = T at *
 obtain ⟨sp', dp', sq', ak', fl', wn', sm', ug', op', pl'⟩ := T
 simp only at f1 f2 f3 h hs hq ha ⊢
 subst f1; subst f2; subst f3
 rw [hs]
 by_cases e : tcEr ⟨sp', dp', sq', ak', fl', wn', sm', ug', op', pl'⟩ = 0
 ·rw [if_pos e, if_pos e]
  simp (disch := omega) only [tre]
 ·rw [if_neg e, if_neg e]
  simp (disch := omega) only [tre]
def cPkTcp : List V → Option (V × Bool)
 | [.barr 16 s, .barr 16 d, .agg [.int .i64 sp, .int .i64 dp, .int .u32 sq, .int .u32 ak, .int .i64 fl, .int .i64 wn, .int .i64 sm, .int .i64 ug, .rows (.agg [.int .i64, .bytes]) op, .bytes pl]] => some (.tup [.ownv 5 (.bytes (pkB s d ⟨sp, dp, sq, ak, fl, wn, sm, ug, op, pl⟩)), .int .i64 (pkE s d ⟨sp, dp, sq, ak, fl, wn, sm, ug, op, pl⟩)], (decide (op.length ≤ 4611686018427387904) && (smallL op && decide (u32ok sq ∧ u32ok ak))))
 | _ => none
theorem pkTcp_con : ∀ vs v, cPkTcp vs = some (v, true) → SpecV Tryz.prog 80 vs v := by
 intro vs v h; unfold cPkTcp at h; split at h
 ·rename_i s d sp dp sq ak fl wn sm ug op pl
  injection h with h; injection h with h hb; subst h
  exact callV_ok Epkc_ok af_pkTcp_ok ((cTcpPut_h hb).elim fun a b => pkTcp_v s d ⟨sp, dp, sq, ak, fl, wn, sm, ug, op, pl⟩ a b.1 b.2.1 b.2.2)
 ·cases h
theorem rPkTcp_con : ∀ vs v, cPkTcp vs = some (v, true) → SpecV Tryz.prog 25 vs v := by
 intro vs v h; unfold cPkTcp at h; split at h
 ·rename_i s d sp dp sq ak fl wn sm ug op pl
  injection h with h; injection h with h hb; subst h
  exact callV_ok Epkc_ok af_rPkTcp_ok ((cTcpPut_h hb).elim fun a b => rPkTcp_v s d ⟨sp, dp, sq, ak, fl, wn, sm, ug, op, pl⟩ a b.1 b.2.1 b.2.2)
 ·cases h
abbrev shMs : Sh := .agg [.int .i64, .int .i64, .int .u32, .bytes]
abbrev shPk : Sh := .agg [shH6, .bool, shHd, .barr 16, .int .i64, shTc, shMs, .bytes]
def pkZ (h : H6) (r : Bool) : V := .agg [h.v, .bool r, .agg [.int .i64 0, .int .i64 0, .int .i64 0, .int .i64 0, .nils, .nils], .barr 16 (List.replicate 16 0), .int .i64 0, .agg [.int .i64 0, .int .i64 0, .int .u32 0, .int .u32 0, .int .i64 0, .int .i64 0, .int .i64 0, .int .i64 0, .nils, .nils], .agg [.int .i64 0, .int .i64 0, .int .u32 0, .nils], .nils]
def kdP (v : V) : Int := toI ((toG v).headD .undef)
def hrW (h : H6) (r : Bool) (l : List V) : List (Nat × Option Blk) := [(0, some (.var shPk (pkZ h r))), (1, some (.row 170 shP (.rows shP l))), (2, some (.var shP (pt 0 0 0)))]
def hrS (h : H6) (r : Bool) (l : List V) (i : Int) : S := ⟨[(0, .ref 0 [] 0 shPk), (26, .own 1 l.length shP), (4, .ref 2 [] 0 shP), (28, .int .i64 i), (27, .int .i64 l.length), (6, .own 1 l.length shP)], hrW h r l, 3, true, 49⟩
def hrX (h : H6) (r : Bool) (l : List V) : S := ⟨[(0, .ref 0 [] 0 shPk), (6, .own 1 l.length shP), (4, .ref 2 [] 0 shP)], hrW h r l, 3, true, 49⟩
def hrR (h : H6) (r : Bool) : S := ⟨[(0, .ref 0 [] 0 shPk), (4, .ref 1 [] 0 shP), (5, .int .i64 7)], [(0, some (.var shPk (pkZ h r))), (1, some (.var shP (pt 0 0 0)))], 2, true, 49⟩
def hrBad (l : List V) (i : Nat) : Bool := (l.drop (max i 1)).any fun v => kdP v == 43
def hrRt (r : Bool) (l : List V) (i : Nat) : Bool := r || (i == 0 && (match l with | [] => false | v :: _ => kdP v == 43))
def hrO (h : H6) (r : Bool) (l : List V) (i : Nat) : Tr := .br (hrBad l i) (.leaf .ret (hrR h (hrRt r l i))) (.leaf (.exit 0) (hrX h (hrRt r l i) l))
structure HrI where
 (h : H6)
 (r : Bool)
 (l : List V)
 (i : Int)
def h6Of (v : V) : H6 := ⟨toI (aG v 0), toI (aG v 1), toI (aG v 2), toI (aG v 3), toI (aG v 4), toA (aG v 5), toA (aG v 6)⟩
def hrGet (s : S) : HrI := ⟨h6Of (aG (bkD s 0) 0), toB (aG (bkD s 0) 1), toR (bkD s 1), toI (lkD s 28)⟩
def hrI (x : HrI) : Prop := 0 ≤ x.i ∧ x.i ≤ x.l.length ∧ x.l.length ≤ 1000
noncomputable def hrG : S → Option (Bool × Tr) := gX hrGet (fun x => hrS x.h x.r x.l x.i) hrI (fun x => hrO x.h x.r x.l x.i.toNat)
noncomputable def af_pkHead : AF := afOf Tryz.prog Tryz.f97 [.sum [0, 26, 4, 28, 27, 6] [0] hrG]
noncomputable def hrC : AC := (af_pkHead.ac.sums.headD (.skip, [], [], fun _ => none)).1
noncomputable def GEpke : List (Nat × Con) := []
theorem GEpke_ok : GOk Tryz.prog GEpke := .nil
noncomputable def IEpke : List (Nat × AF) := []
theorem IEpke_ok : IOk Tryz.prog IEpke := .nil
noncomputable def CEpke : List (Nat × (List Nat × (S → Option (Bool × Tr)))) := []
theorem CEpke_ok : COk Tryz.prog CEpke := .nil
noncomputable def XEpke : List (Nat × (List Sh × (List V → PT))) := []
theorem XEpke_ok : XOk Tryz.prog XEpke := .nil
noncomputable def Epke : Env := ⟨Tryz.prog, GEpke, IEpke, CEpke, XEpke, false⟩
theorem Epke_ok : EnvOk Epke := ⟨by kernel_rfl, GEpke_ok, IEpke_ok, CEpke_ok, XEpke_ok⟩
theorem hr_b (h : H6) (r : Bool) (l : List V) (i : Int) : aev Epke (inlN Epke 6) hrC (bodyF (Am.ways [0, 26, 4, 28, 27, 6] [0, 6, 4] [0, 4, 5]) [0]) (hrS h r l i) =
 bif decide (i < (l.length : Int)) then bif andT true (Am.inB i l.length) then
 bif kdP (l.getD i.toNat .undef) != 43 then some (.normal, hrS h r l (IntKind.i64.wrap (i + 1)))
 else bif decide (i > 0) then some (.ret, hrR h r) else some (.normal, hrS h true l (IntKind.i64.wrap (i + 1)))
 else none else some (.exit 0, hrX h r l) := by kernel_rfl
theorem hrBad_n {l : List V} {k : Nat} (hk : k < l.length) : hrBad l k = ((decide (0 < k) && kdP (l.getD k .undef) == 43) || hrBad l (k + 1)) := by
 unfold hrBad
 cases k with
 | zero => simp
 | succ k =>
  rw [Nat.max_eq_left (by omega), Nat.max_eq_left (by omega), drop_next (d := .undef) hk, List.any_cons]
  simp
theorem hrBad_e {l : List V} {k : Nat} (hk : l.length ≤ k) : hrBad l k = false := by
 unfold hrBad
 rw [List.drop_eq_nil_of_le (by omega)]
 rfl
theorem hrRt_n (r : Bool) (l : List V) (k : Nat) : hrRt r l (k + 1) = r := by simp [hrRt]
theorem hrRt_0 (r : Bool) {l : List V} (hk : 0 < l.length) : hrRt r l 0 = (r || kdP (l.getD 0 .undef) == 43) := by
 cases l with
 | nil => simp at hk
 | cons v l => simp [hrRt]
theorem hr_loop : LoopOk Tryz.prog hrC.erase [0] hrG := by
 refine loopX_ok Epke_ok (d := 6) (AC.flat_ok (by kernel_rfl)) (Am.ways [0, 26, 4, 28, 27, 6] [0, 6, 4] [0, 4, 5]) [0] hrGet _ _ hrI (fun x => (x.l.length - x.i).toNat) (fun _ => rfl) ?_
 rintro ⟨h, r, l, i⟩ ⟨h0, h1, hM⟩
 simp only at h0 h1 hM ⊢
 rw [hr_b]
 by_cases hi : i < l.length
 ·have hk : i.toNat < l.length := by omega
  have hw : IntKind.i64.wrap (i + 1) = i + 1 := w64 (by omega) (by omega)
  have hn : (i + 1).toNat = i.toNat + 1 := by omega
  rw [hw]
  by_cases h43 : kdP (l.getD i.toNat .undef) = 43
  ·by_cases hp : i > 0
   ·refine .inr ⟨.ret, hrR h r, ?_, nofun, ?_⟩
    ·rw [h43]
     simp (disch := omega) only [tre]
    ·unfold hrO
     rw [hrBad_n hk, h43, show decide (0 < i.toNat) = true from decide_eq_true (by omega)]
     refine leaf_t rfl ?_
     obtain ⟨k, hk2⟩ : ∃ k, i.toNat = k + 1 := ⟨i.toNat - 1, by omega⟩
     rw [hk2, hrRt_n]
     exact .leaf
   ·have hz : i = 0 := by omega
    subst hz
    refine .inl ⟨⟨h, true, l, 1⟩, ?_, ⟨by dsimp only; omega, by dsimp only; omega, hM⟩, by dsimp only; omega, leaf_eq ?_⟩
    ·rw [h43]
     simp (disch := omega) only [tre]
     rfl
    ·dsimp only
     unfold hrO
     have e1 : hrBad l 0 = hrBad l 1 := by
      have := hrBad_n hk
      rw [show (0 : Int).toNat = 0 from rfl] at this
      rw [this]
      simp
     have e2 := hrRt_0 r (l := l) (by omega)
     rw [show (0 : Int).toNat = 0 from rfl] at h43 ⊢
     rw [h43] at e2
     rw [show (1 : Int).toNat = 0 + 1 from rfl, hrRt_n, e1, e2]
     simp
  ·refine .inl ⟨⟨h, r, l, i + 1⟩, ?_, ⟨by dsimp only; omega, by dsimp only; omega, hM⟩, by dsimp only; omega, leaf_eq ?_⟩
   ·simp (disch := omega) only [tre]
   ·dsimp only
    unfold hrO
    rw [hn, hrBad_n hk, ieq_f h43, hrRt_n]
    have e2 : hrRt r l i.toNat = r := by
     rcases Nat.eq_zero_or_pos i.toNat with hz | hz
     ·rw [hz] at h43 ⊢
      rw [hrRt_0 r (by omega), ieq_f h43]; simp
     ·obtain ⟨k, hk2⟩ : ∃ k, i.toNat = k + 1 := ⟨i.toNat - 1, by omega⟩
      rw [hk2, hrRt_n]
    rw [e2]
    simp
 ·refine .inr ⟨.exit 0, hrX h r l, ?_, nofun, ?_⟩
  ·simp (disch := omega) only [tre]
  ·unfold hrO
   rw [hrBad_e (by omega)]
   refine leaf_f rfl ?_
   have e2 : hrRt r l i.toNat = r := by
    cases l with
    | nil => simp [hrRt]
    | cons v l =>
     obtain ⟨k, hk2⟩ : ∃ k, i.toNat = k + 1 := ⟨i.toNat - 1, by simp at hi; omega⟩
     rw [hk2, hrRt_n]
   rw [e2]
   exact .leaf
theorem af_pkHead_ok : AllOk Tryz.prog 97 af_pkHead := .sums Tryz.func97 (by kernel_rfl) (by kernel_rfl) (by kernel_rfl) (by kernel_rfl) (sums_one (c := hrC) (ts := [0, 26, 4, 28, 27, 6]) (by kernel_rfl) (by kernel_rfl) hr_loop)
end Go.Proofs.YtfhljcbbgckdiaaGreat