/- Part Go of the proof: laws used by the law of this claim. -/
import Derived.Test.YtfhljcbbgckdiaaGreatGu
import Derived.Test.YtfhljcbbgckdiaaGreatGl
import Derived.Test.YtfhljcbbgckdiaaGreatGd
set_option linter.all false
namespace Go.Proofs.YtfhljcbbgckdiaaGreat
open Go Go.Am Go.RowKit Go.Mix Go.Bas
abbrev fb (n : Int) (j : Nat) : Bool := (BitVec.ofInt 64 n).getLsbD j
theorem wrap_inj {X Y : BitVec 64} (h : IntKind.i64.wrap (X.toNat : Int) = IntKind.i64.wrap (Y.toNat : Int)) : X = Y := by
 rw [IntKind.wrap_i64, IntKind.wrap_i64] at h
 have h1 := X.isLt
 have h2 := Y.isLt
 apply BitVec.eq_of_toNat_eq
 omega
theorem wrap_ofInt {n : Int} (h1 : -9223372036854775808 ≤ n) (h2 : n ≤ 9223372036854775807) : IntKind.i64.wrap ((BitVec.ofInt 64 n).toNat : Int) = n := by
 have e : (BitVec.ofInt 64 n).toNat = (n % 18446744073709551616).toNat := by rw [BitVec.toNat_ofInt]; rfl
 rw [e, IntKind.wrap_i64]
 omega
theorem bits_and (a b : Int) : bits .and .i64 a b = IntKind.i64.wrap ((BitVec.ofInt 64 a &&& BitVec.ofInt 64 b).toNat : Int) := rfl
theorem and_bit (a : Int) (j : Nat) (hj : j < 62) : bits .and .i64 a ((2 ^ j : Nat) : Int) = if fb a j then ((2 ^ j : Nat) : Int) else 0 := by
 have hp : 2 ^ j ≤ 2 ^ 62 := Nat.pow_le_pow_right (by omega) (by omega)
 have ht : ∀ i, i < 64 → (BitVec.ofInt 64 ((2 ^ j : Nat) : Int)).getLsbD i = decide (j = i) := fun i hi => by
  rw [BitVec.ofInt_natCast, BitVec.getLsbD_ofNat, Nat.testBit_two_pow]
  simp [hi]
 rw [bits_and]
 have e : BitVec.ofInt 64 a &&& BitVec.ofInt 64 ((2 ^ j : Nat) : Int) = if fb a j then BitVec.ofInt 64 ((2 ^ j : Nat) : Int) else 0#64 := by
  apply BitVec.eq_of_getLsbD_eq
  intro i hi
  rw [BitVec.getLsbD_and, ht i hi]
  cases hb : fb a j with
  | true =>
   rw [if_pos rfl, ht i hi]
   by_cases h : j = i
   ·subst h; rw [show (BitVec.ofInt 64 a).getLsbD j = true from hb]; rfl
   ·simp [h]
  | false =>
   rw [if_neg (by simp)]
   by_cases h : j = i
   ·subst h; rw [show (BitVec.ofInt 64 a).getLsbD j = false from hb]; simp
   ·simp [h]
 rw [e]
 clear e ht
 generalize 2 ^ j = m at *
 split
 ·exact wrap_ofInt (by omega) (by omega)
 ·rfl
theorem and_1 (a : Int) : bits .and .i64 a 1 = if fb a 0 then 1 else 0 := and_bit a 0 (by omega)
theorem and_2 (a : Int) : bits .and .i64 a 2 = if fb a 1 then 2 else 0 := and_bit a 1 (by omega)
theorem and_4 (a : Int) : bits .and .i64 a 4 = if fb a 2 then 4 else 0 := and_bit a 2 (by omega)
theorem and_16 (a : Int) : bits .and .i64 a 16 = if fb a 4 then 16 else 0 := and_bit a 4 (by omega)
end Go.Proofs.YtfhljcbbgckdiaaGreat
namespace Go.Proofs.YtfhljcbbgckdiaaGreat
open Go Go.Am Go.RowKit Go.Mix Go.Bas
set_option maxRecDepth 100000
def tcHd (t : Tc) (no : Nat) : List UInt8 := b8 (t.sp / 256) :: b8 t.sp :: b8 (t.dp / 256) :: b8 t.dp :: b8 (t.sq / 16777216) :: b8 (t.sq / 65536) :: b8 (t.sq / 256) :: b8 t.sq :: b8 (t.ak / 16777216) :: b8 (t.ak / 65536) :: b8 (t.ak / 256) :: b8 t.ak :: b8 ((5 + (no : Int) / 4) * 16) :: b8 t.fl :: b8 (t.wn / 256) :: b8 t.wn :: b8 (t.sm / 256) :: b8 t.sm :: b8 (t.ug / 256) :: b8 t.ug :: []
def tcP (t : Tc) : List UInt8 := if tcEr t = 0 then tcHd t (putO (tls t.op)).length ++ (putO (tls t.op) ++ t.pl) else []
theorem tcHd_len (t : Tc) (no : Nat) : (tcHd t no).length = 20 := rfl
def tpH (b : List UInt8) : Int := gt b 12 / 16 * 4
def tpO (b : List UInt8) : List UInt8 := cutL b 20 (tpH b).toNat
def tpE (b : List UInt8) : Int :=
 if b.length < 20 then 3 else if gt b 12 % 16 ≠ 0 ∨ gt b 12 / 16 < 5 then 5 else if gt b 12 / 16 * 4 > b.length then 3 else topE (tpO b)
theorem tcEr_zero {t : Tc} (h : tcEr t = 0) : (n16 t.sp ∧ n16 t.dp ∧ n16 t.wn ∧ n16 t.sm ∧ n16 t.ug ∧ 0 ≤ t.fl ∧ t.fl ≤ 255) ∧ canO (tls t.op) = 0 ∧ (t.pl.length : Int) ≤ 65515 - (putO (tls t.op)).length := by
 unfold tcEr at h
 split at h
 ·rename_i h1
  split at h
  ·rename_i h2
   split at h
   ·cases h
   ·exact ⟨h1, h2, by omega⟩
  ·rename_i h2
   exact absurd h h2
 ·cases h
theorem tcp_len {t : Tc} (h : tcEr t = 0) : (tcP t).length = 20 + (putO (tls t.op)).length + t.pl.length ∧ (tcP t).length ≤ 65535 := by
 obtain ⟨_, h8, h9⟩ := tcEr_zero h
 unfold tcP
 rw [if_pos h, List.length_append, tcHd_len, List.length_append]
 omega
noncomputable def af_tcpPut : AF := afOf Tryz.prog Tryz.f104 []
theorem af_tcpPut_ok : AllOk Tryz.prog 104 af_tcpPut := .flat Tryz.func104 (by kernel_rfl) (by kernel_rfl) (by kernel_rfl) (by kernel_rfl) (by kernel_rfl)
noncomputable def af_rTcpPut : AF := afOf Tryz.prog Tryz.f52 []
theorem af_rTcpPut_ok : AllOk Tryz.prog 52 af_rTcpPut := .flat Tryz.func52 (by kernel_rfl) (by kernel_rfl) (by kernel_rfl) (by kernel_rfl) (by kernel_rfl)
noncomputable def GEtcc : List (Nat × Con) := [(123, .val [.agg [.int .i64, .int .i64, .int .u32, .int .u32, .int .i64, .int .i64, .int .i64, .int .i64, .rows (.agg [.int .i64, .bytes]), .bytes]] cTcpCan), (81, .val [.agg [.int .i64, .int .i64, .int .u32, .int .u32, .int .i64, .int .i64, .int .i64, .int .i64, .rows (.agg [.int .i64, .bytes]), .bytes]] cTcpCan), (124, .val [.rows (.agg [.int .i64, .bytes])] cToptPut), (82, .val [.rows (.agg [.int .i64, .bytes])] crToptPut), (126, .val [.rows (.bytes)] cJoinB), (83, .val [.int .i64] cTwo), (84, .val [.int .u32] cFour), (78, .app 5 aP16), (125, .app 5 aP32)]
theorem GEtcc_ok : GOk Tryz.prog GEtcc := .cons (enters_of Tryz.func123 (by kernel_rfl) rfl) tcpCan_con <| .cons (enters_of Tryz.func81 (by kernel_rfl) rfl) rTcpCan_con <| .cons (enters_of Tryz.func124 (by kernel_rfl) rfl) toptPut_con <| .cons (enters_of Tryz.func82 (by kernel_rfl) rfl) rToptPut_con <| .cons (enters_of Tryz.func126 (by kernel_rfl) rfl) Join_con <| .cons (enters_of Tryz.func83 (by kernel_rfl) rfl) Two_con <| .cons (enters_of Tryz.func84 (by kernel_rfl) rfl) Four_con <| .consA (enters_of Tryz.func78 (by kernel_rfl) rfl) Put16_app <| .consA (enters_of Tryz.func125 (by kernel_rfl) rfl) Put32_app <| .nil
noncomputable def IEtcc : List (Nat × AF) := []
theorem IEtcc_ok : IOk Tryz.prog IEtcc := .nil
noncomputable def CEtcc : List (Nat × (List Nat × (S → Option (Bool × Tr)))) := []
theorem CEtcc_ok : COk Tryz.prog CEtcc := .nil
noncomputable def XEtcc : List (Nat × (List Sh × (List V → PT))) := []
theorem XEtcc_ok : XOk Tryz.prog XEtcc := .nil
noncomputable def Etcc : Env := ⟨Tryz.prog, GEtcc, IEtcc, CEtcc, XEtcc, false⟩
theorem Etcc_ok : EnvOk Etcc := ⟨by kernel_rfl, GEtcc_ok, IEtcc_ok, CEtcc_ok, XEtcc_ok⟩
theorem tcpPut_t (sp dp sq ak fl wn sm ug : Int) (op : List V) (pl : List UInt8) : callV Etcc af_tcpPut [.agg [.int .i64 sp, .int .i64 dp, .int .u32 sq, .int .u32 ak, .int .i64 fl, .int .i64 wn, .int .i64 sm, .int .i64 ug, .rows (.agg [.int .i64, .bytes]) op, .bytes pl]] =
 bif andT true (decide (op.length ≤ (4611686018427387904 : Nat)) && smallL op) then
 bif
 tcEr { sp := sp, dp := dp, sq := sq, ak := ak, fl := fl, wn := wn, sm := sm, ug := ug, op := op, pl := pl } !=
 (0 : Int) then
 some
 (V.tup
 [V.ownv (5 : Nat) (V.bytes []),
 V.int IntKind.i64
 (tcEr
 { sp := sp, dp := dp, sq := sq, ak := ak, fl := fl, wn := wn, sm := sm, ug := ug, op := op, pl := pl })])
 else
 bif andT true (decide (op.length ≤ (4611686018427387904 : Nat)) && smallL op) then
 bif
 andT
 (andT true
 (decide ((0 : Int) ≤ sq) && decide (sq < (4294967296 : Int)) &&
 (two sp ++ two dp ++ four sq).length.ble (140737488355328 : Nat)))
 (decide ((0 : Int) ≤ ak) && decide (ak < (4294967296 : Int)) &&
 (two sp ++ two dp ++ four sq ++ four ak).length.ble (140737488355328 : Nat)) &&
 true then
 bif
 andT true
 (decide
 ((b8 (sp / (256 : Int)) ::
 b8 sp ::
 b8 (dp / (256 : Int)) ::
 b8 dp ::
 b8 (sq / (16777216 : Int)) ::
 b8 (sq / (65536 : Int)) ::
 b8 (sq / (256 : Int)) ::
 b8 sq ::
 b8 (ak / (16777216 : Int)) ::
 b8 (ak / (65536 : Int)) ::
 b8 (ak / (256 : Int)) ::
 b8 ak ::
 u8
 (IntKind.u8.wrap
 (IntKind.i64.wrap
 (IntKind.i64.wrap
 ((IntKind.i64.wrap
 ((20 : Int) + (↑(putO (tls op)).length : Int))).tdiv
 (4 : Int)) *
 (16 : Int)))) ::
 u8 (IntKind.u8.wrap fl) ::
 b8 (wn / (256 : Int)) ::
 b8 wn :: b8 (sm / (256 : Int)) :: b8 sm :: two ug ++
 (putO (tls op) ++ (pl ++ []))).length ≤
 (140737488355328 : Nat))) then
 some
 (V.tup
 [V.ownv (5 : Nat)
 (V.bytes
 (b8 (sp / (256 : Int)) ::
 b8 sp ::
 b8 (dp / (256 : Int)) ::
 b8 dp ::
 b8 (sq / (16777216 : Int)) ::
 b8 (sq / (65536 : Int)) ::
 b8 (sq / (256 : Int)) ::
 b8 sq ::
 b8 (ak / (16777216 : Int)) ::
 b8 (ak / (65536 : Int)) ::
 b8 (ak / (256 : Int)) ::
 b8 ak ::
 u8
 (IntKind.u8.wrap
 (IntKind.i64.wrap
 (IntKind.i64.wrap
 ((IntKind.i64.wrap
 ((20 : Int) + (↑(putO (tls op)).length : Int))).tdiv
 (4 : Int)) *
 (16 : Int)))) ::
 u8 (IntKind.u8.wrap fl) ::
 b8 (wn / (256 : Int)) ::
 b8 wn :: b8 (sm / (256 : Int)) :: b8 sm :: two ug ++
 (putO (tls op) ++ (pl ++ [])))),
 V.int IntKind.i64 0])
 else none
 else none
 else none
 else none := by kernel_rfl
theorem rTcpPut_t (sp dp sq ak fl wn sm ug : Int) (op : List V) (pl : List UInt8) : callV Etcc af_rTcpPut [.agg [.int .i64 sp, .int .i64 dp, .int .u32 sq, .int .u32 ak, .int .i64 fl, .int .i64 wn, .int .i64 sm, .int .i64 ug, .rows (.agg [.int .i64, .bytes]) op, .bytes pl]] =
 bif andT true (decide (op.length ≤ (4611686018427387904 : Nat)) && smallL op) then
 bif
 tcEr { sp := sp, dp := dp, sq := sq, ak := ak, fl := fl, wn := wn, sm := sm, ug := ug, op := op, pl := pl } !=
 (0 : Int) then
 some
 (V.tup
 [V.ownv (5 : Nat) (V.bytes []),
 V.int IntKind.i64
 (tcEr
 { sp := sp, dp := dp, sq := sq, ak := ak, fl := fl, wn := wn, sm := sm, ug := ug, op := op, pl := pl })])
 else
 bif andT true (decide (op.length ≤ (4611686018427387904 : Nat))) then
 bif andT true (decide ((0 : Int) ≤ sq) && decide (sq < (4294967296 : Int))) then
 bif andT true (decide ((0 : Int) ≤ ak) && decide (ak < (4294967296 : Int))) then
 bif
 andT true
 (((two sp ++ two dp ++ four sq ++ four ak ++
 u8
 (IntKind.u8.wrap
 (IntKind.i64.wrap
 (IntKind.i64.wrap
 ((5 : Int) +
 IntKind.i64.wrap ((↑(putO (tls op)).length : Int).tdiv (4 : Int))) *
 (16 : Int)))) ::
 u8 (IntKind.u8.wrap fl) :: List.replicate (nat_lit 0) (0 : UInt8) ++
 two wn ++
 two sm ++
 two ug ++
 putO (tls op)).length *
 (1 : Nat)).ble
 (140737488355328 : Nat)) then
 bif
 andT true
 (((two sp ++ two dp ++ four sq ++ four ak ++
 u8
 (IntKind.u8.wrap
 (IntKind.i64.wrap
 (IntKind.i64.wrap
 ((5 : Int) +
 IntKind.i64.wrap
 ((↑(putO (tls op)).length : Int).tdiv (4 : Int))) *
 (16 : Int)))) ::
 u8 (IntKind.u8.wrap fl) :: List.replicate (nat_lit 0) (0 : UInt8) ++
 two wn ++
 two sm ++
 two ug ++
 putO (tls op) ++
 pl).length *
 (1 : Nat)).ble
 (140737488355328 : Nat)) then
 some
 (V.tup
 [V.ownv (5 : Nat)
 (V.bytes
 (two sp ++ two dp ++ four sq ++ four ak ++
 u8
 (IntKind.u8.wrap
 (IntKind.i64.wrap
 (IntKind.i64.wrap
 ((5 : Int) +
 IntKind.i64.wrap ((↑(putO (tls op)).length : Int).tdiv (4 : Int))) *
 (16 : Int)))) ::
 u8 (IntKind.u8.wrap fl) :: List.replicate (nat_lit 0) (0 : UInt8) ++
 two wn ++
 two sm ++
 two ug ++
 putO (tls op) ++
 pl)),
 V.int IntKind.i64 0])
 else none
 else none
 else none
 else none
 else none
 else none := by kernel_rfl
theorem e13a {no : Nat} (h : no ≤ 40) : u8 (IntKind.u8.wrap (IntKind.i64.wrap (IntKind.i64.wrap ((IntKind.i64.wrap ((20 : Int) + (no : Int))).tdiv 4) * 16))) = b8 ((5 + (no : Int) / 4) * 16) := by
 rw [w64 (x := 20 + (no : Int)) (by omega) (by omega), tdv (by omega), w64 (x := (20 + (no : Int)) / 4) (by omega) (by omega), w64 (x := (20 + (no : Int)) / 4 * 16) (by omega) (by omega), u8_wrap, show (20 + (no : Int)) / 4 = 5 + (no : Int) / 4 by omega]
theorem e13b {no : Nat} (h : no ≤ 40) : u8 (IntKind.u8.wrap (IntKind.i64.wrap (IntKind.i64.wrap ((5 : Int) + IntKind.i64.wrap ((no : Int).tdiv 4)) * 16))) = b8 ((5 + (no : Int) / 4) * 16) := by
 rw [tdv (by omega), w64 (x := (no : Int) / 4) (by omega) (by omega), w64 (x := 5 + (no : Int) / 4) (by omega) (by omega), w64 (by omega) (by omega), u8_wrap]
abbrev u32ok (n : Int) : Prop := 0 ≤ n ∧ n ≤ 4294967295
theorem tcpPut_v (t : Tc) (h : t.op.length ≤ 4611686018427387904) (hs : smallL t.op = true) (hq : u32ok t.sq) (ha : u32ok t.ak) : callV Etcc af_tcpPut [t.v] = some (.tup [.ownv 5 (.bytes (tcP t)), .int .i64 (tcEr t)]) := by
 obtain ⟨sp, dp, sq, ak, fl, wn, sm, ug, op, pl⟩ := t
 simp only at h hs hq ha
 rw [Tc.v, tcpPut_t, hs]
 unfold tcP
 by_cases h0 : tcEr ⟨sp, dp, sq, ak, fl, wn, sm, ug, op, pl⟩ = 0
 ·rw [if_pos h0]
  obtain ⟨_, h8, h9⟩ := tcEr_zero h0
  simp only at h8 h9
  obtain ⟨p1, p2, _⟩ := putO_len h8
  rw [h0, e13a p1, List.append_nil]
  have l1 : (two sp ++ two dp ++ four sq).length = 8 := rfl
  have l2 : (two sp ++ two dp ++ four sq ++ four ak).length = 12 := rfl
  have l3 : ((b8 (sp / (256 : Int)) :: b8 sp :: b8 (dp / (256 : Int)) :: b8 dp :: b8 (sq / (16777216 : Int)) :: b8 (sq / (65536 : Int)) :: b8 (sq / (256 : Int)) :: b8 sq :: b8 (ak / (16777216 : Int)) :: b8 (ak / (65536 : Int)) :: b8 (ak / (256 : Int)) :: b8 ak :: b8 ((5 + ((putO (tls op)).length : Int) / 4) * 16) :: u8 (IntKind.u8.wrap fl) :: b8 (wn / (256 : Int)) :: b8 wn :: b8 (sm / (256 : Int)) :: b8 sm :: two ug) ++ (putO (tls op) ++ pl)).length ≤ 140737488355328 := by
   rw [List.length_append, List.length_append]
   simp only [List.length_cons, two, List.length_nil]
   omega
  simp (disch := omega) only [tre]
  rfl
 ·rw [if_neg h0]
  simp (disch := omega) only [tre]
theorem rTcpPut_v (t : Tc) (h : t.op.length ≤ 4611686018427387904) (hs : smallL t.op = true) (hq : u32ok t.sq) (ha : u32ok t.ak) : callV Etcc af_rTcpPut [t.v] = some (.tup [.ownv 5 (.bytes (tcP t)), .int .i64 (tcEr t)]) := by
 obtain ⟨sp, dp, sq, ak, fl, wn, sm, ug, op, pl⟩ := t
 simp only at h hs hq ha
 rw [Tc.v, rTcpPut_t, hs]
 unfold tcP
 by_cases h0 : tcEr ⟨sp, dp, sq, ak, fl, wn, sm, ug, op, pl⟩ = 0
 ·rw [if_pos h0]
  obtain ⟨_, h8, h9⟩ := tcEr_zero h0
  simp only at h8 h9
  obtain ⟨p1, p2, _⟩ := putO_len h8
  rw [h0, e13b p1]
  have e : two sp ++ two dp ++ four sq ++ four ak ++ b8 ((5 + ((putO (tls op)).length : Int) / 4) * 16) :: u8 (IntKind.u8.wrap fl) :: List.replicate (nat_lit 0) (0 : UInt8) ++ two wn ++ two sm ++ two ug = tcHd ⟨sp, dp, sq, ak, fl, wn, sm, ug, op, pl⟩ (putO (tls op)).length := rfl
  rw [e, List.append_assoc _ _ pl]
  have l1 : (tcHd ⟨sp, dp, sq, ak, fl, wn, sm, ug, op, pl⟩ (putO (tls op)).length ++ putO (tls op)).length ≤ 60 := by rw [List.length_append, tcHd_len]; omega
  have l2 : (tcHd ⟨sp, dp, sq, ak, fl, wn, sm, ug, op, pl⟩ (putO (tls op)).length ++ (putO (tls op) ++ pl)).length ≤ 70000 := by rw [List.length_append, List.length_append, tcHd_len]; omega
  simp (disch := omega) only [tre]
 ·rw [if_neg h0]
  simp (disch := omega) only [tre]
def cTcpPut : List V → Option (V × Bool)
 | [.agg [.int .i64 sp, .int .i64 dp, .int .u32 sq, .int .u32 ak, .int .i64 fl, .int .i64 wn, .int .i64 sm, .int .i64 ug, .rows (.agg [.int .i64, .bytes]) op, .bytes pl]] => some (.tup [.ownv 5 (.bytes (tcP ⟨sp, dp, sq, ak, fl, wn, sm, ug, op, pl⟩)), .int .i64 (tcEr ⟨sp, dp, sq, ak, fl, wn, sm, ug, op, pl⟩)], (decide (op.length ≤ 4611686018427387904) && (smallL op && decide (u32ok sq ∧ u32ok ak))))
 | _ => none
theorem cTcpPut_h {op : List V} {sq ak : Int} (hb : (decide (op.length ≤ 4611686018427387904) && (smallL op && decide (u32ok sq ∧ u32ok ak))) = true) : op.length ≤ 4611686018427387904 ∧ smallL op = true ∧ u32ok sq ∧ u32ok ak := by
 simp only [Bool.and_eq_true] at hb
 exact ⟨of_decide_eq_true hb.1, hb.2.1, of_decide_eq_true hb.2.2⟩
theorem tcpPut_con : ∀ vs v, cTcpPut vs = some (v, true) → SpecV Tryz.prog 104 vs v := by
 intro vs v h; unfold cTcpPut at h; split at h
 ·rename_i sp dp sq ak fl wn sm ug op pl
  injection h with h; injection h with h hb; subst h
  exact callV_ok Etcc_ok af_tcpPut_ok ((cTcpPut_h hb).elim fun a b => tcpPut_v ⟨sp, dp, sq, ak, fl, wn, sm, ug, op, pl⟩ a b.1 b.2.1 b.2.2)
 ·cases h
theorem rTcpPut_con : ∀ vs v, cTcpPut vs = some (v, true) → SpecV Tryz.prog 52 vs v := by
 intro vs v h; unfold cTcpPut at h; split at h
 ·rename_i sp dp sq ak fl wn sm ug op pl
  injection h with h; injection h with h hb; subst h
  exact callV_ok Etcc_ok af_rTcpPut_ok ((cTcpPut_h hb).elim fun a b => rTcpPut_v ⟨sp, dp, sq, ak, fl, wn, sm, ug, op, pl⟩ a b.1 b.2.1 b.2.2)
 ·cases h
noncomputable def af_tcpField : AF := afOf Tryz.prog Tryz.f175 [.unr 6]
theorem af_tcpField_ok : AllOk Tryz.prog 175 af_tcpField := .flat Tryz.func175 (by kernel_rfl) (by kernel_rfl) (by kernel_rfl) (by kernel_rfl) (by kernel_rfl)
noncomputable def af_tcF1 : AF := afOf Tryz.prog Tryz.f178 []
theorem af_tcF1_ok : AllOk Tryz.prog 178 af_tcF1 := .flat Tryz.func178 (by kernel_rfl) (by kernel_rfl) (by kernel_rfl) (by kernel_rfl) (by kernel_rfl)
noncomputable def af_tcF2 : AF := afOf Tryz.prog Tryz.f179 []
theorem af_tcF2_ok : AllOk Tryz.prog 179 af_tcF2 := .flat Tryz.func179 (by kernel_rfl) (by kernel_rfl) (by kernel_rfl) (by kernel_rfl) (by kernel_rfl)
noncomputable def af_tcF3 : AF := afOf Tryz.prog Tryz.f180 []
theorem af_tcF3_ok : AllOk Tryz.prog 180 af_tcF3 := .flat Tryz.func180 (by kernel_rfl) (by kernel_rfl) (by kernel_rfl) (by kernel_rfl) (by kernel_rfl)
noncomputable def af_tcF4 : AF := afOf Tryz.prog Tryz.f181 []
theorem af_tcF4_ok : AllOk Tryz.prog 181 af_tcF4 := .flat Tryz.func181 (by kernel_rfl) (by kernel_rfl) (by kernel_rfl) (by kernel_rfl) (by kernel_rfl)
noncomputable def af_tcF5 : AF := afOf Tryz.prog Tryz.f182 []
theorem af_tcF5_ok : AllOk Tryz.prog 182 af_tcF5 := .flat Tryz.func182 (by kernel_rfl) (by kernel_rfl) (by kernel_rfl) (by kernel_rfl) (by kernel_rfl)
noncomputable def af_tcpParse : AF := afOf Tryz.prog Tryz.f172 []
theorem af_tcpParse_ok : AllOk Tryz.prog 172 af_tcpParse := .flat Tryz.func172 (by kernel_rfl) (by kernel_rfl) (by kernel_rfl) (by kernel_rfl) (by kernel_rfl)
noncomputable def af_rTcpParse : AF := afOf Tryz.prog Tryz.f37 []
theorem af_rTcpParse_ok : AllOk Tryz.prog 37 af_rTcpParse := .flat Tryz.func37 (by kernel_rfl) (by kernel_rfl) (by kernel_rfl) (by kernel_rfl) (by kernel_rfl)
noncomputable def af_rTcTwo : AF := afOf Tryz.prog Tryz.f63 []
theorem af_rTcTwo_ok : AllOk Tryz.prog 63 af_rTcTwo := .flat Tryz.func63 (by kernel_rfl) (by kernel_rfl) (by kernel_rfl) (by kernel_rfl) (by kernel_rfl)
noncomputable def af_rTcFour : AF := afOf Tryz.prog Tryz.f64 []
theorem af_rTcFour_ok : AllOk Tryz.prog 64 af_rTcFour := .flat Tryz.func64 (by kernel_rfl) (by kernel_rfl) (by kernel_rfl) (by kernel_rfl) (by kernel_rfl)
noncomputable def GEtce0 : List (Nat × Con) := [(94, .val [.bytes, .int .i64] cU16), (68, .val [.bytes, .int .i64] cU32)]
theorem GEtce0_ok : GOk Tryz.prog GEtce0 := .cons (enters_of Tryz.func94 (by kernel_rfl) rfl) rU16_con <| .cons (enters_of Tryz.func68 (by kernel_rfl) rfl) rU32_con <| .nil
noncomputable def IEtce0 : List (Nat × AF) := []
theorem IEtce0_ok : IOk Tryz.prog IEtce0 := .nil
noncomputable def CEtce0 : List (Nat × (List Nat × (S → Option (Bool × Tr)))) := []
theorem CEtce0_ok : COk Tryz.prog CEtce0 := .nil
noncomputable def XEtce0 : List (Nat × (List Sh × (List V → PT))) := []
theorem XEtce0_ok : XOk Tryz.prog XEtce0 := .nil
noncomputable def Etce0 : Env := ⟨Tryz.prog, GEtce0, IEtce0, CEtce0, XEtce0, false⟩
theorem Etce0_ok : EnvOk Etce0 := ⟨by kernel_rfl, GEtce0_ok, IEtce0_ok, CEtce0_ok, XEtce0_ok⟩
theorem rTcTwo_v (b : List UInt8) (i : Int) : callV Etce0 af_rTcTwo [.bytes b, .int .i64 i] = some (.int .i64 (u16 b i).1) := by kernel_rfl
theorem rTcFour_t (b : List UInt8) (i : Int) : callV Etce0 af_rTcFour [.bytes b, .int .i64 i] = bif andT true (decide (i ≤ 9223372036854775807)) then some (.int .u32 (u32 b i).1) else none := by kernel_rfl
theorem rTcFour_v (b : List UInt8) (i : Int) (h : i ≤ 9223372036854775807) : callV Etce0 af_rTcFour [.bytes b, .int .i64 i] = some (.int .u32 (u32 b i).1) := by
 rw [rTcFour_t, decide_eq_true h]; rfl
def cTcTwo : List V → Option (V × Bool)
 | [.bytes b, .int .i64 i] => some (.int .i64 (u16 b i).1, true)
 | _ => none
def cTcFour : List V → Option (V × Bool)
 | [.bytes b, .int .i64 i] => some (.int .u32 (u32 b i).1, decide (i ≤ 9223372036854775807))
 | _ => none
theorem rTcTwo_con : ∀ vs v, cTcTwo vs = some (v, true) → SpecV Tryz.prog 63 vs v := by
 intro vs v h; unfold cTcTwo at h; split at h
 ·rename_i b i
  injection h with h; injection h with h hb; subst h
  exact callV_ok Etce0_ok af_rTcTwo_ok (rTcTwo_v b i)
 ·cases h
theorem rTcFour_con : ∀ vs v, cTcFour vs = some (v, true) → SpecV Tryz.prog 64 vs v := by
 intro vs v h; unfold cTcFour at h; split at h
 ·rename_i b i
  injection h with h; injection h with h hb; subst h
  exact callV_ok Etce0_ok af_rTcFour_ok (rTcFour_v b i (of_decide_eq_true hb))
 ·cases h
noncomputable def GEtce : List (Nat × Con) := [(174, .val [.bytes] cTopPar), (62, .val [.bytes] cTopPar), (121, .val [.bytes] cClone), (114, .val [.bytes, .int .i64] cU16), (113, .val [.bytes, .int .i64] cU32), (63, .val [.bytes, .int .i64] cTcTwo), (64, .val [.bytes, .int .i64] cTcFour)]
theorem GEtce_ok : GOk Tryz.prog GEtce := .cons (enters_of Tryz.func174 (by kernel_rfl) rfl) TopPar_con <| .cons (enters_of Tryz.func62 (by kernel_rfl) rfl) rToptParse_con <| .cons (enters_of Tryz.func121 (by kernel_rfl) rfl) Clone_con <| .cons (enters_of Tryz.func114 (by kernel_rfl) rfl) U16_con <| .cons (enters_of Tryz.func113 (by kernel_rfl) rfl) U32_con <| .cons (enters_of Tryz.func63 (by kernel_rfl) rfl) rTcTwo_con <| .cons (enters_of Tryz.func64 (by kernel_rfl) rfl) rTcFour_con <| .nil
noncomputable def IEtce : List (Nat × AF) := [(175, af_tcpField), (178, af_tcF1), (179, af_tcF2), (180, af_tcF3), (181, af_tcF4), (182, af_tcF5)]
theorem IEtce_ok : IOk Tryz.prog IEtce := .cons af_tcpField_ok <| .cons af_tcF1_ok <| .cons af_tcF2_ok <| .cons af_tcF3_ok <| .cons af_tcF4_ok <| .cons af_tcF5_ok <| .nil
noncomputable def CEtce : List (Nat × (List Nat × (S → Option (Bool × Tr)))) := []
theorem CEtce_ok : COk Tryz.prog CEtce := .nil
noncomputable def XEtce : List (Nat × (List Sh × (List V → PT))) := []
theorem XEtce_ok : XOk Tryz.prog XEtce := .nil
noncomputable def Etce : Env := ⟨Tryz.prog, GEtce, IEtce, CEtce, XEtce, false⟩
theorem Etce_ok : EnvOk Etce := ⟨by kernel_rfl, GEtce_ok, IEtce_ok, CEtce_ok, XEtce_ok⟩
theorem tcpParse_t (b : List UInt8) : callV Etce af_tcpParse [.bytes b] =
 bif decide ((↑b.length : Int) < (20 : Int)) then
 some
 (V.tup
 [V.agg
 [V.int IntKind.i64 0, V.int IntKind.i64 0, V.int IntKind.u32 0,
 V.int IntKind.u32 0, V.int IntKind.i64 0, V.int IntKind.i64 0,
 V.int IntKind.i64 0, V.int IntKind.i64 0,
 V.rows (Sh.agg [Sh.int IntKind.i64, Sh.bytes]) [], V.bytes []],
 V.int IntKind.i64 3])
 else
 bif andT true (inB (12 : Int) b.length) then
 bif bits BinOp.and IntKind.u8 (gt b (12 : Nat)) (15 : Int) != (0 : Int) then
 bif andT true (inB (12 : Int) b.length) then
 some
 (V.tup
 [V.agg
 [V.int IntKind.i64 0, V.int IntKind.i64 0, V.int IntKind.u32 0,
 V.int IntKind.u32 0, V.int IntKind.i64 0, V.int IntKind.i64 0,
 V.int IntKind.i64 0, V.int IntKind.i64 0,
 V.rows (Sh.agg [Sh.int IntKind.i64, Sh.bytes]) [], V.bytes []],
 V.int IntKind.i64 5])
 else none
 else
 bif andT true (inB (12 : Int) b.length) then
 bif
 decide
 (IntKind.i64.wrap (IntKind.i64.wrap ((gt b (12 : Nat)).fdiv (16 : Int)) * (4 : Int)) < (20 : Int)) then
 some
 (V.tup
 [V.agg
 [V.int IntKind.i64 0, V.int IntKind.i64 0, V.int IntKind.u32 0,
 V.int IntKind.u32 0, V.int IntKind.i64 0, V.int IntKind.i64 0,
 V.int IntKind.i64 0, V.int IntKind.i64 0,
 V.rows (Sh.agg [Sh.int IntKind.i64, Sh.bytes]) [], V.bytes []],
 V.int IntKind.i64 5])
 else
 bif
 decide
 (IntKind.i64.wrap (IntKind.i64.wrap ((gt b (12 : Nat)).fdiv (16 : Int)) * (4 : Int)) >
 (↑b.length : Int)) then
 some
 (V.tup
 [V.agg
 [V.int IntKind.i64 0, V.int IntKind.i64 0, V.int IntKind.u32 0,
 V.int IntKind.u32 0, V.int IntKind.i64 0, V.int IntKind.i64 0,
 V.int IntKind.i64 0, V.int IntKind.i64 0,
 V.rows (Sh.agg [Sh.int IntKind.i64, Sh.bytes]) [], V.bytes []],
 V.int IntKind.i64 3])
 else
 bif
 andT true
 (Am.inC (20 : Int)
 (IntKind.i64.wrap (IntKind.i64.wrap ((gt b (12 : Nat)).fdiv (16 : Int)) * (4 : Int))).toNat &&
 Am.inC (IntKind.i64.wrap (IntKind.i64.wrap ((gt b (12 : Nat)).fdiv (16 : Int)) * (4 : Int)))
 b.length) then
 bif
 topE
 (cutL b (20 : Nat)
 (IntKind.i64.wrap
 (IntKind.i64.wrap ((gt b (12 : Nat)).fdiv (16 : Int)) * (4 : Int))).toNat) !=
 (0 : Int) then
 some
 (V.tup
 [V.agg
 [V.int IntKind.i64 0, V.int IntKind.i64 0, V.int IntKind.u32 0,
 V.int IntKind.u32 0, V.int IntKind.i64 0, V.int IntKind.i64 0,
 V.int IntKind.i64 0, V.int IntKind.i64 0,
 V.rows (Sh.agg [Sh.int IntKind.i64, Sh.bytes]) [], V.bytes []],
 V.int IntKind.i64
 (topE
 (cutL b (20 : Nat)
 (IntKind.i64.wrap
 (IntKind.i64.wrap ((gt b (12 : Nat)).fdiv (16 : Int)) * (4 : Int))).toNat))])
 else
 bif
 andT
 (andT (andT true (inB (13 : Int) b.length))
 (Am.inC
 (IntKind.i64.wrap (IntKind.i64.wrap ((gt b (12 : Nat)).fdiv (16 : Int)) * (4 : Int)))
 b.length))
 (decide
 ((cutL b
 (IntKind.i64.wrap
 (IntKind.i64.wrap ((gt b (12 : Nat)).fdiv (16 : Int)) * (4 : Int))).toNat
 b.length).length ≤
 (140737488355328 : Nat))) &&
 true then
 some
 (V.tup
 [V.agg
 [V.int IntKind.i64 (u16 b (0 : Int)).1, V.int IntKind.i64 (u16 b (2 : Int)).1,
 V.int IntKind.u32 (u32 b (4 : Int)).1, V.int IntKind.u32 (u32 b (8 : Int)).1,
 V.int IntKind.i64 (IntKind.i64.wrap (gt b (13 : Nat))),
 V.int IntKind.i64 (u16 b (14 : Int)).1, V.int IntKind.i64 (u16 b (16 : Int)).1,
 V.int IntKind.i64 (u16 b (18 : Int)).1,
 V.rows (Sh.agg [Sh.int IntKind.i64, Sh.bytes])
 (topP
 (cutL b (20 : Nat)
 (IntKind.i64.wrap
 (IntKind.i64.wrap ((gt b (12 : Nat)).fdiv (16 : Int)) * (4 : Int))).toNat)),
 V.bytes
 (cutL b
 (IntKind.i64.wrap
 (IntKind.i64.wrap ((gt b (12 : Nat)).fdiv (16 : Int)) * (4 : Int))).toNat
 b.length)],
 V.int IntKind.i64 0])
 else none
 else none
 else none
 else none := by kernel_rfl
theorem rTcpParse_t (b : List UInt8) : callV Etce af_rTcpParse [.bytes b] =
 bif decide ((↑b.length : Int) < (20 : Int)) then
 some
 (V.tup
 [V.agg
 [V.int IntKind.i64 0, V.int IntKind.i64 0, V.int IntKind.u32 0,
 V.int IntKind.u32 0, V.int IntKind.i64 0, V.int IntKind.i64 0,
 V.int IntKind.i64 0, V.int IntKind.i64 0,
 V.rows (Sh.agg [Sh.int IntKind.i64, Sh.bytes]) [], V.bytes []],
 V.int IntKind.i64 3])
 else
 bif (gt b (12 : Nat)).tmod (16 : Int) != (0 : Int) then
 bif andT true (inB (12 : Int) b.length) then
 some
 (V.tup
 [V.agg
 [V.int IntKind.i64 0, V.int IntKind.i64 0, V.int IntKind.u32 0,
 V.int IntKind.u32 0, V.int IntKind.i64 0, V.int IntKind.i64 0,
 V.int IntKind.i64 0, V.int IntKind.i64 0,
 V.rows (Sh.agg [Sh.int IntKind.i64, Sh.bytes]) [], V.bytes []],
 V.int IntKind.i64 5])
 else none
 else
 bif andT (andT true (inB (12 : Int) b.length)) (inB (12 : Int) b.length) then
 bif decide (IntKind.u8.wrap ((gt b (12 : Nat)).tdiv (16 : Int)) < (5 : Int)) then
 some
 (V.tup
 [V.agg
 [V.int IntKind.i64 0, V.int IntKind.i64 0, V.int IntKind.u32 0,
 V.int IntKind.u32 0, V.int IntKind.i64 0, V.int IntKind.i64 0,
 V.int IntKind.i64 0, V.int IntKind.i64 0,
 V.rows (Sh.agg [Sh.int IntKind.i64, Sh.bytes]) [], V.bytes []],
 V.int IntKind.i64 5])
 else
 bif andT true (inB (12 : Int) b.length) then
 bif
 decide
 (IntKind.i64.wrap
 (IntKind.i64.wrap (IntKind.u8.wrap ((gt b (12 : Nat)).tdiv (16 : Int))) * (4 : Int)) >
 (↑b.length : Int)) then
 some
 (V.tup
 [V.agg
 [V.int IntKind.i64 0, V.int IntKind.i64 0, V.int IntKind.u32 0,
 V.int IntKind.u32 0, V.int IntKind.i64 0, V.int IntKind.i64 0,
 V.int IntKind.i64 0, V.int IntKind.i64 0,
 V.rows (Sh.agg [Sh.int IntKind.i64, Sh.bytes]) [], V.bytes []],
 V.int IntKind.i64 3])
 else
 bif
 andT true
 (Am.inC (20 : Int)
 (IntKind.i64.wrap
 (IntKind.i64.wrap (IntKind.u8.wrap ((gt b (12 : Nat)).tdiv (16 : Int))) *
 (4 : Int))).toNat &&
 Am.inC
 (IntKind.i64.wrap
 (IntKind.i64.wrap (IntKind.u8.wrap ((gt b (12 : Nat)).tdiv (16 : Int))) * (4 : Int)))
 b.length) then
 bif
 topE
 (cutL b (20 : Nat)
 (IntKind.i64.wrap
 (IntKind.i64.wrap (IntKind.u8.wrap ((gt b (12 : Nat)).tdiv (16 : Int))) *
 (4 : Int))).toNat) !=
 (0 : Int) then
 some
 (V.tup
 [V.agg
 [V.int IntKind.i64 0, V.int IntKind.i64 0, V.int IntKind.u32 0,
 V.int IntKind.u32 0, V.int IntKind.i64 0, V.int IntKind.i64 0,
 V.int IntKind.i64 0, V.int IntKind.i64 0,
 V.rows (Sh.agg [Sh.int IntKind.i64, Sh.bytes]) [], V.bytes []],
 V.int IntKind.i64
 (topE
 (cutL b (20 : Nat)
 (IntKind.i64.wrap
 (IntKind.i64.wrap (IntKind.u8.wrap ((gt b (12 : Nat)).tdiv (16 : Int))) *
 (4 : Int))).toNat))])
 else
 bif
 andT
 (andT (andT true (inB (13 : Int) b.length))
 (Am.inC
 (IntKind.i64.wrap
 (IntKind.i64.wrap (IntKind.u8.wrap ((gt b (12 : Nat)).tdiv (16 : Int))) * (4 : Int)))
 b.length))
 (((List.replicate (0 : Nat) (0 : UInt8) ++
 cutL b
 (IntKind.i64.wrap
 (IntKind.i64.wrap (IntKind.u8.wrap ((gt b (12 : Nat)).tdiv (16 : Int))) *
 (4 : Int))).toNat
 b.length).length *
 (1 : Nat)).ble
 (140737488355328 : Nat)) &&
 true then
 some
 (V.tup
 [V.agg
 [V.int IntKind.i64 (u16 b (0 : Int)).1, V.int IntKind.i64 (u16 b (2 : Int)).1,
 V.int IntKind.u32 (u32 b (4 : Int)).1, V.int IntKind.u32 (u32 b (8 : Int)).1,
 V.int IntKind.i64 (IntKind.i64.wrap (gt b (13 : Nat))),
 V.int IntKind.i64 (u16 b (14 : Int)).1, V.int IntKind.i64 (u16 b (16 : Int)).1,
 V.int IntKind.i64 (u16 b (18 : Int)).1,
 V.rows (Sh.agg [Sh.int IntKind.i64, Sh.bytes])
 (topP
 (cutL b (20 : Nat)
 (IntKind.i64.wrap
 (IntKind.i64.wrap (IntKind.u8.wrap ((gt b (12 : Nat)).tdiv (16 : Int))) *
 (4 : Int))).toNat)),
 V.bytes
 (List.replicate (0 : Nat) (0 : UInt8) ++
 cutL b
 (IntKind.i64.wrap
 (IntKind.i64.wrap (IntKind.u8.wrap ((gt b (12 : Nat)).tdiv (16 : Int))) *
 (4 : Int))).toNat
 b.length)],
 V.int IntKind.i64 0])
 else none
 else none
 else none
 else none := by kernel_rfl
def tc0 : Tc := ⟨0, 0, 0, 0, 0, 0, 0, 0, [], []⟩
def tpXX (b : List UInt8) : Tc := if tpE b = 0 then ⟨(u16 b 0).1, (u16 b 2).1, (u32 b 4).1, (u32 b 8).1, gt b 13, (u16 b 14).1, (u16 b 16).1, (u16 b 18).1, topP (tpO b), b.drop (tpH b).toNat⟩ else tc0
theorem and15 (x : UInt8) : bits .and .u8 (x.toNat : Int) 15 = (x.toNat : Int) % 16 := by
 have h : ∀ n : Fin 256, bits .and .u8 (n.val : Int) 15 = (n.val : Int) % 16 := by decide
 exact h ⟨x.toNat, x.toNat_lt⟩
theorem and15g (b : List UInt8) (i : Nat) : bits .and .u8 (gt b i) 15 = gt b i % 16 := and15 _
theorem tpW1 (b : List UInt8) : IntKind.i64.wrap (IntKind.i64.wrap ((gt b 12).fdiv 16) * 4) = tpH b := by
 have h1 := gt_lo b 12
 have h2 := gt_hi b 12
 unfold tpH
 rw [fdv (by omega), w64 (x := gt b 12 / 16) (by omega) (by omega), w64 (by omega) (by omega)]
theorem tcpParse_v (b : List UInt8) (h : b.length ≤ 140737488355328) : callV Etce af_tcpParse [.bytes b] = some (.tup [(tpXX b).v, .int .i64 (tpE b)]) := by
 rw [tcpParse_t]
 simp only [tpW1, and15g]
 have h1 := gt_lo b 12
 have h2 := gt_hi b 12
 have hH : tpH b = gt b 12 / 16 * 4 := rfl
 unfold tpXX
 by_cases c1 : b.length < 20
 ·have e : tpE b = 3 := by unfold tpE; rw [if_pos c1]
  rw [e, if_neg (by decide)]
  simp (disch := omega) only [tre]
  rfl
 by_cases c2 : gt b 12 % 16 ≠ 0
 ·have e : tpE b = 5 := by unfold tpE; rw [if_neg c1, if_pos (.inl c2)]
  rw [e, if_neg (by decide)]
  simp (disch := omega) only [tre]
  rfl
 by_cases c3 : gt b 12 / 16 < 5
 ·have e : tpE b = 5 := by unfold tpE; rw [if_neg c1, if_pos (.inr c3)]
  rw [e, if_neg (by decide)]
  simp (disch := omega) only [tre]
  rfl
 have c4 : ¬ (gt b 12 % 16 ≠ 0 ∨ gt b 12 / 16 < 5) := by omega
 by_cases c5 : gt b 12 / 16 * 4 > b.length
 ·have e : tpE b = 3 := by unfold tpE; rw [if_neg c1, if_neg c4, if_pos c5]
  rw [e, if_neg (by decide)]
  simp (disch := omega) only [tre]
  rfl
 have e : tpE b = topE (tpO b) := by unfold tpE; rw [if_neg c1, if_neg c4, if_neg c5]
 have eO : cutL b 20 (tpH b).toNat = tpO b := rfl
 have hl : (cutL b (tpH b).toNat b.length).length ≤ 140737488355328 := by rw [length_cutL]; omega
 rw [e, eO]
 by_cases c6 : topE (tpO b) = 0
 ·rw [if_pos c6, c6, cutL_all]
  rw [cutL_all] at hl
  have hf := gt_lo b 13
  have hf' := gt_hi b 13
  rw [w64 (x := gt b 13) (by omega) (by omega)]
  simp (disch := omega) only [tre]
  rfl
 ·rw [if_neg c6]
  simp (disch := omega) only [tre]
  rfl
theorem rTcpParse_v (b : List UInt8) (h : b.length ≤ 140737488355328) : callV Etce af_rTcpParse [.bytes b] = some (.tup [(tpXX b).v, .int .i64 (tpE b)]) := by
 rw [rTcpParse_t]
 have h1 := gt_lo b 12
 have h2 := gt_hi b 12
 rw [tmd h1, tdv (a := gt b 12) h1, wu8 (x := gt b 12 / 16) (by omega) (by omega)]
 have eW : IntKind.i64.wrap (IntKind.i64.wrap (gt b 12 / 16) * 4) = tpH b := by
  unfold tpH
  rw [w64 (x := gt b 12 / 16) (by omega) (by omega), w64 (by omega) (by omega)]
 simp only [eW]
 have hH : tpH b = gt b 12 / 16 * 4 := rfl
 unfold tpXX
 by_cases c1 : b.length < 20
 ·have e : tpE b = 3 := by unfold tpE; rw [if_pos c1]
  rw [e, if_neg (by decide)]
  simp (disch := omega) only [tre]
  rfl
 by_cases c2 : gt b 12 % 16 ≠ 0
 ·have e : tpE b = 5 := by unfold tpE; rw [if_neg c1, if_pos (.inl c2)]
  rw [e, if_neg (by decide)]
  simp (disch := omega) only [tre]
  rfl
 by_cases c3 : gt b 12 / 16 < 5
 ·have e : tpE b = 5 := by unfold tpE; rw [if_neg c1, if_pos (.inr c3)]
  rw [e, if_neg (by decide)]
  simp (disch := omega) only [tre]
  rfl
 have c4 : ¬ (gt b 12 % 16 ≠ 0 ∨ gt b 12 / 16 < 5) := by omega
 by_cases c5 : gt b 12 / 16 * 4 > b.length
 ·have e : tpE b = 3 := by unfold tpE; rw [if_neg c1, if_neg c4, if_pos c5]
  rw [e, if_neg (by decide)]
  simp (disch := omega) only [tre]
  rfl
 have e : tpE b = topE (tpO b) := by unfold tpE; rw [if_neg c1, if_neg c4, if_neg c5]
 have eO : cutL b 20 (tpH b).toNat = tpO b := rfl
 have hl : (cutL b (tpH b).toNat b.length).length ≤ 140737488355328 := by rw [length_cutL]; omega
 rw [e, eO]
 by_cases c6 : topE (tpO b) = 0
 ·rw [if_pos c6, c6, cutL_all]
  rw [cutL_all] at hl
  have hf := gt_lo b 13
  have hf' := gt_hi b 13
  rw [w64 (x := gt b 13) (by omega) (by omega), List.replicate_zero, List.nil_append]
  simp (disch := omega) only [tre]
  rfl
 ·rw [if_neg c6]
  simp (disch := omega) only [tre]
  rfl
def cTcpPar : List V → Option (V × Bool)
 | [.bytes b] => some (.tup [(tpXX b).v, .int .i64 (tpE b)], decide (b.length ≤ 140737488355328))
 | _ => none
theorem tcpParse_con : ∀ vs v, cTcpPar vs = some (v, true) → SpecV Tryz.prog 172 vs v := by
 intro vs v h; unfold cTcpPar at h; split at h
 ·rename_i b
  injection h with h; injection h with h hb; subst h
  exact callV_ok Etce_ok af_tcpParse_ok (tcpParse_v b (of_decide_eq_true hb))
 ·cases h
theorem rTcpParse_con : ∀ vs v, cTcpPar vs = some (v, true) → SpecV Tryz.prog 37 vs v := by
 intro vs v h; unfold cTcpPar at h; split at h
 ·rename_i b
  injection h with h; injection h with h hb; subst h
  exact callV_ok Etce_ok af_rTcpParse_ok (rTcpParse_v b (of_decide_eq_true hb))
 ·cases h
noncomputable def af_tcHas : AF := afOf Tryz.prog Tryz.f79 []
theorem af_tcHas_ok : AllOk Tryz.prog 79 af_tcHas := .flat Tryz.func79 (by kernel_rfl) (by kernel_rfl) (by kernel_rfl) (by kernel_rfl) (by kernel_rfl)
noncomputable def af_tcSeal : AF := afOf Tryz.prog Tryz.f105 []
theorem af_tcSeal_ok : AllOk Tryz.prog 105 af_tcSeal := .flat Tryz.func105 (by kernel_rfl) (by kernel_rfl) (by kernel_rfl) (by kernel_rfl) (by kernel_rfl)
noncomputable def af_tcFine : AF := afOf Tryz.prog Tryz.f173 []
theorem af_tcFine_ok : AllOk Tryz.prog 173 af_tcFine := .flat Tryz.func173 (by kernel_rfl) (by kernel_rfl) (by kernel_rfl) (by kernel_rfl) (by kernel_rfl)
noncomputable def af_rTcSeal : AF := afOf Tryz.prog Tryz.f53 []
theorem af_rTcSeal_ok : AllOk Tryz.prog 53 af_rTcSeal := .flat Tryz.func53 (by kernel_rfl) (by kernel_rfl) (by kernel_rfl) (by kernel_rfl) (by kernel_rfl)
noncomputable def GEtcf : List (Nat × Con) := [(104, .val [.agg [.int .i64, .int .i64, .int .u32, .int .u32, .int .i64, .int .i64, .int .i64, .int .i64, .rows (.agg [.int .i64, .bytes]), .bytes]] cTcpPut), (52, .val [.agg [.int .i64, .int .i64, .int .u32, .int .u32, .int .i64, .int .i64, .int .i64, .int .i64, .rows (.agg [.int .i64, .bytes]), .bytes]] cTcpPut), (123, .val [.agg [.int .i64, .int .i64, .int .u32, .int .u32, .int .i64, .int .i64, .int .i64, .int .i64, .rows (.agg [.int .i64, .bytes]), .bytes]] cTcpCan), (81, .val [.agg [.int .i64, .int .i64, .int .u32, .int .u32, .int .i64, .int .i64, .int .i64, .int .i64, .rows (.agg [.int .i64, .bytes]), .bytes]] cTcpCan), (127, .val [.barr 16, .barr 16, .int .i64, .bytes] cChk), (85, .val [.barr 16, .barr 16, .int .i64, .bytes] cChk), (176, .val [.barr 16, .barr 16, .int .i64, .bytes] cFine)]
theorem GEtcf_ok : GOk Tryz.prog GEtcf := .cons (enters_of Tryz.func104 (by kernel_rfl) rfl) tcpPut_con <| .cons (enters_of Tryz.func52 (by kernel_rfl) rfl) rTcpPut_con <| .cons (enters_of Tryz.func123 (by kernel_rfl) rfl) tcpCan_con <| .cons (enters_of Tryz.func81 (by kernel_rfl) rfl) rTcpCan_con <| .cons (enters_of Tryz.func127 (by kernel_rfl) rfl) Chk_con <| .cons (enters_of Tryz.func85 (by kernel_rfl) rfl) rChk_con <| .cons (enters_of Tryz.func176 (by kernel_rfl) rfl) Fine_con <| .nil
noncomputable def IEtcf : List (Nat × AF) := []
theorem IEtcf_ok : IOk Tryz.prog IEtcf := .nil
noncomputable def CEtcf : List (Nat × (List Nat × (S → Option (Bool × Tr)))) := []
theorem CEtcf_ok : COk Tryz.prog CEtcf := .nil
noncomputable def XEtcf : List (Nat × (List Sh × (List V → PT))) := []
theorem XEtcf_ok : XOk Tryz.prog XEtcf := .nil
noncomputable def Etcf : Env := ⟨Tryz.prog, GEtcf, IEtcf, CEtcf, XEtcf, false⟩
theorem Etcf_ok : EnvOk Etcf := ⟨by kernel_rfl, GEtcf_ok, IEtcf_ok, CEtcf_ok, XEtcf_ok⟩
theorem tcSeal_t (s d : List UInt8) (sp dp sq ak fl wn sm ug : Int) (op : List V) (pl : List UInt8) : callV Etcf af_tcSeal [.barr 16 s, .barr 16 d, .agg [.int .i64 sp, .int .i64 dp, .int .u32 sq, .int .u32 ak, .int .i64 fl, .int .i64 wn, .int .i64 sm, .int .i64 ug, .rows (.agg [.int .i64, .bytes]) op, .bytes pl]] =
 bif
 andT true
 (decide (op.length ≤ (4611686018427387904 : Nat)) &&
 (smallL op &&
 decide (((0 : Int) ≤ sq ∧ sq ≤ (4294967295 : Int)) ∧ (0 : Int) ≤ ak ∧ ak ≤ (4294967295 : Int)))) then
 bif
 tcEr { sp := sp, dp := dp, sq := sq, ak := ak, fl := fl, wn := wn, sm := sm, ug := ug, op := op, pl := pl } !=
 (0 : Int) then
 bif andT true (decide (op.length ≤ (4611686018427387904 : Nat)) && smallL op) then
 some
 (V.agg
 [V.int IntKind.i64 sp, V.int IntKind.i64 dp, V.int IntKind.u32 sq, V.int IntKind.u32 ak,
 V.int IntKind.i64 fl, V.int IntKind.i64 wn, V.int IntKind.i64 sm, V.int IntKind.i64 ug,
 V.rows (Sh.agg [Sh.int IntKind.i64, Sh.bytes]) op, V.bytes pl])
 else none
 else
 bif andT true (decide (op.length ≤ (4611686018427387904 : Nat)) && smallL op) then
 bif
 tcEr
 { sp := sp, dp := dp, sq := sq, ak := ak, fl := fl, wn := wn, sm := (0 : Int), ug := ug, op := op, pl := pl } !=
 (0 : Int) then
 some
 (V.agg
 [V.int IntKind.i64 sp, V.int IntKind.i64 dp, V.int IntKind.u32 sq, V.int IntKind.u32 ak,
 V.int IntKind.i64 fl, V.int IntKind.i64 wn, V.int IntKind.i64 sm, V.int IntKind.i64 ug,
 V.rows (Sh.agg [Sh.int IntKind.i64, Sh.bytes]) op, V.bytes pl])
 else
 bif
 andT true
 (decide
 ((tcP
 { sp := sp, dp := dp, sq := sq, ak := ak, fl := fl, wn := wn, sm := (0 : Int), ug := ug, op := op, pl := pl }).length ≤
 (140737488355327 : Nat))) then
 some
 (V.agg
 [V.int IntKind.i64 sp, V.int IntKind.i64 dp, V.int IntKind.u32 sq, V.int IntKind.u32 ak,
 V.int IntKind.i64 fl, V.int IntKind.i64 wn,
 V.int IntKind.i64
 (chk s d (6 : Int)
 (tcP
 { sp := sp, dp := dp, sq := sq, ak := ak, fl := fl, wn := wn, sm := (0 : Int), ug := ug, op := op, pl := pl })),
 V.int IntKind.i64 ug, V.rows (Sh.agg [Sh.int IntKind.i64, Sh.bytes]) op, V.bytes pl])
 else none
 else none
 else none := by kernel_rfl
theorem rTcSeal_t (s d : List UInt8) (sp dp sq ak fl wn sm ug : Int) (op : List V) (pl : List UInt8) : callV Etcf af_rTcSeal [.barr 16 s, .barr 16 d, .agg [.int .i64 sp, .int .i64 dp, .int .u32 sq, .int .u32 ak, .int .i64 fl, .int .i64 wn, .int .i64 sm, .int .i64 ug, .rows (.agg [.int .i64, .bytes]) op, .bytes pl]] =
 bif andT true (decide (op.length ≤ (4611686018427387904 : Nat)) && smallL op) then
 bif
 tcEr { sp := sp, dp := dp, sq := sq, ak := ak, fl := fl, wn := wn, sm := sm, ug := ug, op := op, pl := pl } !=
 (0 : Int) then
 some
 (V.agg
 [V.int IntKind.i64 sp, V.int IntKind.i64 dp, V.int IntKind.u32 sq, V.int IntKind.u32 ak, V.int IntKind.i64 fl,
 V.int IntKind.i64 wn, V.int IntKind.i64 sm, V.int IntKind.i64 ug,
 V.rows (Sh.agg [Sh.int IntKind.i64, Sh.bytes]) op, V.bytes pl])
 else
 bif
 andT true
 (decide (op.length ≤ (4611686018427387904 : Nat)) &&
 (smallL op &&
 decide (((0 : Int) ≤ sq ∧ sq ≤ (4294967295 : Int)) ∧ (0 : Int) ≤ ak ∧ ak ≤ (4294967295 : Int)))) then
 bif
 andT true
 (decide
 ((tcP
 { sp := sp, dp := dp, sq := sq, ak := ak, fl := fl, wn := wn, sm := (0 : Int), ug := ug, op := op, pl := pl }).length ≤
 (140737488355327 : Nat))) then
 some
 (V.agg
 [V.int IntKind.i64 sp, V.int IntKind.i64 dp, V.int IntKind.u32 sq, V.int IntKind.u32 ak,
 V.int IntKind.i64 fl, V.int IntKind.i64 wn,
 V.int IntKind.i64
 (chk s d (6 : Int)
 (tcP
 { sp := sp, dp := dp, sq := sq, ak := ak, fl := fl, wn := wn, sm := (0 : Int), ug := ug, op := op, pl := pl })),
 V.int IntKind.i64 ug, V.rows (Sh.agg [Sh.int IntKind.i64, Sh.bytes]) op, V.bytes pl])
 else none
 else none
 else none := by kernel_rfl
theorem tcHas_t (sp dp sq ak fl wn sm ug : Int) (op : List V) (pl : List UInt8) (k : Int) : callV Etcf af_tcHas [.agg [.int .i64 sp, .int .i64 dp, .int .u32 sq, .int .u32 ak, .int .i64 fl, .int .i64 wn, .int .i64 sm, .int .i64 ug, .rows (.agg [.int .i64, .bytes]) op, .bytes pl], .int .i64 k] =
 some (V.bool (bits BinOp.and IntKind.i64 fl k == k)) := by kernel_rfl
theorem tcFine_v (s d l : List UInt8) (h : l.length ≤ 140737488355327) : callV Etcf af_tcFine [.barr 16 s, .barr 16 d, .bytes l] = some (.bool (both s d 6 l == 65535)) := by
 have e : callV Etcf af_tcFine [.barr 16 s, .barr 16 d, .bytes l] = bif andT true (decide (l.length ≤ 140737488355327)) then some (.bool (both s d 6 l == 65535)) else none := by kernel_rfl
 rw [e]
 simp (disch := omega) only [tre]
def cTcHas : List V → Option (V × Bool)
 | [.agg [.int .i64 sp, .int .i64 dp, .int .u32 sq, .int .u32 ak, .int .i64 fl, .int .i64 wn, .int .i64 sm, .int .i64 ug, .rows (.agg [.int .i64, .bytes]) op, .bytes pl], .int .i64 k] => some (.bool (bits .and .i64 fl k == k), true)
 | _ => none
def cTcFine : List V → Option (V × Bool)
 | [.barr 16 s, .barr 16 d, .bytes l] => some (.bool (both s d 6 l == 65535), decide (l.length ≤ 140737488355327))
 | _ => none
theorem tcHas_con : ∀ vs v, cTcHas vs = some (v, true) → SpecV Tryz.prog 79 vs v := by
 intro vs v h; unfold cTcHas at h; split at h
 ·rename_i sp dp sq ak fl wn sm ug op pl k
  injection h with h; injection h with h hb; subst h
  exact callV_ok Etcf_ok af_tcHas_ok (tcHas_t sp dp sq ak fl wn sm ug op pl k)
 ·cases h
theorem tcFine_con : ∀ vs v, cTcFine vs = some (v, true) → SpecV Tryz.prog 173 vs v := by
 intro vs v h; unfold cTcFine at h; split at h
 ·rename_i s d l
  injection h with h; injection h with h hb; subst h
  exact callV_ok Etcf_ok af_tcFine_ok (tcFine_v s d l (of_decide_eq_true hb))
 ·cases h
def tcS (s d : List UInt8) (t : Tc) : Tc := if tcEr t = 0 then { t with sm := chk s d 6 (tcP { t with sm := 0 }) } else t
theorem tcEr_sm {t : Tc} (h : tcEr t = 0) {n : Int} (hn : n16 n) : tcEr { t with sm := n } = 0 := by
 obtain ⟨⟨h1, h2, h3, h4, h5, h6, h7⟩, h8, h9⟩ := tcEr_zero h
 unfold tcEr
 rw [if_pos ⟨h1, h2, h3, hn, h5, h6, h7⟩, if_pos h8, if_neg (by simp only; omega)]
theorem tcSeal_v (s d : List UInt8) (t : Tc) (h : t.op.length ≤ 4611686018427387904) (hs : smallL t.op = true) (hq : u32ok t.sq) (ha : u32ok t.ak) : callV Etcf af_tcSeal [.barr 16 s, .barr 16 d, t.v] = some (tcS s d t).v := by
 unfold tcS
 have h0 : tcEr t = 0 → tcEr { t with sm := 0 } = 0 := fun e => tcEr_sm e (by decide)
 have hl : tcEr t = 0 → (tcP { t with sm := 0 }).length ≤ 140737488355327 := fun e => Nat.le_trans (tcp_len (h0 e)).2 (by decide)
 obtain ⟨sp, dp, sq, ak, fl, wn, sm, ug, op, pl⟩ := t
 simp only at h hs hq ha h0 hl
 rw [Tc.v, tcSeal_t, hs]
 by_cases e : tcEr ⟨sp, dp, sq, ak, fl, wn, sm, ug, op, pl⟩ = 0
 ·have h0 := h0 e
  have hl := hl e
  rw [if_pos e]
  simp (disch := omega) only [tre]
  rfl
 ·rw [if_neg e]
  simp (disch := omega) only [tre]
  rfl
def cTcSeal : List V → Option (V × Bool)
 | [.barr 16 s, .barr 16 d, .agg [.int .i64 sp, .int .i64 dp, .int .u32 sq, .int .u32 ak, .int .i64 fl, .int .i64 wn, .int .i64 sm, .int .i64 ug, .rows (.agg [.int .i64, .bytes]) op, .bytes pl]] => some ((tcS s d ⟨sp, dp, sq, ak, fl, wn, sm, ug, op, pl⟩).v, (decide (op.length ≤ 4611686018427387904) && (smallL op && decide (u32ok sq ∧ u32ok ak))))
 | _ => none
theorem tcSeal_con : ∀ vs v, cTcSeal vs = some (v, true) → SpecV Tryz.prog 105 vs v := by
 intro vs v h; unfold cTcSeal at h; split at h
 ·rename_i s d sp dp sq ak fl wn sm ug op pl
  injection h with h; injection h with h hb; subst h
  exact callV_ok Etcf_ok af_tcSeal_ok ((cTcpPut_h hb).elim fun a b => tcSeal_v s d ⟨sp, dp, sq, ak, fl, wn, sm, ug, op, pl⟩ a b.1 b.2.1 b.2.2)
 ·cases h
end Go.Proofs.YtfhljcbbgckdiaaGreat