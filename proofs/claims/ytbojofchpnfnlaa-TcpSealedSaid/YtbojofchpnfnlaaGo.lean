/- Part Go of the proof: laws used by the law of this claim. -/
import Derived.Test.YtbojofchpnfnlaaGn
import Derived.Test.YtbojofchpnfnlaaGl
import Derived.Test.YtbojofchpnfnlaaGd
set_option linter.all false
namespace Go.Proofs.Ytbojofchpnfnlaa
open Go Go.Am Go.RowKit Go.Mix Go.Bas
set_option maxRecDepth 100000
def jnB : List V → List UInt8
  | [] => []
  | v :: r => toL v ++ jnB r
def cJoinB : List V → Option (V × Bool)
  | [.rows .bytes l] => some (.ownv 5 (.bytes (jnB l)), decide ((jnB l).length ≤ 140737488355328))
  | _ => none
theorem jnB_flat (l : List V) : jnB l = (l.map toL).flatten := by
  induction l with
  | nil => rfl
  | cons v r ih => rw [jnB, ih]; rfl
theorem bytes_of {v : V} (h : isR .bytes v = true) : v = .bytes (toL v) := by
  cases v <;> first | rfl | (simp [isR] at h)
theorem reps_bss {w : World} {O : Nat → Prop} : ∀ {l : List V} {ds : List Value}, (∀ x ∈ l, isR .bytes x = true) → CReps no O w l ds → ds.length = l.length ∧ ∀ j (hj : j < (l.map toL).length), ∃ A n c, ds[j]? = some (.slice A n c) ∧ Bs w A n c (l.map toL)[j]
  | [], ds, _, h => by cases h; exact ⟨rfl, fun j hj => by simp at hj⟩
  | v :: r, ds, he, h => by
    cases h with
    | cons h1 h2 =>
      obtain ⟨i1, i2⟩ := reps_bss (fun x hx => he x (List.mem_cons_of_mem _ hx)) h2
      have hv := bytes_of (he v (List.mem_cons_self ..))
      rw [hv] at h1
      cases h1 with
      | bytes hb ho =>
        refine ⟨by simp [i1], fun j hj => ?_⟩
        cases j with
        | zero => exact ⟨_, _, _, rfl, hb⟩
        | succ j =>
          obtain ⟨A, n, c, e, hB⟩ := i2 j (by simpa using hj)
          exact ⟨A, n, c, by simpa using e, by simpa using hB⟩
theorem Join_con : ∀ vs v, cJoinB vs = some (v, true) → SpecV Try.prog 59 vs v := by
  intro vs v h; unfold cJoinB at h; split at h
  · rename_i l
    injection h with h; injection h with h hb; subst h
    have hb := of_decide_eq_true hb
    intro O w cs hO hv
    obtain ⟨a, rfl, ha⟩ := hv.one_inv
    cases ha with
    | one h ha =>
      cases h with
      | rows hn hc hm he hr hd =>
        obtain ⟨r1, r2⟩ := reps_bss he hr
        have hB : Bss w _ _ _ (l.map toL) := ⟨by rw [List.length_map]; exact hn, hc, hm, fun hne => by
          obtain ⟨b, off, hA, _, hlt, hce⟩ := hd (by intro e; rw [e] at hne; exact hne rfl)
          refine ⟨b, off, hA, hlt, fun j hj => ?_⟩
          obtain ⟨A', n', c', e, hB⟩ := r2 j hj
          exact ⟨A', n', c', hce j _ e, hB⟩⟩
        rw [jnB_flat] at hb ⊢
        exact kOwn (Join_calls _ _ _ _ _ hB hb)
    | agg h ha => cases ha
  · cases h
/-- a segment as a value -/
structure Tc where
  (sp dp sq ak fl wn sm ug : Int)
  (op : List V)
  (pl : List UInt8)
def Tc.v (t : Tc) : V := .agg [.int .i64 t.sp, .int .i64 t.dp, .int .u32 t.sq, .int .u32 t.ak, .int .i64 t.fl, .int .i64 t.wn, .int .i64 t.sm, .int .i64 t.ug, .rows (.agg [.int .i64, .bytes]) t.op, .bytes t.pl]
def shTc : Sh := .agg [.int .i64, .int .i64, .int .u32, .int .u32, .int .i64, .int .i64, .int .i64, .int .i64, .rows (.agg [.int .i64, .bytes]), .bytes]
abbrev n16 (x : Int) : Prop := 0 ≤ x ∧ x ≤ 65535
def tcEr (t : Tc) : Int :=
  if n16 t.sp ∧ n16 t.dp ∧ n16 t.wn ∧ n16 t.sm ∧ n16 t.ug ∧ 0 ≤ t.fl ∧ t.fl ≤ 255 then
    if canO (tls t.op) = 0 then (if (t.pl.length : Int) > 65515 - (putO (tls t.op)).length then 4 else 0) else canO (tls t.op)
  else 2
noncomputable def af_tcNum : AF := afOf Try.prog Try.f64 [.unr 6]
theorem af_tcNum_ok : AllOk Try.prog 64 af_tcNum := .flat Try.func64 (by kernel_rfl) (by kernel_rfl) (by kernel_rfl) (by kernel_rfl) (by kernel_rfl)
noncomputable def af_tcOpt : AF := afOf Try.prog Try.f65 []
theorem af_tcOpt_ok : AllOk Try.prog 65 af_tcOpt := .flat Try.func65 (by kernel_rfl) (by kernel_rfl) (by kernel_rfl) (by kernel_rfl) (by kernel_rfl)
noncomputable def af_tcSize : AF := afOf Try.prog Try.f66 []
theorem af_tcSize_ok : AllOk Try.prog 66 af_tcSize := .flat Try.func66 (by kernel_rfl) (by kernel_rfl) (by kernel_rfl) (by kernel_rfl) (by kernel_rfl)
noncomputable def af_tcpCan : AF := afOf Try.prog Try.f20 [.unr 4]
theorem af_tcpCan_ok : AllOk Try.prog 20 af_tcpCan := .flat Try.func20 (by kernel_rfl) (by kernel_rfl) (by kernel_rfl) (by kernel_rfl) (by kernel_rfl)
noncomputable def af_rTcpCan : AF := afOf Try.prog Try.f60 [.unr 7]
theorem af_rTcpCan_ok : AllOk Try.prog 60 af_rTcpCan := .flat Try.func60 (by kernel_rfl) (by kernel_rfl) (by kernel_rfl) (by kernel_rfl) (by kernel_rfl)
noncomputable def GEtca : List (Nat × Con) := [(112, .val [.rows (.agg [.int .i64, .bytes])] cToptCan), (56, .val [.rows (.agg [.int .i64, .bytes])] cToptPut), (61, .val [.rows (.agg [.int .i64, .bytes])] crToptPut)]
theorem GEtca_ok : GOk Try.prog GEtca := .cons (enters_of Try.func112 (by kernel_rfl) rfl) toptCan_con <| .cons (enters_of Try.func56 (by kernel_rfl) rfl) toptPut_con <| .cons (enters_of Try.func61 (by kernel_rfl) rfl) rToptPut_con <| .nil
noncomputable def IEtca : List (Nat × AF) := [(64, af_tcNum), (65, af_tcOpt), (66, af_tcSize)]
theorem IEtca_ok : IOk Try.prog IEtca := .cons af_tcNum_ok <| .cons af_tcOpt_ok <| .cons af_tcSize_ok <| .nil
noncomputable def CEtca : List (Nat × (List Nat × (S → Option S))) := []
theorem CEtca_ok : COk Try.prog CEtca := .nil
noncomputable def XEtca : List (Nat × (List Sh × (List V → PT))) := []
theorem XEtca_ok : XOk Try.prog XEtca := .nil
noncomputable def Etca : Env := ⟨Try.prog, GEtca, IEtca, CEtca, XEtca⟩
theorem Etca_ok : EnvOk Etca := ⟨by kernel_rfl, GEtca_ok, IEtca_ok, CEtca_ok, XEtca_ok⟩
def e2V : Option V := some (.int .i64 2)
def bN (hi x : Int) (k : Option V) : Option V := bif decide (x < 0) then e2V else bif decide (x > hi) then e2V else k
def bZ (op : List V) (pl : List UInt8) : Option V := bif decide ((pl.length : Int) > IntKind.i64.wrap (65515 - ((putO (tls op)).length : Int))) then some (.int .i64 4) else some (.int .i64 0)
theorem tcpCan_t (t : Tc) : callV Etca af_tcpCan [t.v] = bN 65535 t.sp (bN 65535 t.dp (bN 65535 t.wn (bN 65535 t.sm (bN 65535 t.ug (bN 255 t.fl (
    bif andT true (decide (t.op.length ≤ 4611686018427387904) && smallL t.op) then bif canO (tls t.op) != 0 then some (.int .i64 (canO (tls t.op))) else
      bif andT true (decide (t.op.length ≤ 4611686018427387904) && smallL t.op) then bZ t.op t.pl else none else none)))))) := by kernel_rfl
theorem rTcpCan_t (t : Tc) : callV Etca af_rTcpCan [t.v] = bN 65535 t.sp (bN 65535 t.dp (bN 65535 t.wn (bN 65535 t.sm (bN 65535 t.ug (bN 65535 t.fl (bif decide (t.fl > 255) then e2V else
    bif andT true (decide (t.op.length ≤ 4611686018427387904)) then bif canO (tls t.op) != 0 then some (.int .i64 (canO (tls t.op))) else bZ t.op t.pl else none)))))) := by kernel_rfl
theorem bN_t {hi x : Int} {k : Option V} (h1 : 0 ≤ x) (h2 : x ≤ hi) : bN hi x k = k := by
  unfold bN
  rw [dec_f (by omega), dec_f (by omega)]; rfl
theorem bN_f {hi x : Int} {k : Option V} (h : ¬ (0 ≤ x ∧ x ≤ hi)) : bN hi x k = e2V := by
  unfold bN
  by_cases h1 : x < 0
  · rw [dec_t h1]; rfl
  · rw [dec_f h1, dec_t (by omega)]; rfl
theorem bZ_is {op : List V} {pl : List UInt8} (h : canO (tls op) = 0) : bZ op pl = some (.int .i64 (if (pl.length : Int) > 65515 - (putO (tls op)).length then 4 else 0)) := by
  have hp := putO_len h
  unfold bZ
  rw [w64 (by omega) (by omega)]
  split
  · rw [dec_t (by assumption)]; rfl
  · rw [dec_f (by assumption)]; rfl
theorem bNs {t : Tc} {k : Option V} {hi : Int} (hk : ¬ (0 ≤ t.fl ∧ t.fl ≤ 255) → bN hi t.fl k = e2V) (hN : ¬ (n16 t.sp ∧ n16 t.dp ∧ n16 t.wn ∧ n16 t.sm ∧ n16 t.ug ∧ 0 ≤ t.fl ∧ t.fl ≤ 255)) :
    bN 65535 t.sp (bN 65535 t.dp (bN 65535 t.wn (bN 65535 t.sm (bN 65535 t.ug (bN hi t.fl k))))) = e2V := by
  by_cases h1 : n16 t.sp
  · rw [bN_t h1.1 h1.2]
    by_cases h2 : n16 t.dp
    · rw [bN_t h2.1 h2.2]
      by_cases h3 : n16 t.wn
      · rw [bN_t h3.1 h3.2]
        by_cases h4 : n16 t.sm
        · rw [bN_t h4.1 h4.2]
          by_cases h5 : n16 t.ug
          · rw [bN_t h5.1 h5.2]
            exact hk fun h6 => hN ⟨h1, h2, h3, h4, h5, h6⟩
          · rw [bN_f h5]
        · rw [bN_f h4]
      · rw [bN_f h3]
    · rw [bN_f h2]
  · rw [bN_f h1]
theorem tcpCan_v (t : Tc) (h : t.op.length ≤ 4611686018427387904) (hs : smallL t.op = true) : callV Etca af_tcpCan [t.v] = some (.int .i64 (tcEr t)) := by
  rw [tcpCan_t, hs]
  unfold tcEr
  by_cases hN : n16 t.sp ∧ n16 t.dp ∧ n16 t.wn ∧ n16 t.sm ∧ n16 t.ug ∧ 0 ≤ t.fl ∧ t.fl ≤ 255
  · rw [if_pos hN]
    obtain ⟨h1, h2, h3, h4, h5, h6, h7⟩ := hN
    rw [bN_t h1.1 h1.2, bN_t h2.1 h2.2, bN_t h3.1 h3.2, bN_t h4.1 h4.2, bN_t h5.1 h5.2, bN_t h6 h7]
    by_cases h0 : canO (tls t.op) = 0
    · rw [if_pos h0, bZ_is h0]
      simp (disch := omega) only [dec_t, dec_f, inB_t, inC_t, andT_t, cond_true, cond_false, Bool.and_true, Bool.true_and, w64, wu32, wu8, nble_t, nblt_t, Bool.not_true, Bool.not_false, Bool.not_not, ieq_t, ieq_f, ine_t, ine_f, true_and, and_true, andT_l]
    · rw [if_neg h0]
      simp (disch := omega) only [dec_t, dec_f, inB_t, inC_t, andT_t, cond_true, cond_false, Bool.and_true, Bool.true_and, w64, wu32, wu8, nble_t, nblt_t, Bool.not_true, Bool.not_false, Bool.not_not, ieq_t, ieq_f, ine_t, ine_f, true_and, and_true, andT_l]
  · rw [if_neg hN, bNs (fun h => bN_f h) hN]
    rfl
theorem rTcpCan_v (t : Tc) (h : t.op.length ≤ 4611686018427387904) : callV Etca af_rTcpCan [t.v] = some (.int .i64 (tcEr t)) := by
  rw [rTcpCan_t]
  unfold tcEr
  by_cases hN : n16 t.sp ∧ n16 t.dp ∧ n16 t.wn ∧ n16 t.sm ∧ n16 t.ug ∧ 0 ≤ t.fl ∧ t.fl ≤ 255
  · rw [if_pos hN]
    obtain ⟨h1, h2, h3, h4, h5, h6, h7⟩ := hN
    rw [bN_t h1.1 h1.2, bN_t h2.1 h2.2, bN_t h3.1 h3.2, bN_t h4.1 h4.2, bN_t h5.1 h5.2, bN_t h6 (by omega)]
    by_cases h0 : canO (tls t.op) = 0
    · rw [if_pos h0, bZ_is h0]
      simp (disch := omega) only [dec_t, dec_f, inB_t, inC_t, andT_t, cond_true, cond_false, Bool.and_true, Bool.true_and, w64, wu32, wu8, nble_t, nblt_t, Bool.not_true, Bool.not_false, Bool.not_not, ieq_t, ieq_f, ine_t, ine_f, true_and, and_true, andT_l]
    · rw [if_neg h0]
      simp (disch := omega) only [dec_t, dec_f, inB_t, inC_t, andT_t, cond_true, cond_false, Bool.and_true, Bool.true_and, w64, wu32, wu8, nble_t, nblt_t, Bool.not_true, Bool.not_false, Bool.not_not, ieq_t, ieq_f, ine_t, ine_f, true_and, and_true, andT_l]
  · rw [if_neg hN, bNs (fun h => ?_) hN]
    · rfl
    · by_cases h1 : 0 ≤ t.fl ∧ t.fl ≤ 65535
      · rw [bN_t h1.1 h1.2]
        simp (disch := omega) only [dec_t, dec_f, inB_t, inC_t, andT_t, cond_true, cond_false, Bool.and_true, Bool.true_and, w64, wu32, wu8, nble_t, nblt_t, Bool.not_true, Bool.not_false, Bool.not_not, ieq_t, ieq_f, ine_t, ine_f, true_and, and_true, andT_l]
      · exact bN_f h1
def cTcpCan : List V → Option (V × Bool)
  | [.agg [.int .i64 sp, .int .i64 dp, .int .u32 sq, .int .u32 ak, .int .i64 fl, .int .i64 wn, .int .i64 sm, .int .i64 ug, .rows (.agg [.int .i64, .bytes]) op, .bytes pl]] => some (.int .i64 (tcEr ⟨sp, dp, sq, ak, fl, wn, sm, ug, op, pl⟩), (decide (op.length ≤ 4611686018427387904) && smallL op))
  | _ => none
theorem tcpCan_con : ∀ vs v, cTcpCan vs = some (v, true) → SpecV Try.prog 20 vs v := by
  intro vs v h; unfold cTcpCan at h; split at h
  · rename_i sp dp sq ak fl wn sm ug op pl
    injection h with h; injection h with h hb; subst h
    exact callV_ok Etca_ok af_tcpCan_ok (tcpCan_v ⟨sp, dp, sq, ak, fl, wn, sm, ug, op, pl⟩ (of_decide_eq_true ((Bool.and_eq_true _ _).mp hb).1) ((Bool.and_eq_true _ _).mp hb).2)
  · cases h
theorem rTcpCan_con : ∀ vs v, cTcpCan vs = some (v, true) → SpecV Try.prog 60 vs v := by
  intro vs v h; unfold cTcpCan at h; split at h
  · rename_i sp dp sq ak fl wn sm ug op pl
    injection h with h; injection h with h hb; subst h
    exact callV_ok Etca_ok af_rTcpCan_ok (rTcpCan_v ⟨sp, dp, sq, ak, fl, wn, sm, ug, op, pl⟩ (of_decide_eq_true ((Bool.and_eq_true _ _).mp hb).1))
  · cases h
end Go.Proofs.Ytbojofchpnfnlaa

namespace Go.Proofs.Ytbojofchpnfnlaa
open Go Go.Am Go.RowKit Go.Mix Go.Bas
abbrev fb (n : Int) (j : Nat) : Bool := (BitVec.ofInt 64 n).getLsbD j
theorem wrap_inj {X Y : BitVec 64} (h : IntKind.i64.wrap (X.toNat : Int) = IntKind.i64.wrap (Y.toNat : Int)) : X = Y := by
  rw [IntKind.wrap_i64, IntKind.wrap_i64] at h
  have h1 := X.isLt
  have h2 := Y.isLt
  apply BitVec.eq_of_toNat_eq
  omega
theorem wrap_ofInt {n : Int} (h1 : -9223372036854775808 ≤ n) (h2 : n ≤ 9223372036854775807) : IntKind.i64.wrap ((BitVec.ofInt 64 n).toNat : Int) = n := by
  have e : (BitVec.ofInt 64 n).toNat = (n % 18446744073709551616).toNat := by rw [BitVec.toNat_ofInt]; rfl
  rw [e, IntKind.wrap_i64]
  omega
theorem bits_and (a b : Int) : bits .and .i64 a b = IntKind.i64.wrap ((BitVec.ofInt 64 a &&& BitVec.ofInt 64 b).toNat : Int) := rfl
theorem bits_or (a b : Int) : bits .or .i64 a b = IntKind.i64.wrap ((BitVec.ofInt 64 a ||| BitVec.ofInt 64 b).toNat : Int) := rfl
theorem and_or {a k : Int} (ha : -9223372036854775808 ≤ a ∧ a ≤ 9223372036854775807) (hk : -9223372036854775808 ≤ k ∧ k ≤ 9223372036854775807) : (bits .and .i64 a k == k) = (bits .or .i64 a k == a) := by
  rw [Bool.eq_iff_iff, beq_iff_eq, beq_iff_eq, bits_and, bits_or]
  have e1 := wrap_ofInt ha.1 ha.2
  have e2 := wrap_ofInt hk.1 hk.2
  generalize hA : BitVec.ofInt 64 a = A at *
  generalize hK : BitVec.ofInt 64 k = K at *
  constructor
  · intro h
    rw [← e2] at h
    have h := wrap_inj h
    rw [← e1]
    refine congrArg (fun X : BitVec 64 => IntKind.i64.wrap (X.toNat : Int)) ?_
    apply BitVec.eq_of_getLsbD_eq
    intro i hi
    have := congrArg (fun x => x.getLsbD i) h
    simp only [BitVec.getLsbD_and, BitVec.getLsbD_or] at this ⊢
    revert this
    cases A.getLsbD i <;> cases K.getLsbD i <;> simp
  · intro h
    rw [← e1] at h
    have h := wrap_inj h
    rw [← e2]
    refine congrArg (fun X : BitVec 64 => IntKind.i64.wrap (X.toNat : Int)) ?_
    apply BitVec.eq_of_getLsbD_eq
    intro i hi
    have := congrArg (fun x => x.getLsbD i) h
    simp only [BitVec.getLsbD_and, BitVec.getLsbD_or] at this ⊢
    revert this
    cases A.getLsbD i <;> cases K.getLsbD i <;> simp
theorem and_bit (a : Int) (j : Nat) (hj : j < 62) : bits .and .i64 a ((2 ^ j : Nat) : Int) = if fb a j then ((2 ^ j : Nat) : Int) else 0 := by
  have hp : 2 ^ j ≤ 2 ^ 62 := Nat.pow_le_pow_right (by omega) (by omega)
  have ht : ∀ i, i < 64 → (BitVec.ofInt 64 ((2 ^ j : Nat) : Int)).getLsbD i = decide (j = i) := fun i hi => by
    rw [BitVec.ofInt_natCast, BitVec.getLsbD_ofNat, Nat.testBit_two_pow]
    simp [hi]
  rw [bits_and]
  have e : BitVec.ofInt 64 a &&& BitVec.ofInt 64 ((2 ^ j : Nat) : Int) = if fb a j then BitVec.ofInt 64 ((2 ^ j : Nat) : Int) else 0#64 := by
    apply BitVec.eq_of_getLsbD_eq
    intro i hi
    rw [BitVec.getLsbD_and, ht i hi]
    cases hb : fb a j with
    | true =>
      rw [if_pos rfl, ht i hi]
      by_cases h : j = i
      · subst h; rw [show (BitVec.ofInt 64 a).getLsbD j = true from hb]; rfl
      · simp [h]
    | false =>
      rw [if_neg (by simp)]
      by_cases h : j = i
      · subst h; rw [show (BitVec.ofInt 64 a).getLsbD j = false from hb]; simp
      · simp [h]
  rw [e]
  clear e ht
  generalize 2 ^ j = m at *
  split
  · exact wrap_ofInt (by omega) (by omega)
  · rfl
theorem and_1 (a : Int) : bits .and .i64 a 1 = if fb a 0 then 1 else 0 := and_bit a 0 (by omega)
theorem and_2 (a : Int) : bits .and .i64 a 2 = if fb a 1 then 2 else 0 := and_bit a 1 (by omega)
theorem and_4 (a : Int) : bits .and .i64 a 4 = if fb a 2 then 4 else 0 := and_bit a 2 (by omega)
theorem and_16 (a : Int) : bits .and .i64 a 16 = if fb a 4 then 16 else 0 := and_bit a 4 (by omega)
theorem bit23 : ∀ i : Nat, i < 64 → Nat.testBit 23 i = (i == 0 || i == 1 || i == 2 || i == 4) := by decide
theorem bit2 : ∀ i : Nat, i < 64 → Nat.testBit 2 i = (i == 1) := by decide
theorem and_23 (a : Int) : (bits .and .i64 a 23 == 2) = (fb a 1 && !fb a 4 && !fb a 2 && !fb a 0) := by
  rw [Bool.eq_iff_iff, beq_iff_eq, bits_and]
  have h2 : IntKind.i64.wrap ((BitVec.ofInt 64 2).toNat : Int) = 2 := wrap_ofInt (by omega) (by omega)
  have g23 : ∀ i, i < 64 → (BitVec.ofInt 64 23).getLsbD i = (i == 0 || i == 1 || i == 2 || i == 4) := fun i hi => by
    rw [← bit23 i hi]
    show (BitVec.ofNat 64 23).getLsbD i = _
    rw [BitVec.getLsbD_ofNat]
    simp [hi]
  have g2 : ∀ i, i < 64 → (BitVec.ofInt 64 2).getLsbD i = (i == 1) := fun i hi => by
    rw [← bit2 i hi]
    show (BitVec.ofNat 64 2).getLsbD i = _
    rw [BitVec.getLsbD_ofNat]
    simp [hi]
  constructor
  · intro h
    have h := wrap_inj (h.trans h2.symm)
    have k : ∀ i, i < 64 → (fb a i && (i == 0 || i == 1 || i == 2 || i == 4)) = (i == 1) := fun i hi => by
      have := congrArg (fun x => x.getLsbD i) h
      simp only [BitVec.getLsbD_and] at this
      rw [g23 i hi, g2 i hi] at this
      exact this
    have k0 := k 0 (by omega)
    have k1 := k 1 (by omega)
    have k2 := k 2 (by omega)
    have k4 := k 4 (by omega)
    simp at k0 k1 k2 k4
    simp [k0, k1, k2, k4]
  · intro h
    simp only [Bool.and_eq_true, Bool.not_eq_true'] at h
    obtain ⟨⟨⟨b1, b4⟩, b2⟩, b0⟩ := h
    refine Eq.trans ?_ h2
    refine congrArg (fun X : BitVec 64 => IntKind.i64.wrap (X.toNat : Int)) ?_
    apply BitVec.eq_of_getLsbD_eq
    intro i hi
    rw [BitVec.getLsbD_and, g23 i hi, g2 i hi]
    by_cases e0 : i = 0
    · subst e0; simp [fb] at b0; simp [b0]
    by_cases e1 : i = 1
    · subst e1; simp [fb] at b1; simp [b1]
    by_cases e2 : i = 2
    · subst e2; simp [fb] at b2; simp [b2]
    by_cases e4 : i = 4
    · subst e4; simp [fb] at b4; simp [b4]
    rw [beq_eq_false_iff_ne.2 e0, beq_eq_false_iff_ne.2 e1, beq_eq_false_iff_ne.2 e2, beq_eq_false_iff_ne.2 e4]
    exact Bool.and_false _
end Go.Proofs.Ytbojofchpnfnlaa

namespace Go.Proofs.Ytbojofchpnfnlaa
open Go Go.Am Go.RowKit Go.Mix Go.Bas
set_option maxRecDepth 100000
/-- the first 20 bytes -/
def tcHd (t : Tc) (no : Nat) : List UInt8 := b8 (t.sp / 256) :: b8 t.sp :: b8 (t.dp / 256) :: b8 t.dp :: b8 (t.sq / 16777216) :: b8 (t.sq / 65536) :: b8 (t.sq / 256) :: b8 t.sq :: b8 (t.ak / 16777216) :: b8 (t.ak / 65536) :: b8 (t.ak / 256) :: b8 t.ak :: b8 ((5 + (no : Int) / 4) * 16) :: b8 t.fl :: b8 (t.wn / 256) :: b8 t.wn :: b8 (t.sm / 256) :: b8 t.sm :: b8 (t.ug / 256) :: b8 t.ug :: []
def tcP (t : Tc) : List UInt8 := if tcEr t = 0 then tcHd t (putO (tls t.op)).length ++ (putO (tls t.op) ++ t.pl) else []
theorem tcHd_len (t : Tc) (no : Nat) : (tcHd t no).length = 20 := rfl
/-- where the payload begins; the options' bytes -/
def tpH (b : List UInt8) : Int := gt b 12 / 16 * 4
def tpO (b : List UInt8) : List UInt8 := cutL b 20 (tpH b).toNat
def tpE (b : List UInt8) : Int :=
  if b.length < 20 then 3 else if gt b 12 % 16 ≠ 0 ∨ gt b 12 / 16 < 5 then 5 else if gt b 12 / 16 * 4 > b.length then 3 else topE (tpO b)
theorem tcEr_zero {t : Tc} (h : tcEr t = 0) : (n16 t.sp ∧ n16 t.dp ∧ n16 t.wn ∧ n16 t.sm ∧ n16 t.ug ∧ 0 ≤ t.fl ∧ t.fl ≤ 255) ∧ canO (tls t.op) = 0 ∧ (t.pl.length : Int) ≤ 65515 - (putO (tls t.op)).length := by
  unfold tcEr at h
  split at h
  · rename_i h1
    split at h
    · rename_i h2
      split at h
      · cases h
      · exact ⟨h1, h2, by omega⟩
    · rename_i h2
      exact absurd h h2
  · cases h
theorem gt_p (n : Int) : ((b8 n).toNat : Int) = n % 256 := b8_toNat n
theorem tcp_back {t : Tc} (h : tcEr t = 0) (hq : 0 ≤ t.sq ∧ t.sq ≤ 4294967295) (ha : 0 ≤ t.ak ∧ t.ak ≤ 4294967295) :
    tpE (tcP t) = 0 ∧ topP (tpO (tcP t)) = (tls t.op).map tlV ∧ (tcP t).drop (tpH (tcP t)).toNat = t.pl ∧
    gt (tcP t) 0 * 256 + gt (tcP t) 1 = t.sp ∧ gt (tcP t) 2 * 256 + gt (tcP t) 3 = t.dp ∧ be32 (tcP t) 4 = t.sq ∧ be32 (tcP t) 8 = t.ak ∧ gt (tcP t) 13 = t.fl ∧
    gt (tcP t) 14 * 256 + gt (tcP t) 15 = t.wn ∧ gt (tcP t) 16 * 256 + gt (tcP t) 17 = t.sm ∧ gt (tcP t) 18 * 256 + gt (tcP t) 19 = t.ug := by
  obtain ⟨⟨h1, h2, h3, h4, h5, h6, h7⟩, h8, h9⟩ := tcEr_zero h
  obtain ⟨p1, p2, _⟩ := putO_len h8
  have eP : tcP t = tcHd t (putO (tls t.op)).length ++ (putO (tls t.op) ++ t.pl) := by unfold tcP; rw [if_pos h]
  rw [eP]
  generalize hr : putO (tls t.op) ++ t.pl = r
  generalize hno : (putO (tls t.op)).length = no at *
  have g0 : gt (tcHd t no ++ r) 0 = _ := gt_p (t.sp / 256)
  have g1 : gt (tcHd t no ++ r) 1 = _ := gt_p t.sp
  have g2 : gt (tcHd t no ++ r) 2 = _ := gt_p (t.dp / 256)
  have g3 : gt (tcHd t no ++ r) 3 = _ := gt_p t.dp
  have g4 : gt (tcHd t no ++ r) 4 = _ := gt_p (t.sq / 16777216)
  have g5 : gt (tcHd t no ++ r) 5 = _ := gt_p (t.sq / 65536)
  have g6 : gt (tcHd t no ++ r) 6 = _ := gt_p (t.sq / 256)
  have g7 : gt (tcHd t no ++ r) 7 = _ := gt_p t.sq
  have g8 : gt (tcHd t no ++ r) 8 = _ := gt_p (t.ak / 16777216)
  have g9 : gt (tcHd t no ++ r) 9 = _ := gt_p (t.ak / 65536)
  have g10 : gt (tcHd t no ++ r) 10 = _ := gt_p (t.ak / 256)
  have g11 : gt (tcHd t no ++ r) 11 = _ := gt_p t.ak
  have g12 : gt (tcHd t no ++ r) 12 = _ := gt_p ((5 + (no : Int) / 4) * 16)
  have g13 : gt (tcHd t no ++ r) 13 = _ := gt_p t.fl
  have g14 : gt (tcHd t no ++ r) 14 = _ := gt_p (t.wn / 256)
  have g15 : gt (tcHd t no ++ r) 15 = _ := gt_p t.wn
  have g16 : gt (tcHd t no ++ r) 16 = _ := gt_p (t.sm / 256)
  have g17 : gt (tcHd t no ++ r) 17 = _ := gt_p t.sm
  have g18 : gt (tcHd t no ++ r) 18 = _ := gt_p (t.ug / 256)
  have g19 : gt (tcHd t no ++ r) 19 = _ := gt_p t.ug
  have hrl : r.length = no + t.pl.length := by rw [← hr, List.length_append, hno]
  have hl : (tcHd t no ++ r).length = 20 + no + t.pl.length := by rw [List.length_append, tcHd_len, hrl]; omega
  have eH : tpH (tcHd t no ++ r) = (20 + no : Nat) := by unfold tpH; rw [g12]; omega
  have eO : tpO (tcHd t no ++ r) = putO (tls t.op) := by
    unfold tpO cutL
    rw [eH, Int.toNat_natCast, ← tcHd_len t no, List.drop_left, ← hr, tcHd_len, show 20 + no - 20 = no by omega, ← hno, List.take_left]
  obtain ⟨q1, q2⟩ := topP_putO h8
  refine ⟨?_, by rw [eO, q1], ?_, by rw [g0, g1]; omega, by rw [g2, g3]; omega, ?_, ?_, by rw [g13]; omega, by rw [g14, g15]; omega, by rw [g16, g17]; omega, by rw [g18, g19]; omega⟩
  · unfold tpE
    rw [if_neg (by omega), if_neg (by rw [g12]; omega), if_neg (by rw [g12]; omega), eO, q2]
  · rw [eH, Int.toNat_natCast, ← tcHd_len t no, ← hr, ← hno, ← List.append_assoc]
    rw [show (tcHd t (putO (tls t.op)).length).length + (putO (tls t.op)).length = (tcHd t (putO (tls t.op)).length ++ putO (tls t.op)).length by rw [List.length_append], List.drop_left]
  · unfold be32; rw [g4, show 4 + 1 = 5 from rfl, show 4 + 2 = 6 from rfl, show 4 + 3 = 7 from rfl, g5, g6, g7]; omega
  · unfold be32; rw [g8, show 8 + 1 = 9 from rfl, show 8 + 2 = 10 from rfl, show 8 + 3 = 11 from rfl, g9, g10, g11]; omega
theorem tcp_len {t : Tc} (h : tcEr t = 0) : (tcP t).length = 20 + (putO (tls t.op)).length + t.pl.length ∧ (tcP t).length ≤ 65535 := by
  obtain ⟨_, h8, h9⟩ := tcEr_zero h
  unfold tcP
  rw [if_pos h, List.length_append, tcHd_len, List.length_append]
  omega
end Go.Proofs.Ytbojofchpnfnlaa

namespace Go.Proofs.Ytbojofchpnfnlaa
open Go Go.Am Go.RowKit Go.Mix Go.Bas
set_option maxRecDepth 100000
noncomputable def af_tcpPut : AF := afOf Try.prog Try.f18 []
theorem af_tcpPut_ok : AllOk Try.prog 18 af_tcpPut := .flat Try.func18 (by kernel_rfl) (by kernel_rfl) (by kernel_rfl) (by kernel_rfl) (by kernel_rfl)
noncomputable def af_rTcpPut : AF := afOf Try.prog Try.f19 []
theorem af_rTcpPut_ok : AllOk Try.prog 19 af_rTcpPut := .flat Try.func19 (by kernel_rfl) (by kernel_rfl) (by kernel_rfl) (by kernel_rfl) (by kernel_rfl)
noncomputable def GEtcc : List (Nat × Con) := [(20, .val [.agg [.int .i64, .int .i64, .int .u32, .int .u32, .int .i64, .int .i64, .int .i64, .int .i64, .rows (.agg [.int .i64, .bytes]), .bytes]] cTcpCan), (60, .val [.agg [.int .i64, .int .i64, .int .u32, .int .u32, .int .i64, .int .i64, .int .i64, .int .i64, .rows (.agg [.int .i64, .bytes]), .bytes]] cTcpCan), (56, .val [.rows (.agg [.int .i64, .bytes])] cToptPut), (61, .val [.rows (.agg [.int .i64, .bytes])] crToptPut), (59, .val [.rows (.bytes)] cJoinB), (62, .val [.int .i64] cTwo), (63, .val [.int .u32] cFour), (57, .app 5 aP16), (58, .app 5 aP32)]
theorem GEtcc_ok : GOk Try.prog GEtcc := .cons (enters_of Try.func20 (by kernel_rfl) rfl) tcpCan_con <| .cons (enters_of Try.func60 (by kernel_rfl) rfl) rTcpCan_con <| .cons (enters_of Try.func56 (by kernel_rfl) rfl) toptPut_con <| .cons (enters_of Try.func61 (by kernel_rfl) rfl) rToptPut_con <| .cons (enters_of Try.func59 (by kernel_rfl) rfl) Join_con <| .cons (enters_of Try.func62 (by kernel_rfl) rfl) Two_con <| .cons (enters_of Try.func63 (by kernel_rfl) rfl) Four_con <| .consA (enters_of Try.func57 (by kernel_rfl) rfl) Put16_app <| .consA (enters_of Try.func58 (by kernel_rfl) rfl) Put32_app <| .nil
noncomputable def IEtcc : List (Nat × AF) := []
theorem IEtcc_ok : IOk Try.prog IEtcc := .nil
noncomputable def CEtcc : List (Nat × (List Nat × (S → Option S))) := []
theorem CEtcc_ok : COk Try.prog CEtcc := .nil
noncomputable def XEtcc : List (Nat × (List Sh × (List V → PT))) := []
theorem XEtcc_ok : XOk Try.prog XEtcc := .nil
noncomputable def Etcc : Env := ⟨Try.prog, GEtcc, IEtcc, CEtcc, XEtcc⟩
theorem Etcc_ok : EnvOk Etcc := ⟨by kernel_rfl, GEtcc_ok, IEtcc_ok, CEtcc_ok, XEtcc_ok⟩
theorem tcpPut_t (sp dp sq ak fl wn sm ug : Int) (op : List V) (pl : List UInt8) : callV Etcc af_tcpPut [.agg [.int .i64 sp, .int .i64 dp, .int .u32 sq, .int .u32 ak, .int .i64 fl, .int .i64 wn, .int .i64 sm, .int .i64 ug, .rows (.agg [.int .i64, .bytes]) op, .bytes pl]] =
    bif andT true (decide (op.length ≤ (4611686018427387904 : Nat)) && smallL op) then
        bif
            tcEr { sp := sp, dp := dp, sq := sq, ak := ak, fl := fl, wn := wn, sm := sm, ug := ug, op := op, pl := pl } !=
              (0 : Int) then
          some
            (V.tup
              [V.ownv (5 : Nat) (V.bytes []),
                V.int IntKind.i64
                  (tcEr
                    { sp := sp, dp := dp, sq := sq, ak := ak, fl := fl, wn := wn, sm := sm, ug := ug, op := op,
                      pl := pl })])
        else
          bif andT true (decide (op.length ≤ (4611686018427387904 : Nat)) && smallL op) then
            bif
                andT
                    (andT true
                      (decide ((0 : Int) ≤ sq) && decide (sq < (4294967296 : Int)) &&
                        (two sp ++ two dp ++ four sq).length.ble (140737488355328 : Nat)))
                    (decide ((0 : Int) ≤ ak) && decide (ak < (4294967296 : Int)) &&
                      (two sp ++ two dp ++ four sq ++ four ak).length.ble (140737488355328 : Nat)) &&
                  true then
              bif
                  andT true
                    (decide
                      ((b8 (sp / (256 : Int)) ::
                              b8 sp ::
                                b8 (dp / (256 : Int)) ::
                                  b8 dp ::
                                    b8 (sq / (16777216 : Int)) ::
                                      b8 (sq / (65536 : Int)) ::
                                        b8 (sq / (256 : Int)) ::
                                          b8 sq ::
                                            b8 (ak / (16777216 : Int)) ::
                                              b8 (ak / (65536 : Int)) ::
                                                b8 (ak / (256 : Int)) ::
                                                  b8 ak ::
                                                    u8
                                                        (IntKind.u8.wrap
                                                          (IntKind.i64.wrap
                                                            (IntKind.i64.wrap
                                                                ((IntKind.i64.wrap
                                                                      ((20 : Int) + (↑(putO (tls op)).length : Int))).tdiv
                                                                  (4 : Int)) *
                                                              (16 : Int)))) ::
                                                      u8 (IntKind.u8.wrap fl) ::
                                                        b8 (wn / (256 : Int)) ::
                                                          b8 wn :: b8 (sm / (256 : Int)) :: b8 sm :: two ug ++
                            (putO (tls op) ++ (pl ++ []))).length ≤
                        (140737488355328 : Nat))) then
                some
                  (V.tup
                    [V.ownv (5 : Nat)
                        (V.bytes
                          (b8 (sp / (256 : Int)) ::
                              b8 sp ::
                                b8 (dp / (256 : Int)) ::
                                  b8 dp ::
                                    b8 (sq / (16777216 : Int)) ::
                                      b8 (sq / (65536 : Int)) ::
                                        b8 (sq / (256 : Int)) ::
                                          b8 sq ::
                                            b8 (ak / (16777216 : Int)) ::
                                              b8 (ak / (65536 : Int)) ::
                                                b8 (ak / (256 : Int)) ::
                                                  b8 ak ::
                                                    u8
                                                        (IntKind.u8.wrap
                                                          (IntKind.i64.wrap
                                                            (IntKind.i64.wrap
                                                                ((IntKind.i64.wrap
                                                                      ((20 : Int) + (↑(putO (tls op)).length : Int))).tdiv
                                                                  (4 : Int)) *
                                                              (16 : Int)))) ::
                                                      u8 (IntKind.u8.wrap fl) ::
                                                        b8 (wn / (256 : Int)) ::
                                                          b8 wn :: b8 (sm / (256 : Int)) :: b8 sm :: two ug ++
                            (putO (tls op) ++ (pl ++ [])))),
                      V.int IntKind.i64 (0 : Int)])
              else none
            else none
          else none
      else none := by kernel_rfl

theorem rTcpPut_t (sp dp sq ak fl wn sm ug : Int) (op : List V) (pl : List UInt8) : callV Etcc af_rTcpPut [.agg [.int .i64 sp, .int .i64 dp, .int .u32 sq, .int .u32 ak, .int .i64 fl, .int .i64 wn, .int .i64 sm, .int .i64 ug, .rows (.agg [.int .i64, .bytes]) op, .bytes pl]] =
    bif andT true (decide (op.length ≤ (4611686018427387904 : Nat)) && smallL op) then
        bif
            tcEr { sp := sp, dp := dp, sq := sq, ak := ak, fl := fl, wn := wn, sm := sm, ug := ug, op := op, pl := pl } !=
              (0 : Int) then
          some
            (V.tup
              [V.ownv (5 : Nat) (V.bytes []),
                V.int IntKind.i64
                  (tcEr
                    { sp := sp, dp := dp, sq := sq, ak := ak, fl := fl, wn := wn, sm := sm, ug := ug, op := op,
                      pl := pl })])
        else
          bif andT true (decide (op.length ≤ (4611686018427387904 : Nat))) then
            bif andT true (decide ((0 : Int) ≤ sq) && decide (sq < (4294967296 : Int))) then
              bif andT true (decide ((0 : Int) ≤ ak) && decide (ak < (4294967296 : Int))) then
                bif
                    andT true
                      (((two sp ++ two dp ++ four sq ++ four ak ++
                                        u8
                                            (IntKind.u8.wrap
                                              (IntKind.i64.wrap
                                                (IntKind.i64.wrap
                                                    ((5 : Int) +
                                                      IntKind.i64.wrap ((↑(putO (tls op)).length : Int).tdiv (4 : Int))) *
                                                  (16 : Int)))) ::
                                          u8 (IntKind.u8.wrap fl) :: List.replicate (nat_lit 0) (0 : UInt8) ++
                                      two wn ++
                                    two sm ++
                                  two ug ++
                                putO (tls op)).length *
                            (1 : Nat)).ble
                        (140737488355328 : Nat)) then
                  bif
                      andT true
                        (((two sp ++ two dp ++ four sq ++ four ak ++
                                            u8
                                                (IntKind.u8.wrap
                                                  (IntKind.i64.wrap
                                                    (IntKind.i64.wrap
                                                        ((5 : Int) +
                                                          IntKind.i64.wrap
                                                            ((↑(putO (tls op)).length : Int).tdiv (4 : Int))) *
                                                      (16 : Int)))) ::
                                              u8 (IntKind.u8.wrap fl) :: List.replicate (nat_lit 0) (0 : UInt8) ++
                                          two wn ++
                                        two sm ++
                                      two ug ++
                                    putO (tls op) ++
                                  pl).length *
                              (1 : Nat)).ble
                          (140737488355328 : Nat)) then
                    some
                      (V.tup
                        [V.ownv (5 : Nat)
                            (V.bytes
                              (two sp ++ two dp ++ four sq ++ four ak ++
                                          u8
                                              (IntKind.u8.wrap
                                                (IntKind.i64.wrap
                                                  (IntKind.i64.wrap
                                                      ((5 : Int) +
                                                        IntKind.i64.wrap ((↑(putO (tls op)).length : Int).tdiv (4 : Int))) *
                                                    (16 : Int)))) ::
                                            u8 (IntKind.u8.wrap fl) :: List.replicate (nat_lit 0) (0 : UInt8) ++
                                        two wn ++
                                      two sm ++
                                    two ug ++
                                  putO (tls op) ++
                                pl)),
                          V.int IntKind.i64 (0 : Int)])
                  else none
                else none
              else none
            else none
          else none
      else none := by kernel_rfl

theorem e13a {no : Nat} (h : no ≤ 40) : u8 (IntKind.u8.wrap (IntKind.i64.wrap (IntKind.i64.wrap ((IntKind.i64.wrap ((20 : Int) + (no : Int))).tdiv 4) * 16))) = b8 ((5 + (no : Int) / 4) * 16) := by
  rw [w64 (x := 20 + (no : Int)) (by omega) (by omega), tdv (by omega), w64 (x := (20 + (no : Int)) / 4) (by omega) (by omega), w64 (x := (20 + (no : Int)) / 4 * 16) (by omega) (by omega), u8_wrap, show (20 + (no : Int)) / 4 = 5 + (no : Int) / 4 by omega]
theorem e13b {no : Nat} (h : no ≤ 40) : u8 (IntKind.u8.wrap (IntKind.i64.wrap (IntKind.i64.wrap ((5 : Int) + IntKind.i64.wrap ((no : Int).tdiv 4)) * 16))) = b8 ((5 + (no : Int) / 4) * 16) := by
  rw [tdv (by omega), w64 (x := (no : Int) / 4) (by omega) (by omega), w64 (x := 5 + (no : Int) / 4) (by omega) (by omega), w64 (by omega) (by omega), u8_wrap]
abbrev u32ok (n : Int) : Prop := 0 ≤ n ∧ n ≤ 4294967295
theorem tcpPut_v (t : Tc) (h : t.op.length ≤ 4611686018427387904) (hs : smallL t.op = true) (hq : u32ok t.sq) (ha : u32ok t.ak) : callV Etcc af_tcpPut [t.v] = some (.tup [.ownv 5 (.bytes (tcP t)), .int .i64 (tcEr t)]) := by
  obtain ⟨sp, dp, sq, ak, fl, wn, sm, ug, op, pl⟩ := t
  simp only at h hs hq ha
  rw [Tc.v, tcpPut_t, hs]
  unfold tcP
  by_cases h0 : tcEr ⟨sp, dp, sq, ak, fl, wn, sm, ug, op, pl⟩ = 0
  · rw [if_pos h0]
    obtain ⟨_, h8, h9⟩ := tcEr_zero h0
    simp only at h8 h9
    obtain ⟨p1, p2, _⟩ := putO_len h8
    rw [h0, e13a p1, List.append_nil]
    have l1 : (two sp ++ two dp ++ four sq).length = 8 := rfl
    have l2 : (two sp ++ two dp ++ four sq ++ four ak).length = 12 := rfl
    have l3 : ((b8 (sp / (256 : Int)) :: b8 sp :: b8 (dp / (256 : Int)) :: b8 dp :: b8 (sq / (16777216 : Int)) :: b8 (sq / (65536 : Int)) :: b8 (sq / (256 : Int)) :: b8 sq :: b8 (ak / (16777216 : Int)) :: b8 (ak / (65536 : Int)) :: b8 (ak / (256 : Int)) :: b8 ak :: b8 ((5 + ((putO (tls op)).length : Int) / 4) * 16) :: u8 (IntKind.u8.wrap fl) :: b8 (wn / (256 : Int)) :: b8 wn :: b8 (sm / (256 : Int)) :: b8 sm :: two ug) ++ (putO (tls op) ++ pl)).length ≤ 140737488355328 := by
      rw [List.length_append, List.length_append]
      simp only [List.length_cons, two, List.length_nil]
      omega
    simp (disch := omega) only [dec_t, dec_f, inB_t, inC_t, andT_t, cond_true, cond_false, Bool.and_true, Bool.true_and, w64, wu32, wu8, nble_t, nblt_t, Bool.not_true, Bool.not_false, Bool.not_not, ieq_t, ieq_f, ine_t, ine_f, true_and, and_true, andT_l]
    rfl
  · rw [if_neg h0]
    simp (disch := omega) only [dec_t, dec_f, inB_t, inC_t, andT_t, cond_true, cond_false, Bool.and_true, Bool.true_and, w64, wu32, wu8, nble_t, nblt_t, Bool.not_true, Bool.not_false, Bool.not_not, ieq_t, ieq_f, ine_t, ine_f, true_and, and_true, andT_l]
theorem rTcpPut_v (t : Tc) (h : t.op.length ≤ 4611686018427387904) (hs : smallL t.op = true) (hq : u32ok t.sq) (ha : u32ok t.ak) : callV Etcc af_rTcpPut [t.v] = some (.tup [.ownv 5 (.bytes (tcP t)), .int .i64 (tcEr t)]) := by
  obtain ⟨sp, dp, sq, ak, fl, wn, sm, ug, op, pl⟩ := t
  simp only at h hs hq ha
  rw [Tc.v, rTcpPut_t, hs]
  unfold tcP
  by_cases h0 : tcEr ⟨sp, dp, sq, ak, fl, wn, sm, ug, op, pl⟩ = 0
  · rw [if_pos h0]
    obtain ⟨_, h8, h9⟩ := tcEr_zero h0
    simp only at h8 h9
    obtain ⟨p1, p2, _⟩ := putO_len h8
    rw [h0, e13b p1]
    have e : two sp ++ two dp ++ four sq ++ four ak ++ b8 ((5 + ((putO (tls op)).length : Int) / 4) * 16) :: u8 (IntKind.u8.wrap fl) :: List.replicate (nat_lit 0) (0 : UInt8) ++ two wn ++ two sm ++ two ug = tcHd ⟨sp, dp, sq, ak, fl, wn, sm, ug, op, pl⟩ (putO (tls op)).length := rfl
    rw [e, List.append_assoc _ _ pl]
    have l1 : (tcHd ⟨sp, dp, sq, ak, fl, wn, sm, ug, op, pl⟩ (putO (tls op)).length ++ putO (tls op)).length ≤ 60 := by rw [List.length_append, tcHd_len]; omega
    have l2 : (tcHd ⟨sp, dp, sq, ak, fl, wn, sm, ug, op, pl⟩ (putO (tls op)).length ++ (putO (tls op) ++ pl)).length ≤ 70000 := by rw [List.length_append, List.length_append, tcHd_len]; omega
    simp (disch := omega) only [dec_t, dec_f, inB_t, inC_t, andT_t, cond_true, cond_false, Bool.and_true, Bool.true_and, w64, wu32, wu8, nble_t, nblt_t, Bool.not_true, Bool.not_false, Bool.not_not, ieq_t, ieq_f, ine_t, ine_f, true_and, and_true, andT_l]
  · rw [if_neg h0]
    simp (disch := omega) only [dec_t, dec_f, inB_t, inC_t, andT_t, cond_true, cond_false, Bool.and_true, Bool.true_and, w64, wu32, wu8, nble_t, nblt_t, Bool.not_true, Bool.not_false, Bool.not_not, ieq_t, ieq_f, ine_t, ine_f, true_and, and_true, andT_l]
def cTcpPut : List V → Option (V × Bool)
  | [.agg [.int .i64 sp, .int .i64 dp, .int .u32 sq, .int .u32 ak, .int .i64 fl, .int .i64 wn, .int .i64 sm, .int .i64 ug, .rows (.agg [.int .i64, .bytes]) op, .bytes pl]] => some (.tup [.ownv 5 (.bytes (tcP ⟨sp, dp, sq, ak, fl, wn, sm, ug, op, pl⟩)), .int .i64 (tcEr ⟨sp, dp, sq, ak, fl, wn, sm, ug, op, pl⟩)], (decide (op.length ≤ 4611686018427387904) && (smallL op && decide (u32ok sq ∧ u32ok ak))))
  | _ => none
theorem cTcpPut_h {op : List V} {sq ak : Int} (hb : (decide (op.length ≤ 4611686018427387904) && (smallL op && decide (u32ok sq ∧ u32ok ak))) = true) : op.length ≤ 4611686018427387904 ∧ smallL op = true ∧ u32ok sq ∧ u32ok ak := by
  simp only [Bool.and_eq_true] at hb
  exact ⟨of_decide_eq_true hb.1, hb.2.1, of_decide_eq_true hb.2.2⟩
theorem tcpPut_con : ∀ vs v, cTcpPut vs = some (v, true) → SpecV Try.prog 18 vs v := by
  intro vs v h; unfold cTcpPut at h; split at h
  · rename_i sp dp sq ak fl wn sm ug op pl
    injection h with h; injection h with h hb; subst h
    exact callV_ok Etcc_ok af_tcpPut_ok ((cTcpPut_h hb).elim fun a b => tcpPut_v ⟨sp, dp, sq, ak, fl, wn, sm, ug, op, pl⟩ a b.1 b.2.1 b.2.2)
  · cases h
theorem rTcpPut_con : ∀ vs v, cTcpPut vs = some (v, true) → SpecV Try.prog 19 vs v := by
  intro vs v h; unfold cTcpPut at h; split at h
  · rename_i sp dp sq ak fl wn sm ug op pl
    injection h with h; injection h with h hb; subst h
    exact callV_ok Etcc_ok af_rTcpPut_ok ((cTcpPut_h hb).elim fun a b => rTcpPut_v ⟨sp, dp, sq, ak, fl, wn, sm, ug, op, pl⟩ a b.1 b.2.1 b.2.2)
  · cases h
end Go.Proofs.Ytbojofchpnfnlaa

namespace Go.Proofs.Ytbojofchpnfnlaa
open Go Go.Am Go.RowKit Go.Mix Go.Bas
set_option maxRecDepth 100000
noncomputable def af_tcpField : AF := afOf Try.prog Try.f71 [.unr 6]
theorem af_tcpField_ok : AllOk Try.prog 71 af_tcpField := .flat Try.func71 (by kernel_rfl) (by kernel_rfl) (by kernel_rfl) (by kernel_rfl) (by kernel_rfl)
noncomputable def af_tcF1 : AF := afOf Try.prog Try.f119 []
theorem af_tcF1_ok : AllOk Try.prog 119 af_tcF1 := .flat Try.func119 (by kernel_rfl) (by kernel_rfl) (by kernel_rfl) (by kernel_rfl) (by kernel_rfl)
noncomputable def af_tcF2 : AF := afOf Try.prog Try.f120 []
theorem af_tcF2_ok : AllOk Try.prog 120 af_tcF2 := .flat Try.func120 (by kernel_rfl) (by kernel_rfl) (by kernel_rfl) (by kernel_rfl) (by kernel_rfl)
noncomputable def af_tcF3 : AF := afOf Try.prog Try.f121 []
theorem af_tcF3_ok : AllOk Try.prog 121 af_tcF3 := .flat Try.func121 (by kernel_rfl) (by kernel_rfl) (by kernel_rfl) (by kernel_rfl) (by kernel_rfl)
noncomputable def af_tcF4 : AF := afOf Try.prog Try.f122 []
theorem af_tcF4_ok : AllOk Try.prog 122 af_tcF4 := .flat Try.func122 (by kernel_rfl) (by kernel_rfl) (by kernel_rfl) (by kernel_rfl) (by kernel_rfl)
noncomputable def af_tcF5 : AF := afOf Try.prog Try.f123 []
theorem af_tcF5_ok : AllOk Try.prog 123 af_tcF5 := .flat Try.func123 (by kernel_rfl) (by kernel_rfl) (by kernel_rfl) (by kernel_rfl) (by kernel_rfl)
noncomputable def af_tcpParse : AF := afOf Try.prog Try.f26 []
theorem af_tcpParse_ok : AllOk Try.prog 26 af_tcpParse := .flat Try.func26 (by kernel_rfl) (by kernel_rfl) (by kernel_rfl) (by kernel_rfl) (by kernel_rfl)
noncomputable def af_rTcpParse : AF := afOf Try.prog Try.f28 []
theorem af_rTcpParse_ok : AllOk Try.prog 28 af_rTcpParse := .flat Try.func28 (by kernel_rfl) (by kernel_rfl) (by kernel_rfl) (by kernel_rfl) (by kernel_rfl)
noncomputable def af_rTcTwo : AF := afOf Try.prog Try.f74 []
theorem af_rTcTwo_ok : AllOk Try.prog 74 af_rTcTwo := .flat Try.func74 (by kernel_rfl) (by kernel_rfl) (by kernel_rfl) (by kernel_rfl) (by kernel_rfl)
noncomputable def af_rTcFour : AF := afOf Try.prog Try.f75 []
theorem af_rTcFour_ok : AllOk Try.prog 75 af_rTcFour := .flat Try.func75 (by kernel_rfl) (by kernel_rfl) (by kernel_rfl) (by kernel_rfl) (by kernel_rfl)
noncomputable def GEtce0 : List (Nat × Con) := [(126, .val [.bytes, .int .i64] cU16), (127, .val [.bytes, .int .i64] cU32)]
theorem GEtce0_ok : GOk Try.prog GEtce0 := .cons (enters_of Try.func126 (by kernel_rfl) rfl) rU16_con <| .cons (enters_of Try.func127 (by kernel_rfl) rfl) rU32_con <| .nil
noncomputable def IEtce0 : List (Nat × AF) := []
theorem IEtce0_ok : IOk Try.prog IEtce0 := .nil
noncomputable def CEtce0 : List (Nat × (List Nat × (S → Option S))) := []
theorem CEtce0_ok : COk Try.prog CEtce0 := .nil
noncomputable def XEtce0 : List (Nat × (List Sh × (List V → PT))) := []
theorem XEtce0_ok : XOk Try.prog XEtce0 := .nil
noncomputable def Etce0 : Env := ⟨Try.prog, GEtce0, IEtce0, CEtce0, XEtce0⟩
theorem Etce0_ok : EnvOk Etce0 := ⟨by kernel_rfl, GEtce0_ok, IEtce0_ok, CEtce0_ok, XEtce0_ok⟩
theorem rTcTwo_v (b : List UInt8) (i : Int) : callV Etce0 af_rTcTwo [.bytes b, .int .i64 i] = some (.int .i64 (u16 b i).1) := by kernel_rfl
theorem rTcFour_t (b : List UInt8) (i : Int) : callV Etce0 af_rTcFour [.bytes b, .int .i64 i] = bif andT true (decide (i ≤ 9223372036854775807)) then some (.int .u32 (u32 b i).1) else none := by kernel_rfl
theorem rTcFour_v (b : List UInt8) (i : Int) (h : i ≤ 9223372036854775807) : callV Etce0 af_rTcFour [.bytes b, .int .i64 i] = some (.int .u32 (u32 b i).1) := by
  rw [rTcFour_t, decide_eq_true h]; rfl
def cTcTwo : List V → Option (V × Bool)
  | [.bytes b, .int .i64 i] => some (.int .i64 (u16 b i).1, true)
  | _ => none
def cTcFour : List V → Option (V × Bool)
  | [.bytes b, .int .i64 i] => some (.int .u32 (u32 b i).1, decide (i ≤ 9223372036854775807))
  | _ => none
theorem rTcTwo_con : ∀ vs v, cTcTwo vs = some (v, true) → SpecV Try.prog 74 vs v := by
  intro vs v h; unfold cTcTwo at h; split at h
  · rename_i b i
    injection h with h; injection h with h hb; subst h
    exact callV_ok Etce0_ok af_rTcTwo_ok (rTcTwo_v b i)
  · cases h
theorem rTcFour_con : ∀ vs v, cTcFour vs = some (v, true) → SpecV Try.prog 75 vs v := by
  intro vs v h; unfold cTcFour at h; split at h
  · rename_i b i
    injection h with h; injection h with h hb; subst h
    exact callV_ok Etce0_ok af_rTcFour_ok (rTcFour_v b i (of_decide_eq_true hb))
  · cases h
noncomputable def GEtce : List (Nat × Con) := [(68, .val [.bytes] cTopPar), (73, .val [.bytes] cTopPar), (69, .val [.bytes] cClone), (124, .val [.bytes, .int .i64] cU16), (70, .val [.bytes, .int .i64] cU32), (74, .val [.bytes, .int .i64] cTcTwo), (75, .val [.bytes, .int .i64] cTcFour)]
theorem GEtce_ok : GOk Try.prog GEtce := .cons (enters_of Try.func68 (by kernel_rfl) rfl) TopPar_con <| .cons (enters_of Try.func73 (by kernel_rfl) rfl) rToptParse_con <| .cons (enters_of Try.func69 (by kernel_rfl) rfl) Clone_con <| .cons (enters_of Try.func124 (by kernel_rfl) rfl) U16_con <| .cons (enters_of Try.func70 (by kernel_rfl) rfl) U32_con <| .cons (enters_of Try.func74 (by kernel_rfl) rfl) rTcTwo_con <| .cons (enters_of Try.func75 (by kernel_rfl) rfl) rTcFour_con <| .nil
noncomputable def IEtce : List (Nat × AF) := [(71, af_tcpField), (119, af_tcF1), (120, af_tcF2), (121, af_tcF3), (122, af_tcF4), (123, af_tcF5)]
theorem IEtce_ok : IOk Try.prog IEtce := .cons af_tcpField_ok <| .cons af_tcF1_ok <| .cons af_tcF2_ok <| .cons af_tcF3_ok <| .cons af_tcF4_ok <| .cons af_tcF5_ok <| .nil
noncomputable def CEtce : List (Nat × (List Nat × (S → Option S))) := []
theorem CEtce_ok : COk Try.prog CEtce := .nil
noncomputable def XEtce : List (Nat × (List Sh × (List V → PT))) := []
theorem XEtce_ok : XOk Try.prog XEtce := .nil
noncomputable def Etce : Env := ⟨Try.prog, GEtce, IEtce, CEtce, XEtce⟩
theorem Etce_ok : EnvOk Etce := ⟨by kernel_rfl, GEtce_ok, IEtce_ok, CEtce_ok, XEtce_ok⟩
theorem tcpParse_t (b : List UInt8) : callV Etce af_tcpParse [.bytes b] =
    bif decide ((↑b.length : Int) < (20 : Int)) then
        some
          (V.tup
            [V.agg
                [V.int IntKind.i64 (0 : Int), V.int IntKind.i64 (0 : Int), V.int IntKind.u32 (0 : Int),
                  V.int IntKind.u32 (0 : Int), V.int IntKind.i64 (0 : Int), V.int IntKind.i64 (0 : Int),
                  V.int IntKind.i64 (0 : Int), V.int IntKind.i64 (0 : Int),
                  V.rows (Sh.agg [Sh.int IntKind.i64, Sh.bytes]) [], V.bytes []],
              V.int IntKind.i64 (3 : Int)])
      else
        bif andT true (inB (12 : Int) b.length) then
          bif bits BinOp.and IntKind.u8 (gt b (12 : Nat)) (15 : Int) != (0 : Int) then
            bif andT true (inB (12 : Int) b.length) then
              some
                (V.tup
                  [V.agg
                      [V.int IntKind.i64 (0 : Int), V.int IntKind.i64 (0 : Int), V.int IntKind.u32 (0 : Int),
                        V.int IntKind.u32 (0 : Int), V.int IntKind.i64 (0 : Int), V.int IntKind.i64 (0 : Int),
                        V.int IntKind.i64 (0 : Int), V.int IntKind.i64 (0 : Int),
                        V.rows (Sh.agg [Sh.int IntKind.i64, Sh.bytes]) [], V.bytes []],
                    V.int IntKind.i64 (5 : Int)])
            else none
          else
            bif andT true (inB (12 : Int) b.length) then
              bif
                  decide
                    (IntKind.i64.wrap (IntKind.i64.wrap ((gt b (12 : Nat)).fdiv (16 : Int)) * (4 : Int)) < (20 : Int)) then
                some
                  (V.tup
                    [V.agg
                        [V.int IntKind.i64 (0 : Int), V.int IntKind.i64 (0 : Int), V.int IntKind.u32 (0 : Int),
                          V.int IntKind.u32 (0 : Int), V.int IntKind.i64 (0 : Int), V.int IntKind.i64 (0 : Int),
                          V.int IntKind.i64 (0 : Int), V.int IntKind.i64 (0 : Int),
                          V.rows (Sh.agg [Sh.int IntKind.i64, Sh.bytes]) [], V.bytes []],
                      V.int IntKind.i64 (5 : Int)])
              else
                bif
                    decide
                      (IntKind.i64.wrap (IntKind.i64.wrap ((gt b (12 : Nat)).fdiv (16 : Int)) * (4 : Int)) >
                        (↑b.length : Int)) then
                  some
                    (V.tup
                      [V.agg
                          [V.int IntKind.i64 (0 : Int), V.int IntKind.i64 (0 : Int), V.int IntKind.u32 (0 : Int),
                            V.int IntKind.u32 (0 : Int), V.int IntKind.i64 (0 : Int), V.int IntKind.i64 (0 : Int),
                            V.int IntKind.i64 (0 : Int), V.int IntKind.i64 (0 : Int),
                            V.rows (Sh.agg [Sh.int IntKind.i64, Sh.bytes]) [], V.bytes []],
                        V.int IntKind.i64 (3 : Int)])
                else
                  bif
                      andT true
                        (Am.inC (20 : Int)
                            (IntKind.i64.wrap (IntKind.i64.wrap ((gt b (12 : Nat)).fdiv (16 : Int)) * (4 : Int))).toNat &&
                          Am.inC (IntKind.i64.wrap (IntKind.i64.wrap ((gt b (12 : Nat)).fdiv (16 : Int)) * (4 : Int)))
                            b.length) then
                    bif
                        topE
                            (cutL b (20 : Nat)
                              (IntKind.i64.wrap
                                  (IntKind.i64.wrap ((gt b (12 : Nat)).fdiv (16 : Int)) * (4 : Int))).toNat) !=
                          (0 : Int) then
                      some
                        (V.tup
                          [V.agg
                              [V.int IntKind.i64 (0 : Int), V.int IntKind.i64 (0 : Int), V.int IntKind.u32 (0 : Int),
                                V.int IntKind.u32 (0 : Int), V.int IntKind.i64 (0 : Int), V.int IntKind.i64 (0 : Int),
                                V.int IntKind.i64 (0 : Int), V.int IntKind.i64 (0 : Int),
                                V.rows (Sh.agg [Sh.int IntKind.i64, Sh.bytes]) [], V.bytes []],
                            V.int IntKind.i64
                              (topE
                                (cutL b (20 : Nat)
                                  (IntKind.i64.wrap
                                      (IntKind.i64.wrap ((gt b (12 : Nat)).fdiv (16 : Int)) * (4 : Int))).toNat))])
                    else
                      bif
                          andT
                              (andT (andT true (inB (13 : Int) b.length))
                                (Am.inC
                                  (IntKind.i64.wrap (IntKind.i64.wrap ((gt b (12 : Nat)).fdiv (16 : Int)) * (4 : Int)))
                                  b.length))
                              (decide
                                ((cutL b
                                      (IntKind.i64.wrap
                                          (IntKind.i64.wrap ((gt b (12 : Nat)).fdiv (16 : Int)) * (4 : Int))).toNat
                                      b.length).length ≤
                                  (140737488355328 : Nat))) &&
                            true then
                        some
                          (V.tup
                            [V.agg
                                [V.int IntKind.i64 (u16 b (0 : Int)).1, V.int IntKind.i64 (u16 b (2 : Int)).1,
                                  V.int IntKind.u32 (u32 b (4 : Int)).1, V.int IntKind.u32 (u32 b (8 : Int)).1,
                                  V.int IntKind.i64 (IntKind.i64.wrap (gt b (13 : Nat))),
                                  V.int IntKind.i64 (u16 b (14 : Int)).1, V.int IntKind.i64 (u16 b (16 : Int)).1,
                                  V.int IntKind.i64 (u16 b (18 : Int)).1,
                                  V.rows (Sh.agg [Sh.int IntKind.i64, Sh.bytes])
                                    (topP
                                      (cutL b (20 : Nat)
                                        (IntKind.i64.wrap
                                            (IntKind.i64.wrap ((gt b (12 : Nat)).fdiv (16 : Int)) * (4 : Int))).toNat)),
                                  V.bytes
                                    (cutL b
                                      (IntKind.i64.wrap
                                          (IntKind.i64.wrap ((gt b (12 : Nat)).fdiv (16 : Int)) * (4 : Int))).toNat
                                      b.length)],
                              V.int IntKind.i64 (0 : Int)])
                      else none
                  else none
            else none
        else none := by kernel_rfl

theorem rTcpParse_t (b : List UInt8) : callV Etce af_rTcpParse [.bytes b] =
    bif decide ((↑b.length : Int) < (20 : Int)) then
        some
          (V.tup
            [V.agg
                [V.int IntKind.i64 (0 : Int), V.int IntKind.i64 (0 : Int), V.int IntKind.u32 (0 : Int),
                  V.int IntKind.u32 (0 : Int), V.int IntKind.i64 (0 : Int), V.int IntKind.i64 (0 : Int),
                  V.int IntKind.i64 (0 : Int), V.int IntKind.i64 (0 : Int),
                  V.rows (Sh.agg [Sh.int IntKind.i64, Sh.bytes]) [], V.bytes []],
              V.int IntKind.i64 (3 : Int)])
      else
        bif (gt b (12 : Nat)).tmod (16 : Int) != (0 : Int) then
          bif andT true (inB (12 : Int) b.length) then
            some
              (V.tup
                [V.agg
                    [V.int IntKind.i64 (0 : Int), V.int IntKind.i64 (0 : Int), V.int IntKind.u32 (0 : Int),
                      V.int IntKind.u32 (0 : Int), V.int IntKind.i64 (0 : Int), V.int IntKind.i64 (0 : Int),
                      V.int IntKind.i64 (0 : Int), V.int IntKind.i64 (0 : Int),
                      V.rows (Sh.agg [Sh.int IntKind.i64, Sh.bytes]) [], V.bytes []],
                  V.int IntKind.i64 (5 : Int)])
          else none
        else
          bif andT (andT true (inB (12 : Int) b.length)) (inB (12 : Int) b.length) then
            bif decide (IntKind.u8.wrap ((gt b (12 : Nat)).tdiv (16 : Int)) < (5 : Int)) then
              some
                (V.tup
                  [V.agg
                      [V.int IntKind.i64 (0 : Int), V.int IntKind.i64 (0 : Int), V.int IntKind.u32 (0 : Int),
                        V.int IntKind.u32 (0 : Int), V.int IntKind.i64 (0 : Int), V.int IntKind.i64 (0 : Int),
                        V.int IntKind.i64 (0 : Int), V.int IntKind.i64 (0 : Int),
                        V.rows (Sh.agg [Sh.int IntKind.i64, Sh.bytes]) [], V.bytes []],
                    V.int IntKind.i64 (5 : Int)])
            else
              bif andT true (inB (12 : Int) b.length) then
                bif
                    decide
                      (IntKind.i64.wrap
                          (IntKind.i64.wrap (IntKind.u8.wrap ((gt b (12 : Nat)).tdiv (16 : Int))) * (4 : Int)) >
                        (↑b.length : Int)) then
                  some
                    (V.tup
                      [V.agg
                          [V.int IntKind.i64 (0 : Int), V.int IntKind.i64 (0 : Int), V.int IntKind.u32 (0 : Int),
                            V.int IntKind.u32 (0 : Int), V.int IntKind.i64 (0 : Int), V.int IntKind.i64 (0 : Int),
                            V.int IntKind.i64 (0 : Int), V.int IntKind.i64 (0 : Int),
                            V.rows (Sh.agg [Sh.int IntKind.i64, Sh.bytes]) [], V.bytes []],
                        V.int IntKind.i64 (3 : Int)])
                else
                  bif
                      andT true
                        (Am.inC (20 : Int)
                            (IntKind.i64.wrap
                                (IntKind.i64.wrap (IntKind.u8.wrap ((gt b (12 : Nat)).tdiv (16 : Int))) *
                                  (4 : Int))).toNat &&
                          Am.inC
                            (IntKind.i64.wrap
                              (IntKind.i64.wrap (IntKind.u8.wrap ((gt b (12 : Nat)).tdiv (16 : Int))) * (4 : Int)))
                            b.length) then
                    bif
                        topE
                            (cutL b (20 : Nat)
                              (IntKind.i64.wrap
                                  (IntKind.i64.wrap (IntKind.u8.wrap ((gt b (12 : Nat)).tdiv (16 : Int))) *
                                    (4 : Int))).toNat) !=
                          (0 : Int) then
                      some
                        (V.tup
                          [V.agg
                              [V.int IntKind.i64 (0 : Int), V.int IntKind.i64 (0 : Int), V.int IntKind.u32 (0 : Int),
                                V.int IntKind.u32 (0 : Int), V.int IntKind.i64 (0 : Int), V.int IntKind.i64 (0 : Int),
                                V.int IntKind.i64 (0 : Int), V.int IntKind.i64 (0 : Int),
                                V.rows (Sh.agg [Sh.int IntKind.i64, Sh.bytes]) [], V.bytes []],
                            V.int IntKind.i64
                              (topE
                                (cutL b (20 : Nat)
                                  (IntKind.i64.wrap
                                      (IntKind.i64.wrap (IntKind.u8.wrap ((gt b (12 : Nat)).tdiv (16 : Int))) *
                                        (4 : Int))).toNat))])
                    else
                      bif
                          andT
                              (andT (andT true (inB (13 : Int) b.length))
                                (Am.inC
                                  (IntKind.i64.wrap
                                    (IntKind.i64.wrap (IntKind.u8.wrap ((gt b (12 : Nat)).tdiv (16 : Int))) * (4 : Int)))
                                  b.length))
                              (((List.replicate (0 : Nat) (0 : UInt8) ++
                                        cutL b
                                          (IntKind.i64.wrap
                                              (IntKind.i64.wrap (IntKind.u8.wrap ((gt b (12 : Nat)).tdiv (16 : Int))) *
                                                (4 : Int))).toNat
                                          b.length).length *
                                    (1 : Nat)).ble
                                (140737488355328 : Nat)) &&
                            true then
                        some
                          (V.tup
                            [V.agg
                                [V.int IntKind.i64 (u16 b (0 : Int)).1, V.int IntKind.i64 (u16 b (2 : Int)).1,
                                  V.int IntKind.u32 (u32 b (4 : Int)).1, V.int IntKind.u32 (u32 b (8 : Int)).1,
                                  V.int IntKind.i64 (IntKind.i64.wrap (gt b (13 : Nat))),
                                  V.int IntKind.i64 (u16 b (14 : Int)).1, V.int IntKind.i64 (u16 b (16 : Int)).1,
                                  V.int IntKind.i64 (u16 b (18 : Int)).1,
                                  V.rows (Sh.agg [Sh.int IntKind.i64, Sh.bytes])
                                    (topP
                                      (cutL b (20 : Nat)
                                        (IntKind.i64.wrap
                                            (IntKind.i64.wrap (IntKind.u8.wrap ((gt b (12 : Nat)).tdiv (16 : Int))) *
                                              (4 : Int))).toNat)),
                                  V.bytes
                                    (List.replicate (0 : Nat) (0 : UInt8) ++
                                      cutL b
                                        (IntKind.i64.wrap
                                            (IntKind.i64.wrap (IntKind.u8.wrap ((gt b (12 : Nat)).tdiv (16 : Int))) *
                                              (4 : Int))).toNat
                                        b.length)],
                              V.int IntKind.i64 (0 : Int)])
                      else none
                  else none
              else none
          else none := by kernel_rfl

def tc0 : Tc := ⟨0, 0, 0, 0, 0, 0, 0, 0, [], []⟩
/-- the segment of bytes -/
def tpXX (b : List UInt8) : Tc := if tpE b = 0 then ⟨(u16 b 0).1, (u16 b 2).1, (u32 b 4).1, (u32 b 8).1, gt b 13, (u16 b 14).1, (u16 b 16).1, (u16 b 18).1, topP (tpO b), b.drop (tpH b).toNat⟩ else tc0
theorem and15 (x : UInt8) : bits .and .u8 (x.toNat : Int) 15 = (x.toNat : Int) % 16 := by
  have h : ∀ n : Fin 256, bits .and .u8 (n.val : Int) 15 = (n.val : Int) % 16 := by decide
  exact h ⟨x.toNat, x.toNat_lt⟩
theorem and15g (b : List UInt8) (i : Nat) : bits .and .u8 (gt b i) 15 = gt b i % 16 := and15 _
theorem tpW1 (b : List UInt8) : IntKind.i64.wrap (IntKind.i64.wrap ((gt b 12).fdiv 16) * 4) = tpH b := by
  have h1 := gt_lo b 12
  have h2 := gt_hi b 12
  unfold tpH
  rw [fdv (by omega), w64 (x := gt b 12 / 16) (by omega) (by omega), w64 (by omega) (by omega)]
theorem tpW2 (b : List UInt8) : IntKind.i64.wrap (IntKind.i64.wrap (IntKind.u8.wrap ((gt b 12).tdiv 16)) * 4) = tpH b := by
  have h1 := gt_lo b 12
  have h2 := gt_hi b 12
  unfold tpH
  rw [tdv (by omega), wu8 (by omega) (by omega), w64 (x := gt b 12 / 16) (by omega) (by omega), w64 (by omega) (by omega)]
theorem tcpParse_v (b : List UInt8) (h : b.length ≤ 140737488355328) : callV Etce af_tcpParse [.bytes b] = some (.tup [(tpXX b).v, .int .i64 (tpE b)]) := by
  rw [tcpParse_t]
  simp only [tpW1, and15g]
  have h1 := gt_lo b 12
  have h2 := gt_hi b 12
  have hH : tpH b = gt b 12 / 16 * 4 := rfl
  unfold tpXX
  by_cases c1 : b.length < 20
  · have e : tpE b = 3 := by unfold tpE; rw [if_pos c1]
    rw [e, if_neg (by decide)]
    simp (disch := omega) only [dec_t, dec_f, inB_t, inC_t, andT_t, cond_true, cond_false, Bool.and_true, Bool.true_and, w64, wu32, wu8, nble_t, nblt_t, Bool.not_true, Bool.not_false, Bool.not_not, ieq_t, ieq_f, ine_t, ine_f, true_and, and_true, andT_l]
    rfl
  by_cases c2 : gt b 12 % 16 ≠ 0
  · have e : tpE b = 5 := by unfold tpE; rw [if_neg c1, if_pos (.inl c2)]
    rw [e, if_neg (by decide)]
    simp (disch := omega) only [dec_t, dec_f, inB_t, inC_t, andT_t, cond_true, cond_false, Bool.and_true, Bool.true_and, w64, wu32, wu8, nble_t, nblt_t, Bool.not_true, Bool.not_false, Bool.not_not, ieq_t, ieq_f, ine_t, ine_f, true_and, and_true, andT_l]
    rfl
  by_cases c3 : gt b 12 / 16 < 5
  · have e : tpE b = 5 := by unfold tpE; rw [if_neg c1, if_pos (.inr c3)]
    rw [e, if_neg (by decide)]
    simp (disch := omega) only [dec_t, dec_f, inB_t, inC_t, andT_t, cond_true, cond_false, Bool.and_true, Bool.true_and, w64, wu32, wu8, nble_t, nblt_t, Bool.not_true, Bool.not_false, Bool.not_not, ieq_t, ieq_f, ine_t, ine_f, true_and, and_true, andT_l]
    rfl
  have c4 : ¬ (gt b 12 % 16 ≠ 0 ∨ gt b 12 / 16 < 5) := by omega
  by_cases c5 : gt b 12 / 16 * 4 > b.length
  · have e : tpE b = 3 := by unfold tpE; rw [if_neg c1, if_neg c4, if_pos c5]
    rw [e, if_neg (by decide)]
    simp (disch := omega) only [dec_t, dec_f, inB_t, inC_t, andT_t, cond_true, cond_false, Bool.and_true, Bool.true_and, w64, wu32, wu8, nble_t, nblt_t, Bool.not_true, Bool.not_false, Bool.not_not, ieq_t, ieq_f, ine_t, ine_f, true_and, and_true, andT_l]
    rfl
  have e : tpE b = topE (tpO b) := by unfold tpE; rw [if_neg c1, if_neg c4, if_neg c5]
  have eO : cutL b 20 (tpH b).toNat = tpO b := rfl
  have hl : (cutL b (tpH b).toNat b.length).length ≤ 140737488355328 := by rw [length_cutL]; omega
  rw [e, eO]
  by_cases c6 : topE (tpO b) = 0
  · rw [if_pos c6, c6, cutL_all]
    rw [cutL_all] at hl
    have hf := gt_lo b 13
    have hf' := gt_hi b 13
    rw [w64 (x := gt b 13) (by omega) (by omega)]
    simp (disch := omega) only [dec_t, dec_f, inB_t, inC_t, andT_t, cond_true, cond_false, Bool.and_true, Bool.true_and, w64, wu32, wu8, nble_t, nblt_t, Bool.not_true, Bool.not_false, Bool.not_not, ieq_t, ieq_f, ine_t, ine_f, true_and, and_true, andT_l]
    rfl
  · rw [if_neg c6]
    simp (disch := omega) only [dec_t, dec_f, inB_t, inC_t, andT_t, cond_true, cond_false, Bool.and_true, Bool.true_and, w64, wu32, wu8, nble_t, nblt_t, Bool.not_true, Bool.not_false, Bool.not_not, ieq_t, ieq_f, ine_t, ine_f, true_and, and_true, andT_l]
    rfl
theorem rTcpParse_v (b : List UInt8) (h : b.length ≤ 140737488355328) : callV Etce af_rTcpParse [.bytes b] = some (.tup [(tpXX b).v, .int .i64 (tpE b)]) := by
  rw [rTcpParse_t]
  have h1 := gt_lo b 12
  have h2 := gt_hi b 12
  rw [tmd h1, tdv (a := gt b 12) h1, wu8 (x := gt b 12 / 16) (by omega) (by omega)]
  have eW : IntKind.i64.wrap (IntKind.i64.wrap (gt b 12 / 16) * 4) = tpH b := by
    unfold tpH
    rw [w64 (x := gt b 12 / 16) (by omega) (by omega), w64 (by omega) (by omega)]
  simp only [eW]
  have hH : tpH b = gt b 12 / 16 * 4 := rfl
  unfold tpXX
  by_cases c1 : b.length < 20
  · have e : tpE b = 3 := by unfold tpE; rw [if_pos c1]
    rw [e, if_neg (by decide)]
    simp (disch := omega) only [dec_t, dec_f, inB_t, inC_t, andT_t, cond_true, cond_false, Bool.and_true, Bool.true_and, w64, wu32, wu8, nble_t, nblt_t, Bool.not_true, Bool.not_false, Bool.not_not, ieq_t, ieq_f, ine_t, ine_f, true_and, and_true, andT_l]
    rfl
  by_cases c2 : gt b 12 % 16 ≠ 0
  · have e : tpE b = 5 := by unfold tpE; rw [if_neg c1, if_pos (.inl c2)]
    rw [e, if_neg (by decide)]
    simp (disch := omega) only [dec_t, dec_f, inB_t, inC_t, andT_t, cond_true, cond_false, Bool.and_true, Bool.true_and, w64, wu32, wu8, nble_t, nblt_t, Bool.not_true, Bool.not_false, Bool.not_not, ieq_t, ieq_f, ine_t, ine_f, true_and, and_true, andT_l]
    rfl
  by_cases c3 : gt b 12 / 16 < 5
  · have e : tpE b = 5 := by unfold tpE; rw [if_neg c1, if_pos (.inr c3)]
    rw [e, if_neg (by decide)]
    simp (disch := omega) only [dec_t, dec_f, inB_t, inC_t, andT_t, cond_true, cond_false, Bool.and_true, Bool.true_and, w64, wu32, wu8, nble_t, nblt_t, Bool.not_true, Bool.not_false, Bool.not_not, ieq_t, ieq_f, ine_t, ine_f, true_and, and_true, andT_l]
    rfl
  have c4 : ¬ (gt b 12 % 16 ≠ 0 ∨ gt b 12 / 16 < 5) := by omega
  by_cases c5 : gt b 12 / 16 * 4 > b.length
  · have e : tpE b = 3 := by unfold tpE; rw [if_neg c1, if_neg c4, if_pos c5]
    rw [e, if_neg (by decide)]
    simp (disch := omega) only [dec_t, dec_f, inB_t, inC_t, andT_t, cond_true, cond_false, Bool.and_true, Bool.true_and, w64, wu32, wu8, nble_t, nblt_t, Bool.not_true, Bool.not_false, Bool.not_not, ieq_t, ieq_f, ine_t, ine_f, true_and, and_true, andT_l]
    rfl
  have e : tpE b = topE (tpO b) := by unfold tpE; rw [if_neg c1, if_neg c4, if_neg c5]
  have eO : cutL b 20 (tpH b).toNat = tpO b := rfl
  have hl : (cutL b (tpH b).toNat b.length).length ≤ 140737488355328 := by rw [length_cutL]; omega
  rw [e, eO]
  by_cases c6 : topE (tpO b) = 0
  · rw [if_pos c6, c6, cutL_all]
    rw [cutL_all] at hl
    have hf := gt_lo b 13
    have hf' := gt_hi b 13
    rw [w64 (x := gt b 13) (by omega) (by omega), List.replicate_zero, List.nil_append]
    simp (disch := omega) only [dec_t, dec_f, inB_t, inC_t, andT_t, cond_true, cond_false, Bool.and_true, Bool.true_and, w64, wu32, wu8, nble_t, nblt_t, Bool.not_true, Bool.not_false, Bool.not_not, ieq_t, ieq_f, ine_t, ine_f, true_and, and_true, andT_l]
    rfl
  · rw [if_neg c6]
    simp (disch := omega) only [dec_t, dec_f, inB_t, inC_t, andT_t, cond_true, cond_false, Bool.and_true, Bool.true_and, w64, wu32, wu8, nble_t, nblt_t, Bool.not_true, Bool.not_false, Bool.not_not, ieq_t, ieq_f, ine_t, ine_f, true_and, and_true, andT_l]
    rfl
def cTcpPar : List V → Option (V × Bool)
  | [.bytes b] => some (.tup [(tpXX b).v, .int .i64 (tpE b)], decide (b.length ≤ 140737488355328))
  | _ => none
theorem tcpParse_con : ∀ vs v, cTcpPar vs = some (v, true) → SpecV Try.prog 26 vs v := by
  intro vs v h; unfold cTcpPar at h; split at h
  · rename_i b
    injection h with h; injection h with h hb; subst h
    exact callV_ok Etce_ok af_tcpParse_ok (tcpParse_v b (of_decide_eq_true hb))
  · cases h
theorem rTcpParse_con : ∀ vs v, cTcpPar vs = some (v, true) → SpecV Try.prog 28 vs v := by
  intro vs v h; unfold cTcpPar at h; split at h
  · rename_i b
    injection h with h; injection h with h hb; subst h
    exact callV_ok Etce_ok af_rTcpParse_ok (rTcpParse_v b (of_decide_eq_true hb))
  · cases h
end Go.Proofs.Ytbojofchpnfnlaa

namespace Go.Proofs.Ytbojofchpnfnlaa
open Go Go.Am Go.RowKit Go.Mix Go.Bas
set_option maxRecDepth 100000
noncomputable def af_rTcSame : AF := afOf Try.prog Try.f27 []
theorem af_rTcSame_ok : AllOk Try.prog 27 af_rTcSame := .flat Try.func27 (by kernel_rfl) (by kernel_rfl) (by kernel_rfl) (by kernel_rfl) (by kernel_rfl)
noncomputable def GEtcf0 : List (Nat × Con) := [(72, .val [.rows (.agg [.int .i64, .bytes]), .rows (.agg [.int .i64, .bytes])] crToptSame)]
theorem GEtcf0_ok : GOk Try.prog GEtcf0 := .cons (enters_of Try.func72 (by kernel_rfl) rfl) rToptSame_con <| .nil
noncomputable def IEtcf0 : List (Nat × AF) := []
theorem IEtcf0_ok : IOk Try.prog IEtcf0 := .nil
noncomputable def CEtcf0 : List (Nat × (List Nat × (S → Option S))) := []
theorem CEtcf0_ok : COk Try.prog CEtcf0 := .nil
noncomputable def XEtcf0 : List (Nat × (List Sh × (List V → PT))) := []
theorem XEtcf0_ok : XOk Try.prog XEtcf0 := .nil
noncomputable def Etcf0 : Env := ⟨Try.prog, GEtcf0, IEtcf0, CEtcf0, XEtcf0⟩
theorem Etcf0_ok : EnvOk Etcf0 := ⟨by kernel_rfl, GEtcf0_ok, IEtcf0_ok, CEtcf0_ok, XEtcf0_ok⟩
theorem rTcSame_t (sp dp sq ak fl wn sm ug : Int) (op : List V) (pl : List UInt8) : callV Etcf0 af_rTcSame [.agg [.int .i64 sp, .int .i64 dp, .int .u32 sq, .int .u32 ak, .int .i64 fl, .int .i64 wn, .int .i64 sm, .int .i64 ug, .rows (.agg [.int .i64, .bytes]) op, .bytes pl], .agg [.int .i64 sp, .int .i64 dp, .int .u32 sq, .int .u32 ak, .int .i64 fl, .int .i64 wn, .int .i64 sm, .int .i64 ug, .rows (.agg [.int .i64, .bytes]) op, .bytes pl]] =
    bif sp == sp then
        bif dp == dp then
          bif sq == sq then
            bif ak == ak then
              bif fl == fl then
                bif wn == wn then
                  bif sm == sm then
                    bif ug == ug then
                      bif andT true (eqV op op && decide (op.length ≤ (4611686018427387904 : Nat))) then
                        some (V.bool (pl == pl))
                      else none
                    else some (V.bool false)
                  else some (V.bool false)
                else some (V.bool false)
              else some (V.bool false)
            else some (V.bool false)
          else some (V.bool false)
        else some (V.bool false)
      else some (V.bool false) := by kernel_rfl

open Classical in
noncomputable def eqTc (a b : Tc) : Bool := decide (a = b)
theorem eqTc_iff {a b : Tc} : eqTc a b = true ↔ a = b := by simp [eqTc]
theorem rTcSame_v (a b : Tc) (h : (eqTc a b && decide (a.op.length ≤ 4611686018427387904)) = true) : callV Etcf0 af_rTcSame [a.v, b.v] = some (.bool true) := by
  obtain ⟨h1, h2⟩ := (Bool.and_eq_true _ _).mp h
  obtain rfl := eqTc_iff.1 h1
  have h2 := of_decide_eq_true h2
  obtain ⟨sp, dp, sq, ak, fl, wn, sm, ug, op, pl⟩ := a
  simp only at h2
  have e : eqV op op = true := eqV_iff.2 rfl
  rw [Tc.v, rTcSame_t, e]
  simp only [beq_self_eq_true]
  simp (disch := omega) only [dec_t, dec_f, inB_t, inC_t, andT_t, cond_true, cond_false, Bool.and_true, Bool.true_and, w64, wu32, wu8, nble_t, nblt_t, Bool.not_true, Bool.not_false, Bool.not_not, ieq_t, ieq_f, ine_t, ine_f, true_and, and_true, andT_l]
noncomputable def crTcSame : List V → Option (V × Bool)
  | [.agg [.int .i64 sp, .int .i64 dp, .int .u32 sq, .int .u32 ak, .int .i64 fl, .int .i64 wn, .int .i64 sm, .int .i64 ug, .rows (.agg [.int .i64, .bytes]) op, .bytes pl], .agg [.int .i64 sp2, .int .i64 dp2, .int .u32 sq2, .int .u32 ak2, .int .i64 fl2, .int .i64 wn2, .int .i64 sm2, .int .i64 ug2, .rows (.agg [.int .i64, .bytes]) op2, .bytes pl2]] => some (.bool true, (eqTc ⟨sp, dp, sq, ak, fl, wn, sm, ug, op, pl⟩ ⟨sp2, dp2, sq2, ak2, fl2, wn2, sm2, ug2, op2, pl2⟩ && decide (op.length ≤ 4611686018427387904)))
  | _ => none
theorem rTcSame_con : ∀ vs v, crTcSame vs = some (v, true) → SpecV Try.prog 27 vs v := by
  intro vs v h; unfold crTcSame at h; split at h
  · rename_i sp dp sq ak fl wn sm ug op pl sp2 dp2 sq2 ak2 fl2 wn2 sm2 ug2 op2 pl2
    injection h with h; injection h with h hb; subst h
    exact callV_ok Etcf0_ok af_rTcSame_ok (rTcSame_v ⟨sp, dp, sq, ak, fl, wn, sm, ug, op, pl⟩ ⟨sp2, dp2, sq2, ak2, fl2, wn2, sm2, ug2, op2, pl2⟩ hb)
  · cases h
noncomputable def af_tcHas : AF := afOf Try.prog Try.f25 []
theorem af_tcHas_ok : AllOk Try.prog 25 af_tcHas := .flat Try.func25 (by kernel_rfl) (by kernel_rfl) (by kernel_rfl) (by kernel_rfl) (by kernel_rfl)
noncomputable def af_tcSpan : AF := afOf Try.prog Try.f21 [.unr 3]
theorem af_tcSpan_ok : AllOk Try.prog 21 af_tcSpan := .flat Try.func21 (by kernel_rfl) (by kernel_rfl) (by kernel_rfl) (by kernel_rfl) (by kernel_rfl)
noncomputable def af_tcFirst : AF := afOf Try.prog Try.f23 []
theorem af_tcFirst_ok : AllOk Try.prog 23 af_tcFirst := .flat Try.func23 (by kernel_rfl) (by kernel_rfl) (by kernel_rfl) (by kernel_rfl) (by kernel_rfl)
noncomputable def af_rTcFlag : AF := afOf Try.prog Try.f67 []
theorem af_rTcFlag_ok : AllOk Try.prog 67 af_rTcFlag := .flat Try.func67 (by kernel_rfl) (by kernel_rfl) (by kernel_rfl) (by kernel_rfl) (by kernel_rfl)
noncomputable def af_rTcSpan : AF := afOf Try.prog Try.f22 []
theorem af_rTcSpan_ok : AllOk Try.prog 22 af_rTcSpan := .flat Try.func22 (by kernel_rfl) (by kernel_rfl) (by kernel_rfl) (by kernel_rfl) (by kernel_rfl)
noncomputable def af_rTcFirst : AF := afOf Try.prog Try.f24 []
theorem af_rTcFirst_ok : AllOk Try.prog 24 af_rTcFirst := .flat Try.func24 (by kernel_rfl) (by kernel_rfl) (by kernel_rfl) (by kernel_rfl) (by kernel_rfl)
noncomputable def af_tcSeal : AF := afOf Try.prog Try.f31 []
theorem af_tcSeal_ok : AllOk Try.prog 31 af_tcSeal := .flat Try.func31 (by kernel_rfl) (by kernel_rfl) (by kernel_rfl) (by kernel_rfl) (by kernel_rfl)
noncomputable def af_tcFine : AF := afOf Try.prog Try.f29 []
theorem af_tcFine_ok : AllOk Try.prog 29 af_tcFine := .flat Try.func29 (by kernel_rfl) (by kernel_rfl) (by kernel_rfl) (by kernel_rfl) (by kernel_rfl)
noncomputable def af_rTcSeal : AF := afOf Try.prog Try.f107 []
theorem af_rTcSeal_ok : AllOk Try.prog 107 af_rTcSeal := .flat Try.func107 (by kernel_rfl) (by kernel_rfl) (by kernel_rfl) (by kernel_rfl) (by kernel_rfl)
noncomputable def af_small7 : AF := afOf Try.prog Try.f16 []
theorem af_small7_ok : AllOk Try.prog 16 af_small7 := .flat Try.func16 (by kernel_rfl) (by kernel_rfl) (by kernel_rfl) (by kernel_rfl) (by kernel_rfl)
noncomputable def af_lives7 : AF := afOf Try.prog Try.f17 []
theorem af_lives7_ok : AllOk Try.prog 17 af_lives7 := .flat Try.func17 (by kernel_rfl) (by kernel_rfl) (by kernel_rfl) (by kernel_rfl) (by kernel_rfl)
noncomputable def GEtcf : List (Nat × Con) := [(18, .val [.agg [.int .i64, .int .i64, .int .u32, .int .u32, .int .i64, .int .i64, .int .i64, .int .i64, .rows (.agg [.int .i64, .bytes]), .bytes]] cTcpPut), (19, .val [.agg [.int .i64, .int .i64, .int .u32, .int .u32, .int .i64, .int .i64, .int .i64, .int .i64, .rows (.agg [.int .i64, .bytes]), .bytes]] cTcpPut), (20, .val [.agg [.int .i64, .int .i64, .int .u32, .int .u32, .int .i64, .int .i64, .int .i64, .int .i64, .rows (.agg [.int .i64, .bytes]), .bytes]] cTcpCan), (60, .val [.agg [.int .i64, .int .i64, .int .u32, .int .u32, .int .i64, .int .i64, .int .i64, .int .i64, .rows (.agg [.int .i64, .bytes]), .bytes]] cTcpCan), (26, .val [.bytes] cTcpPar), (28, .val [.bytes] cTcpPar), (80, .val [.barr 16, .barr 16, .int .i64, .bytes] cChk), (150, .val [.barr 16, .barr 16, .int .i64, .bytes] cChk), (76, .val [.barr 16, .barr 16, .int .i64, .bytes] cFine), (30, .val [.barr 16, .barr 16, .int .i64, .bytes] cFine), (27, .val [.agg [.int .i64, .int .i64, .int .u32, .int .u32, .int .i64, .int .i64, .int .i64, .int .i64, .rows (.agg [.int .i64, .bytes]), .bytes], .agg [.int .i64, .int .i64, .int .u32, .int .u32, .int .i64, .int .i64, .int .i64, .int .i64, .rows (.agg [.int .i64, .bytes]), .bytes]] crTcSame)]
theorem GEtcf_ok : GOk Try.prog GEtcf := .cons (enters_of Try.func18 (by kernel_rfl) rfl) tcpPut_con <| .cons (enters_of Try.func19 (by kernel_rfl) rfl) rTcpPut_con <| .cons (enters_of Try.func20 (by kernel_rfl) rfl) tcpCan_con <| .cons (enters_of Try.func60 (by kernel_rfl) rfl) rTcpCan_con <| .cons (enters_of Try.func26 (by kernel_rfl) rfl) tcpParse_con <| .cons (enters_of Try.func28 (by kernel_rfl) rfl) rTcpParse_con <| .cons (enters_of Try.func80 (by kernel_rfl) rfl) Chk_con <| .cons (enters_of Try.func150 (by kernel_rfl) rfl) rChk_con <| .cons (enters_of Try.func76 (by kernel_rfl) rfl) Fine_con <| .cons (enters_of Try.func30 (by kernel_rfl) rfl) rFine_con <| .cons (enters_of Try.func27 (by kernel_rfl) rfl) rTcSame_con <| .nil
noncomputable def IEtcf : List (Nat × AF) := [(25, af_tcHas), (21, af_tcSpan), (23, af_tcFirst), (67, af_rTcFlag), (22, af_rTcSpan), (24, af_rTcFirst), (31, af_tcSeal), (29, af_tcFine), (16, af_small7)]
theorem IEtcf_ok : IOk Try.prog IEtcf := .cons af_tcHas_ok <| .cons af_tcSpan_ok <| .cons af_tcFirst_ok <| .cons af_rTcFlag_ok <| .cons af_rTcSpan_ok <| .cons af_rTcFirst_ok <| .cons af_tcSeal_ok <| .cons af_tcFine_ok <| .cons af_small7_ok <| .nil
noncomputable def CEtcf : List (Nat × (List Nat × (S → Option S))) := []
theorem CEtcf_ok : COk Try.prog CEtcf := .nil
noncomputable def XEtcf : List (Nat × (List Sh × (List V → PT))) := []
theorem XEtcf_ok : XOk Try.prog XEtcf := .nil
noncomputable def Etcf : Env := ⟨Try.prog, GEtcf, IEtcf, CEtcf, XEtcf⟩
theorem Etcf_ok : EnvOk Etcf := ⟨by kernel_rfl, GEtcf_ok, IEtcf_ok, CEtcf_ok, XEtcf_ok⟩
theorem lives7_v : callV Etcf af_lives7 [] = some (.bool true) := by kernel_rfl
theorem tcSeal_t (s d : List UInt8) (sp dp sq ak fl wn sm ug : Int) (op : List V) (pl : List UInt8) : callV Etcf af_tcSeal [.barr 16 s, .barr 16 d, .agg [.int .i64 sp, .int .i64 dp, .int .u32 sq, .int .u32 ak, .int .i64 fl, .int .i64 wn, .int .i64 sm, .int .i64 ug, .rows (.agg [.int .i64, .bytes]) op, .bytes pl]] =
    bif
          andT true
            (decide (op.length ≤ (4611686018427387904 : Nat)) &&
              (smallL op &&
                decide (((0 : Int) ≤ sq ∧ sq ≤ (4294967295 : Int)) ∧ (0 : Int) ≤ ak ∧ ak ≤ (4294967295 : Int)))) then
        bif
            tcEr { sp := sp, dp := dp, sq := sq, ak := ak, fl := fl, wn := wn, sm := sm, ug := ug, op := op, pl := pl } !=
              (0 : Int) then
          bif andT true (decide (op.length ≤ (4611686018427387904 : Nat)) && smallL op) then
            some
              (V.agg
                [V.int IntKind.i64 sp, V.int IntKind.i64 dp, V.int IntKind.u32 sq, V.int IntKind.u32 ak,
                  V.int IntKind.i64 fl, V.int IntKind.i64 wn, V.int IntKind.i64 sm, V.int IntKind.i64 ug,
                  V.rows (Sh.agg [Sh.int IntKind.i64, Sh.bytes]) op, V.bytes pl])
          else none
        else
          bif andT true (decide (op.length ≤ (4611686018427387904 : Nat)) && smallL op) then
            bif
                tcEr
                    { sp := sp, dp := dp, sq := sq, ak := ak, fl := fl, wn := wn, sm := (0 : Int), ug := ug, op := op,
                      pl := pl } !=
                  (0 : Int) then
              some
                (V.agg
                  [V.int IntKind.i64 sp, V.int IntKind.i64 dp, V.int IntKind.u32 sq, V.int IntKind.u32 ak,
                    V.int IntKind.i64 fl, V.int IntKind.i64 wn, V.int IntKind.i64 sm, V.int IntKind.i64 ug,
                    V.rows (Sh.agg [Sh.int IntKind.i64, Sh.bytes]) op, V.bytes pl])
            else
              bif
                  andT true
                    (decide
                      ((tcP
                            { sp := sp, dp := dp, sq := sq, ak := ak, fl := fl, wn := wn, sm := (0 : Int), ug := ug,
                              op := op, pl := pl }).length ≤
                        (140737488355327 : Nat))) then
                some
                  (V.agg
                    [V.int IntKind.i64 sp, V.int IntKind.i64 dp, V.int IntKind.u32 sq, V.int IntKind.u32 ak,
                      V.int IntKind.i64 fl, V.int IntKind.i64 wn,
                      V.int IntKind.i64
                        (chk s d (6 : Int)
                          (tcP
                            { sp := sp, dp := dp, sq := sq, ak := ak, fl := fl, wn := wn, sm := (0 : Int), ug := ug,
                              op := op, pl := pl })),
                      V.int IntKind.i64 ug, V.rows (Sh.agg [Sh.int IntKind.i64, Sh.bytes]) op, V.bytes pl])
              else none
          else none
      else none := by kernel_rfl

theorem rTcSeal_t (s d : List UInt8) (sp dp sq ak fl wn sm ug : Int) (op : List V) (pl : List UInt8) : callV Etcf af_rTcSeal [.barr 16 s, .barr 16 d, .agg [.int .i64 sp, .int .i64 dp, .int .u32 sq, .int .u32 ak, .int .i64 fl, .int .i64 wn, .int .i64 sm, .int .i64 ug, .rows (.agg [.int .i64, .bytes]) op, .bytes pl]] =
    bif andT true (decide (op.length ≤ (4611686018427387904 : Nat)) && smallL op) then
        bif
            tcEr { sp := sp, dp := dp, sq := sq, ak := ak, fl := fl, wn := wn, sm := sm, ug := ug, op := op, pl := pl } !=
              (0 : Int) then
          some
            (V.agg
              [V.int IntKind.i64 sp, V.int IntKind.i64 dp, V.int IntKind.u32 sq, V.int IntKind.u32 ak, V.int IntKind.i64 fl,
                V.int IntKind.i64 wn, V.int IntKind.i64 sm, V.int IntKind.i64 ug,
                V.rows (Sh.agg [Sh.int IntKind.i64, Sh.bytes]) op, V.bytes pl])
        else
          bif
              andT true
                (decide (op.length ≤ (4611686018427387904 : Nat)) &&
                  (smallL op &&
                    decide (((0 : Int) ≤ sq ∧ sq ≤ (4294967295 : Int)) ∧ (0 : Int) ≤ ak ∧ ak ≤ (4294967295 : Int)))) then
            bif
                andT true
                  (decide
                    ((tcP
                          { sp := sp, dp := dp, sq := sq, ak := ak, fl := fl, wn := wn, sm := (0 : Int), ug := ug, op := op,
                            pl := pl }).length ≤
                      (140737488355327 : Nat))) then
              some
                (V.agg
                  [V.int IntKind.i64 sp, V.int IntKind.i64 dp, V.int IntKind.u32 sq, V.int IntKind.u32 ak,
                    V.int IntKind.i64 fl, V.int IntKind.i64 wn,
                    V.int IntKind.i64
                      (chk s d (6 : Int)
                        (tcP
                          { sp := sp, dp := dp, sq := sq, ak := ak, fl := fl, wn := wn, sm := (0 : Int), ug := ug, op := op,
                            pl := pl })),
                    V.int IntKind.i64 ug, V.rows (Sh.agg [Sh.int IntKind.i64, Sh.bytes]) op, V.bytes pl])
            else none
          else none
      else none := by kernel_rfl

theorem tcSpan_t (sp dp sq ak fl wn sm ug : Int) (op : List V) (pl : List UInt8) : callV Etcf af_tcSpan [.agg [.int .i64 sp, .int .i64 dp, .int .u32 sq, .int .u32 ak, .int .i64 fl, .int .i64 wn, .int .i64 sm, .int .i64 ug, .rows (.agg [.int .i64, .bytes]) op, .bytes pl]] =
    bif bits BinOp.and IntKind.i64 fl (2 : Int) == (2 : Int) then
        bif bits BinOp.and IntKind.i64 fl (1 : Int) == (1 : Int) then
          some
            (V.int IntKind.u32
              (IntKind.u32.wrap (IntKind.u32.wrap (IntKind.u32.wrap (↑pl.length : Int) + (1 : Int)) + (1 : Int))))
        else some (V.int IntKind.u32 (IntKind.u32.wrap (IntKind.u32.wrap (↑pl.length : Int) + (1 : Int))))
      else
        bif bits BinOp.and IntKind.i64 fl (1 : Int) == (1 : Int) then
          some (V.int IntKind.u32 (IntKind.u32.wrap (IntKind.u32.wrap (↑pl.length : Int) + (1 : Int))))
        else some (V.int IntKind.u32 (IntKind.u32.wrap (↑pl.length : Int))) := by kernel_rfl

theorem rTcSpan_t (sp dp sq ak fl wn sm ug : Int) (op : List V) (pl : List UInt8) : callV Etcf af_rTcSpan [.agg [.int .i64 sp, .int .i64 dp, .int .u32 sq, .int .u32 ak, .int .i64 fl, .int .i64 wn, .int .i64 sm, .int .i64 ug, .rows (.agg [.int .i64, .bytes]) op, .bytes pl]] =
    bif bits BinOp.and IntKind.i64 fl (2 : Int) != (0 : Int) then
        bif bits BinOp.and IntKind.i64 fl (1 : Int) != (0 : Int) then
          some
            (V.int IntKind.u32
              (IntKind.u32.wrap (IntKind.u32.wrap (IntKind.u32.wrap (↑pl.length : Int) + (1 : Int)) + (1 : Int))))
        else some (V.int IntKind.u32 (IntKind.u32.wrap (IntKind.u32.wrap (↑pl.length : Int) + (1 : Int))))
      else
        bif bits BinOp.and IntKind.i64 fl (1 : Int) != (0 : Int) then
          some (V.int IntKind.u32 (IntKind.u32.wrap (IntKind.u32.wrap (↑pl.length : Int) + (1 : Int))))
        else some (V.int IntKind.u32 (IntKind.u32.wrap (↑pl.length : Int))) := by kernel_rfl

theorem tcHas_t (sp dp sq ak fl wn sm ug : Int) (op : List V) (pl : List UInt8) (k : Int) : callV Etcf af_tcHas [.agg [.int .i64 sp, .int .i64 dp, .int .u32 sq, .int .u32 ak, .int .i64 fl, .int .i64 wn, .int .i64 sm, .int .i64 ug, .rows (.agg [.int .i64, .bytes]) op, .bytes pl], .int .i64 k] =
    some (V.bool (bits BinOp.and IntKind.i64 fl k == k)) := by kernel_rfl

theorem tcFirst_t (sp dp sq ak fl wn sm ug : Int) (op : List V) (pl : List UInt8) : callV Etcf af_tcFirst [.agg [.int .i64 sp, .int .i64 dp, .int .u32 sq, .int .u32 ak, .int .i64 fl, .int .i64 wn, .int .i64 sm, .int .i64 ug, .rows (.agg [.int .i64, .bytes]) op, .bytes pl]] =
    some (V.bool (bits BinOp.and IntKind.i64 fl (23 : Int) == (2 : Int))) := by kernel_rfl

theorem rTcFirst_t (sp dp sq ak fl wn sm ug : Int) (op : List V) (pl : List UInt8) : callV Etcf af_rTcFirst [.agg [.int .i64 sp, .int .i64 dp, .int .u32 sq, .int .u32 ak, .int .i64 fl, .int .i64 wn, .int .i64 sm, .int .i64 ug, .rows (.agg [.int .i64, .bytes]) op, .bytes pl]] =
    bif bits BinOp.and IntKind.i64 fl (2 : Int) != (0 : Int) then
        bif !bits BinOp.and IntKind.i64 fl (16 : Int) != (0 : Int) then
          bif !bits BinOp.and IntKind.i64 fl (4 : Int) != (0 : Int) then
            some (V.bool !bits BinOp.and IntKind.i64 fl (1 : Int) != (0 : Int))
          else some (V.bool false)
        else some (V.bool false)
      else some (V.bool false) := by kernel_rfl

/-- how many numbers a segment takes -/
def tcSpn (fl n : Int) : Int := if fb fl 1 then (if fb fl 0 then IntKind.u32.wrap (IntKind.u32.wrap (IntKind.u32.wrap n + 1) + 1) else IntKind.u32.wrap (IntKind.u32.wrap n + 1)) else (if fb fl 0 then IntKind.u32.wrap (IntKind.u32.wrap n + 1) else IntKind.u32.wrap n)
def tcFst (fl : Int) : Bool := fb fl 1 && !fb fl 4 && !fb fl 2 && !fb fl 0
theorem tcSpan_v (t : Tc) : callV Etcf af_tcSpan [t.v] = some (.int .u32 (tcSpn t.fl t.pl.length)) := by
  obtain ⟨sp, dp, sq, ak, fl, wn, sm, ug, op, pl⟩ := t
  rw [Tc.v, tcSpan_t, and_2, and_1]
  unfold tcSpn
  simp only
  cases fb fl 1 <;> cases fb fl 0 <;> rfl
theorem rTcSpan_v (t : Tc) : callV Etcf af_rTcSpan [t.v] = some (.int .u32 (tcSpn t.fl t.pl.length)) := by
  obtain ⟨sp, dp, sq, ak, fl, wn, sm, ug, op, pl⟩ := t
  rw [Tc.v, rTcSpan_t, and_2, and_1]
  unfold tcSpn
  simp only
  cases fb fl 1 <;> cases fb fl 0 <;> rfl
theorem tcFirst_v (t : Tc) : callV Etcf af_tcFirst [t.v] = some (.bool (tcFst t.fl)) := by
  obtain ⟨sp, dp, sq, ak, fl, wn, sm, ug, op, pl⟩ := t
  rw [Tc.v, tcFirst_t, and_23]
  rfl
theorem rTcFirst_v (t : Tc) : callV Etcf af_rTcFirst [t.v] = some (.bool (tcFst t.fl)) := by
  obtain ⟨sp, dp, sq, ak, fl, wn, sm, ug, op, pl⟩ := t
  rw [Tc.v, rTcFirst_t, and_2, and_1, and_4, and_16]
  unfold tcFst
  simp only
  cases fb fl 1 <;> cases fb fl 0 <;> cases fb fl 2 <;> cases fb fl 4 <;> rfl
theorem tcFine_v (s d l : List UInt8) (h : l.length ≤ 140737488355327) : callV Etcf af_tcFine [.barr 16 s, .barr 16 d, .bytes l] = some (.bool (both s d 6 l == 65535)) := by
  have e : callV Etcf af_tcFine [.barr 16 s, .barr 16 d, .bytes l] = bif andT true (decide (l.length ≤ 140737488355327)) then some (.bool (both s d 6 l == 65535)) else none := by kernel_rfl
  rw [e]
  simp (disch := omega) only [dec_t, dec_f, inB_t, inC_t, andT_t, cond_true, cond_false, Bool.and_true, Bool.true_and, w64, wu32, wu8, nble_t, nblt_t, Bool.not_true, Bool.not_false, Bool.not_not, ieq_t, ieq_f, ine_t, ine_f, true_and, and_true, andT_l]
def cTcHas : List V → Option (V × Bool)
  | [.agg [.int .i64 sp, .int .i64 dp, .int .u32 sq, .int .u32 ak, .int .i64 fl, .int .i64 wn, .int .i64 sm, .int .i64 ug, .rows (.agg [.int .i64, .bytes]) op, .bytes pl], .int .i64 k] => some (.bool (bits .and .i64 fl k == k), true)
  | _ => none
def cTcSpan : List V → Option (V × Bool)
  | [.agg [.int .i64 sp, .int .i64 dp, .int .u32 sq, .int .u32 ak, .int .i64 fl, .int .i64 wn, .int .i64 sm, .int .i64 ug, .rows (.agg [.int .i64, .bytes]) op, .bytes pl]] => some (.int .u32 (tcSpn fl pl.length), true)
  | _ => none
def cTcFirst : List V → Option (V × Bool)
  | [.agg [.int .i64 sp, .int .i64 dp, .int .u32 sq, .int .u32 ak, .int .i64 fl, .int .i64 wn, .int .i64 sm, .int .i64 ug, .rows (.agg [.int .i64, .bytes]) op, .bytes pl]] => some (.bool (tcFst fl), true)
  | _ => none
def cTcFine : List V → Option (V × Bool)
  | [.barr 16 s, .barr 16 d, .bytes l] => some (.bool (both s d 6 l == 65535), decide (l.length ≤ 140737488355327))
  | _ => none
theorem tcHas_con : ∀ vs v, cTcHas vs = some (v, true) → SpecV Try.prog 25 vs v := by
  intro vs v h; unfold cTcHas at h; split at h
  · rename_i sp dp sq ak fl wn sm ug op pl k
    injection h with h; injection h with h hb; subst h
    exact callV_ok Etcf_ok af_tcHas_ok (tcHas_t sp dp sq ak fl wn sm ug op pl k)
  · cases h
theorem tcSpan_con : ∀ vs v, cTcSpan vs = some (v, true) → SpecV Try.prog 21 vs v := by
  intro vs v h; unfold cTcSpan at h; split at h
  · rename_i sp dp sq ak fl wn sm ug op pl
    injection h with h; injection h with h hb; subst h
    exact callV_ok Etcf_ok af_tcSpan_ok (tcSpan_v ⟨sp, dp, sq, ak, fl, wn, sm, ug, op, pl⟩)
  · cases h
theorem rTcSpan_con : ∀ vs v, cTcSpan vs = some (v, true) → SpecV Try.prog 22 vs v := by
  intro vs v h; unfold cTcSpan at h; split at h
  · rename_i sp dp sq ak fl wn sm ug op pl
    injection h with h; injection h with h hb; subst h
    exact callV_ok Etcf_ok af_rTcSpan_ok (rTcSpan_v ⟨sp, dp, sq, ak, fl, wn, sm, ug, op, pl⟩)
  · cases h
theorem tcFirst_con : ∀ vs v, cTcFirst vs = some (v, true) → SpecV Try.prog 23 vs v := by
  intro vs v h; unfold cTcFirst at h; split at h
  · rename_i sp dp sq ak fl wn sm ug op pl
    injection h with h; injection h with h hb; subst h
    exact callV_ok Etcf_ok af_tcFirst_ok (tcFirst_v ⟨sp, dp, sq, ak, fl, wn, sm, ug, op, pl⟩)
  · cases h
theorem rTcFirst_con : ∀ vs v, cTcFirst vs = some (v, true) → SpecV Try.prog 24 vs v := by
  intro vs v h; unfold cTcFirst at h; split at h
  · rename_i sp dp sq ak fl wn sm ug op pl
    injection h with h; injection h with h hb; subst h
    exact callV_ok Etcf_ok af_rTcFirst_ok (rTcFirst_v ⟨sp, dp, sq, ak, fl, wn, sm, ug, op, pl⟩)
  · cases h
theorem tcFine_con : ∀ vs v, cTcFine vs = some (v, true) → SpecV Try.prog 29 vs v := by
  intro vs v h; unfold cTcFine at h; split at h
  · rename_i s d l
    injection h with h; injection h with h hb; subst h
    exact callV_ok Etcf_ok af_tcFine_ok (tcFine_v s d l (of_decide_eq_true hb))
  · cases h
/-- with its sum -/
def tcS (s d : List UInt8) (t : Tc) : Tc := if tcEr t = 0 then { t with sm := chk s d 6 (tcP { t with sm := 0 }) } else t
theorem tcEr_sm {t : Tc} (h : tcEr t = 0) {n : Int} (hn : n16 n) : tcEr { t with sm := n } = 0 := by
  obtain ⟨⟨h1, h2, h3, h4, h5, h6, h7⟩, h8, h9⟩ := tcEr_zero h
  unfold tcEr
  rw [if_pos ⟨h1, h2, h3, hn, h5, h6, h7⟩, if_pos h8, if_neg (by simp only; omega)]
theorem tcSeal_v (s d : List UInt8) (t : Tc) (h : t.op.length ≤ 4611686018427387904) (hs : smallL t.op = true) (hq : u32ok t.sq) (ha : u32ok t.ak) : callV Etcf af_tcSeal [.barr 16 s, .barr 16 d, t.v] = some (tcS s d t).v := by
  unfold tcS
  have h0 : tcEr t = 0 → tcEr { t with sm := 0 } = 0 := fun e => tcEr_sm e (by decide)
  have hl : tcEr t = 0 → (tcP { t with sm := 0 }).length ≤ 140737488355327 := fun e => Nat.le_trans (tcp_len (h0 e)).2 (by decide)
  obtain ⟨sp, dp, sq, ak, fl, wn, sm, ug, op, pl⟩ := t
  simp only at h hs hq ha h0 hl
  rw [Tc.v, tcSeal_t, hs]
  by_cases e : tcEr ⟨sp, dp, sq, ak, fl, wn, sm, ug, op, pl⟩ = 0
  · have h0 := h0 e
    have hl := hl e
    rw [if_pos e]
    simp (disch := omega) only [dec_t, dec_f, inB_t, inC_t, andT_t, cond_true, cond_false, Bool.and_true, Bool.true_and, w64, wu32, wu8, nble_t, nblt_t, Bool.not_true, Bool.not_false, Bool.not_not, ieq_t, ieq_f, ine_t, ine_f, true_and, and_true, andT_l]
    rfl
  · rw [if_neg e]
    simp (disch := omega) only [dec_t, dec_f, inB_t, inC_t, andT_t, cond_true, cond_false, Bool.and_true, Bool.true_and, w64, wu32, wu8, nble_t, nblt_t, Bool.not_true, Bool.not_false, Bool.not_not, ieq_t, ieq_f, ine_t, ine_f, true_and, and_true, andT_l]
    rfl
def cTcSeal : List V → Option (V × Bool)
  | [.barr 16 s, .barr 16 d, .agg [.int .i64 sp, .int .i64 dp, .int .u32 sq, .int .u32 ak, .int .i64 fl, .int .i64 wn, .int .i64 sm, .int .i64 ug, .rows (.agg [.int .i64, .bytes]) op, .bytes pl]] => some ((tcS s d ⟨sp, dp, sq, ak, fl, wn, sm, ug, op, pl⟩).v, (decide (op.length ≤ 4611686018427387904) && (smallL op && decide (u32ok sq ∧ u32ok ak))))
  | _ => none
theorem tcSeal_con : ∀ vs v, cTcSeal vs = some (v, true) → SpecV Try.prog 31 vs v := by
  intro vs v h; unfold cTcSeal at h; split at h
  · rename_i s d sp dp sq ak fl wn sm ug op pl
    injection h with h; injection h with h hb; subst h
    exact callV_ok Etcf_ok af_tcSeal_ok ((cTcpPut_h hb).elim fun a b => tcSeal_v s d ⟨sp, dp, sq, ak, fl, wn, sm, ug, op, pl⟩ a b.1 b.2.1 b.2.2)
  · cases h
def cTrue7 : List V → Option (V × Bool)
  | [] => some (.bool true, true)
  | _ => none
theorem lives7_con : ∀ vs v, cTrue7 vs = some (v, true) → SpecV Try.prog 17 vs v := by
  intro vs v h; unfold cTrue7 at h; split at h
  · injection h with h; injection h with h hb; subst h
    exact callV_ok Etcf_ok af_lives7_ok (lives7_v)
  · cases h
end Go.Proofs.Ytbojofchpnfnlaa

namespace Go.Proofs.Ytbojofchpnfnlaa
open Go Go.Am Go.RowKit Go.Mix Go.Bas
set_option maxRecDepth 100000
noncomputable def af_TcpPuts : AF := afOf Try.prog Try.f3 []
theorem af_TcpPuts_ok : AllOk Try.prog 3 af_TcpPuts := .flat Try.func3 (by kernel_rfl) (by kernel_rfl) (by kernel_rfl) (by kernel_rfl) (by kernel_rfl)
noncomputable def af_TcpTells : AF := afOf Try.prog Try.f4 []
theorem af_TcpTells_ok : AllOk Try.prog 4 af_TcpTells := .flat Try.func4 (by kernel_rfl) (by kernel_rfl) (by kernel_rfl) (by kernel_rfl) (by kernel_rfl)
noncomputable def af_TcpBack : AF := afOf Try.prog Try.f5 []
theorem af_TcpBack_ok : AllOk Try.prog 5 af_TcpBack := .flat Try.func5 (by kernel_rfl) (by kernel_rfl) (by kernel_rfl) (by kernel_rfl) (by kernel_rfl)
noncomputable def af_TcpParses : AF := afOf Try.prog Try.f6 []
theorem af_TcpParses_ok : AllOk Try.prog 6 af_TcpParses := .flat Try.func6 (by kernel_rfl) (by kernel_rfl) (by kernel_rfl) (by kernel_rfl) (by kernel_rfl)
noncomputable def af_TcpSealed : AF := afOf Try.prog Try.f7 []
theorem af_TcpSealed_ok : AllOk Try.prog 7 af_TcpSealed := .flat Try.func7 (by kernel_rfl) (by kernel_rfl) (by kernel_rfl) (by kernel_rfl) (by kernel_rfl)
noncomputable def GEtcg : List (Nat × Con) := [(18, .val [.agg [.int .i64, .int .i64, .int .u32, .int .u32, .int .i64, .int .i64, .int .i64, .int .i64, .rows (.agg [.int .i64, .bytes]), .bytes]] cTcpPut), (19, .val [.agg [.int .i64, .int .i64, .int .u32, .int .u32, .int .i64, .int .i64, .int .i64, .int .i64, .rows (.agg [.int .i64, .bytes]), .bytes]] cTcpPut), (20, .val [.agg [.int .i64, .int .i64, .int .u32, .int .u32, .int .i64, .int .i64, .int .i64, .int .i64, .rows (.agg [.int .i64, .bytes]), .bytes]] cTcpCan), (60, .val [.agg [.int .i64, .int .i64, .int .u32, .int .u32, .int .i64, .int .i64, .int .i64, .int .i64, .rows (.agg [.int .i64, .bytes]), .bytes]] cTcpCan), (26, .val [.bytes] cTcpPar), (28, .val [.bytes] cTcpPar), (76, .val [.barr 16, .barr 16, .int .i64, .bytes] cFine), (30, .val [.barr 16, .barr 16, .int .i64, .bytes] cFine), (27, .val [.agg [.int .i64, .int .i64, .int .u32, .int .u32, .int .i64, .int .i64, .int .i64, .int .i64, .rows (.agg [.int .i64, .bytes]), .bytes], .agg [.int .i64, .int .i64, .int .u32, .int .u32, .int .i64, .int .i64, .int .i64, .int .i64, .rows (.agg [.int .i64, .bytes]), .bytes]] crTcSame), (31, .val [.barr 16, .barr 16, .agg [.int .i64, .int .i64, .int .u32, .int .u32, .int .i64, .int .i64, .int .i64, .int .i64, .rows (.agg [.int .i64, .bytes]), .bytes]] cTcSeal), (17, .val [] cTrue7), (25, .val [.agg [.int .i64, .int .i64, .int .u32, .int .u32, .int .i64, .int .i64, .int .i64, .int .i64, .rows (.agg [.int .i64, .bytes]), .bytes], .int .i64] cTcHas), (21, .val [.agg [.int .i64, .int .i64, .int .u32, .int .u32, .int .i64, .int .i64, .int .i64, .int .i64, .rows (.agg [.int .i64, .bytes]), .bytes]] cTcSpan), (23, .val [.agg [.int .i64, .int .i64, .int .u32, .int .u32, .int .i64, .int .i64, .int .i64, .int .i64, .rows (.agg [.int .i64, .bytes]), .bytes]] cTcFirst), (22, .val [.agg [.int .i64, .int .i64, .int .u32, .int .u32, .int .i64, .int .i64, .int .i64, .int .i64, .rows (.agg [.int .i64, .bytes]), .bytes]] cTcSpan), (24, .val [.agg [.int .i64, .int .i64, .int .u32, .int .u32, .int .i64, .int .i64, .int .i64, .int .i64, .rows (.agg [.int .i64, .bytes]), .bytes]] cTcFirst), (29, .val [.barr 16, .barr 16, .bytes] cTcFine)]
theorem GEtcg_ok : GOk Try.prog GEtcg := .cons (enters_of Try.func18 (by kernel_rfl) rfl) tcpPut_con <| .cons (enters_of Try.func19 (by kernel_rfl) rfl) rTcpPut_con <| .cons (enters_of Try.func20 (by kernel_rfl) rfl) tcpCan_con <| .cons (enters_of Try.func60 (by kernel_rfl) rfl) rTcpCan_con <| .cons (enters_of Try.func26 (by kernel_rfl) rfl) tcpParse_con <| .cons (enters_of Try.func28 (by kernel_rfl) rfl) rTcpParse_con <| .cons (enters_of Try.func76 (by kernel_rfl) rfl) Fine_con <| .cons (enters_of Try.func30 (by kernel_rfl) rfl) rFine_con <| .cons (enters_of Try.func27 (by kernel_rfl) rfl) rTcSame_con <| .cons (enters_of Try.func31 (by kernel_rfl) rfl) tcSeal_con <| .cons (enters_of Try.func17 (by kernel_rfl) rfl) lives7_con <| .cons (enters_of Try.func25 (by kernel_rfl) rfl) tcHas_con <| .cons (enters_of Try.func21 (by kernel_rfl) rfl) tcSpan_con <| .cons (enters_of Try.func23 (by kernel_rfl) rfl) tcFirst_con <| .cons (enters_of Try.func22 (by kernel_rfl) rfl) rTcSpan_con <| .cons (enters_of Try.func24 (by kernel_rfl) rfl) rTcFirst_con <| .cons (enters_of Try.func29 (by kernel_rfl) rfl) tcFine_con <| .nil
noncomputable def IEtcg : List (Nat × AF) := [(16, af_small7)]
theorem IEtcg_ok : IOk Try.prog IEtcg := .cons af_small7_ok <| .nil
noncomputable def CEtcg : List (Nat × (List Nat × (S → Option S))) := []
theorem CEtcg_ok : COk Try.prog CEtcg := .nil
noncomputable def XEtcg : List (Nat × (List Sh × (List V → PT))) := []
theorem XEtcg_ok : XOk Try.prog XEtcg := .nil
noncomputable def Etcg : Env := ⟨Try.prog, GEtcg, IEtcg, CEtcg, XEtcg⟩
theorem Etcg_ok : EnvOk Etcg := ⟨by kernel_rfl, GEtcg_ok, IEtcg_ok, CEtcg_ok, XEtcg_ok⟩
def sh_TcpPuts : List Sh := [.agg [.int .i64, .int .i64, .int .u32, .int .u32, .int .i64, .int .i64, .int .i64, .int .i64, .rows (.agg [.int .i64, .bytes]), .bytes]]
def sh_TcpTells : List Sh := [.agg [.int .i64, .int .i64, .int .u32, .int .u32, .int .i64, .int .i64, .int .i64, .int .i64, .rows (.agg [.int .i64, .bytes]), .bytes], .int .i64]
def sh_TcpBack : List Sh := [.agg [.int .i64, .int .i64, .int .u32, .int .u32, .int .i64, .int .i64, .int .i64, .int .i64, .rows (.agg [.int .i64, .bytes]), .bytes]]
def sh_TcpParses : List Sh := [.agg [.barr 16, .barr 16], .bytes]
def sh_TcpSealed : List Sh := [.agg [.barr 16, .barr 16], .agg [.int .i64, .int .i64, .int .u32, .int .u32, .int .i64, .int .i64, .int .i64, .int .i64, .rows (.agg [.int .i64, .bytes]), .bytes]]
theorem TcpPuts_t (sp : Int) (dp : Int) (sq : Int) (ak : Int) (fl : Int) (wn : Int) (sm : Int) (ug : Int) (op : List V) (pl : List UInt8) : callV Etcg af_TcpPuts [.agg [.int .i64 sp, .int .i64 dp, .int .u32 sq, .int .u32 ak, .int .i64 fl, .int .i64 wn, .int .i64 sm, .int .i64 ug, .rows (.agg [.int .i64, .bytes]) op, .bytes pl]] =
    bif decide ((↑op.length : Int) ≤ (60 : Int)) then
        bif !decide ((↑pl.length : Int) ≤ (70000 : Int)) then some (V.bool true)
        else
          bif
              andT true
                (decide (op.length ≤ (4611686018427387904 : Nat)) &&
                  (smallL op &&
                    decide (((0 : Int) ≤ sq ∧ sq ≤ (4294967295 : Int)) ∧ (0 : Int) ≤ ak ∧ ak ≤ (4294967295 : Int)))) then
            bif
                andT true
                  (decide (op.length ≤ (4611686018427387904 : Nat)) &&
                    (smallL op &&
                      decide (((0 : Int) ≤ sq ∧ sq ≤ (4294967295 : Int)) ∧ (0 : Int) ≤ ak ∧ ak ≤ (4294967295 : Int)))) then
              bif
                  tcEr
                      { sp := sp, dp := dp, sq := sq, ak := ak, fl := fl, wn := wn, sm := sm, ug := ug, op := op,
                        pl := pl } ==
                    tcEr
                      { sp := sp, dp := dp, sq := sq, ak := ak, fl := fl, wn := wn, sm := sm, ug := ug, op := op,
                        pl := pl } then
                bif
                    tcP
                        { sp := sp, dp := dp, sq := sq, ak := ak, fl := fl, wn := wn, sm := sm, ug := ug, op := op,
                          pl := pl } ==
                      tcP
                        { sp := sp, dp := dp, sq := sq, ak := ak, fl := fl, wn := wn, sm := sm, ug := ug, op := op,
                          pl := pl } then
                  bif
                      tcEr
                          { sp := sp, dp := dp, sq := sq, ak := ak, fl := fl, wn := wn, sm := sm, ug := ug, op := op,
                            pl := pl } ==
                        tcEr
                          { sp := sp, dp := dp, sq := sq, ak := ak, fl := fl, wn := wn, sm := sm, ug := ug, op := op,
                            pl := pl } then
                    bif andT true (decide (op.length ≤ (4611686018427387904 : Nat)) && smallL op) then some (V.bool true)
                    else none
                  else
                    bif andT true (decide (op.length ≤ (4611686018427387904 : Nat)) && smallL op) then some (V.bool false)
                    else none
                else
                  bif andT true (decide (op.length ≤ (4611686018427387904 : Nat)) && smallL op) then some (V.bool false)
                  else none
              else
                bif andT true (decide (op.length ≤ (4611686018427387904 : Nat)) && smallL op) then some (V.bool false)
                else none
            else none
          else none
      else some (V.bool true) := by kernel_rfl

theorem TcpTells_t (sp : Int) (dp : Int) (sq : Int) (ak : Int) (fl : Int) (wn : Int) (sm : Int) (ug : Int) (op : List V) (pl : List UInt8) (k : Int) : callV Etcg af_TcpTells [.agg [.int .i64 sp, .int .i64 dp, .int .u32 sq, .int .u32 ak, .int .i64 fl, .int .i64 wn, .int .i64 sm, .int .i64 ug, .rows (.agg [.int .i64, .bytes]) op, .bytes pl], .int .i64 k] =
    bif decide ((↑op.length : Int) ≤ (60 : Int)) then
        bif !decide ((↑pl.length : Int) ≤ (70000 : Int)) then some (V.bool true)
        else
          bif tcSpn fl (↑pl.length : Int) == tcSpn fl (↑pl.length : Int) then
            bif tcFst fl == tcFst fl then
              bif (bits BinOp.and IntKind.i64 fl k == k) == (bits BinOp.or IntKind.i64 fl k == fl) then some (V.bool true)
              else some (V.bool false)
            else some (V.bool false)
          else some (V.bool false)
      else some (V.bool true) := by kernel_rfl

theorem TcpBack_t (sp : Int) (dp : Int) (sq : Int) (ak : Int) (fl : Int) (wn : Int) (sm : Int) (ug : Int) (op : List V) (pl : List UInt8) : callV Etcg af_TcpBack [.agg [.int .i64 sp, .int .i64 dp, .int .u32 sq, .int .u32 ak, .int .i64 fl, .int .i64 wn, .int .i64 sm, .int .i64 ug, .rows (.agg [.int .i64, .bytes]) op, .bytes pl]] =
    bif decide ((↑op.length : Int) ≤ (60 : Int)) then
        bif !decide ((↑pl.length : Int) ≤ (70000 : Int)) then some (V.bool true)
        else
          bif andT true (decide (op.length ≤ (4611686018427387904 : Nat)) && smallL op) then
            bif
                tcEr
                    { sp := sp, dp := dp, sq := sq, ak := ak, fl := fl, wn := wn, sm := sm, ug := ug, op := op,
                      pl := pl } !=
                  (0 : Int) then
              some (V.bool true)
            else
              bif
                  andT true
                    (decide (op.length ≤ (4611686018427387904 : Nat)) &&
                      (smallL op &&
                        decide
                          (((0 : Int) ≤ sq ∧ sq ≤ (4294967295 : Int)) ∧ (0 : Int) ≤ ak ∧ ak ≤ (4294967295 : Int)))) then
                bif
                    andT true
                      (decide
                        ((tcP
                              { sp := sp, dp := dp, sq := sq, ak := ak, fl := fl, wn := wn, sm := sm, ug := ug, op := op,
                                pl := pl }).length ≤
                          (140737488355328 : Nat))) then
                  bif
                      tcEr
                          { sp := sp, dp := dp, sq := sq, ak := ak, fl := fl, wn := wn, sm := sm, ug := ug, op := op,
                            pl := pl } ==
                        (0 : Int) then
                    bif
                        tpE
                            (tcP
                              { sp := sp, dp := dp, sq := sq, ak := ak, fl := fl, wn := wn, sm := sm, ug := ug, op := op,
                                pl := pl }) ==
                          (0 : Int) then
                      bif
                          andT true
                            (eqTc
                                {
                                  sp :=
                                    (tpXX
                                        (tcP
                                          { sp := sp, dp := dp, sq := sq, ak := ak, fl := fl, wn := wn, sm := sm, ug := ug,
                                            op := op, pl := pl })).sp,
                                  dp :=
                                    (tpXX
                                        (tcP
                                          { sp := sp, dp := dp, sq := sq, ak := ak, fl := fl, wn := wn, sm := sm, ug := ug,
                                            op := op, pl := pl })).dp,
                                  sq :=
                                    (tpXX
                                        (tcP
                                          { sp := sp, dp := dp, sq := sq, ak := ak, fl := fl, wn := wn, sm := sm, ug := ug,
                                            op := op, pl := pl })).sq,
                                  ak :=
                                    (tpXX
                                        (tcP
                                          { sp := sp, dp := dp, sq := sq, ak := ak, fl := fl, wn := wn, sm := sm, ug := ug,
                                            op := op, pl := pl })).ak,
                                  fl :=
                                    (tpXX
                                        (tcP
                                          { sp := sp, dp := dp, sq := sq, ak := ak, fl := fl, wn := wn, sm := sm, ug := ug,
                                            op := op, pl := pl })).fl,
                                  wn :=
                                    (tpXX
                                        (tcP
                                          { sp := sp, dp := dp, sq := sq, ak := ak, fl := fl, wn := wn, sm := sm, ug := ug,
                                            op := op, pl := pl })).wn,
                                  sm :=
                                    (tpXX
                                        (tcP
                                          { sp := sp, dp := dp, sq := sq, ak := ak, fl := fl, wn := wn, sm := sm, ug := ug,
                                            op := op, pl := pl })).sm,
                                  ug :=
                                    (tpXX
                                        (tcP
                                          { sp := sp, dp := dp, sq := sq, ak := ak, fl := fl, wn := wn, sm := sm, ug := ug,
                                            op := op, pl := pl })).ug,
                                  op :=
                                    (tpXX
                                        (tcP
                                          { sp := sp, dp := dp, sq := sq, ak := ak, fl := fl, wn := wn, sm := sm, ug := ug,
                                            op := op, pl := pl })).op,
                                  pl :=
                                    (tpXX
                                        (tcP
                                          { sp := sp, dp := dp, sq := sq, ak := ak, fl := fl, wn := wn, sm := sm, ug := ug,
                                            op := op, pl := pl })).pl }
                                { sp := sp, dp := dp, sq := sq, ak := ak, fl := fl, wn := wn, sm := sm, ug := ug, op := op,
                                  pl := pl } &&
                              decide
                                ((tpXX
                                        (tcP
                                          { sp := sp, dp := dp, sq := sq, ak := ak, fl := fl, wn := wn, sm := sm, ug := ug,
                                            op := op, pl := pl })).op.length ≤
                                  (4611686018427387904 : Nat))) then
                        some (V.bool true)
                      else none
                    else some (V.bool false)
                  else some (V.bool false)
                else none
              else none
          else none
      else some (V.bool true) := by kernel_rfl

theorem TcpParses_t (s : List UInt8) (d : List UInt8) (b : List UInt8) : callV Etcg af_TcpParses [.agg [.barr 16 s, .barr 16 d], .bytes b] =
    bif decide ((↑b.length : Int) > (70000 : Int)) then some (V.bool true)
      else
        bif andT true (decide (b.length ≤ (140737488355328 : Nat))) then
          bif andT true (decide (b.length ≤ (140737488355328 : Nat))) then
            bif tpE b == tpE b then
              bif (both s d (6 : Int) b == (65535 : Int)) == (both s d (6 : Int) b == (65535 : Int)) then
                bif
                    andT
                        (andT
                          (andT true
                            (eqTc
                                { sp := (tpXX b).sp, dp := (tpXX b).dp, sq := (tpXX b).sq, ak := (tpXX b).ak,
                                  fl := (tpXX b).fl, wn := (tpXX b).wn, sm := (tpXX b).sm, ug := (tpXX b).ug,
                                  op := (tpXX b).op, pl := (tpXX b).pl }
                                { sp := (tpXX b).sp, dp := (tpXX b).dp, sq := (tpXX b).sq, ak := (tpXX b).ak,
                                  fl := (tpXX b).fl, wn := (tpXX b).wn, sm := (tpXX b).sm, ug := (tpXX b).ug,
                                  op := (tpXX b).op, pl := (tpXX b).pl } &&
                              decide ((tpXX b).op.length ≤ (4611686018427387904 : Nat))))
                          (decide (b.length ≤ (140737488355327 : Nat))))
                        (decide (b.length ≤ (140737488355327 : Nat))) &&
                      true then
                  some (V.bool true)
                else none
              else
                bif
                    andT
                        (andT
                          (andT true
                            (eqTc
                                { sp := (tpXX b).sp, dp := (tpXX b).dp, sq := (tpXX b).sq, ak := (tpXX b).ak,
                                  fl := (tpXX b).fl, wn := (tpXX b).wn, sm := (tpXX b).sm, ug := (tpXX b).ug,
                                  op := (tpXX b).op, pl := (tpXX b).pl }
                                { sp := (tpXX b).sp, dp := (tpXX b).dp, sq := (tpXX b).sq, ak := (tpXX b).ak,
                                  fl := (tpXX b).fl, wn := (tpXX b).wn, sm := (tpXX b).sm, ug := (tpXX b).ug,
                                  op := (tpXX b).op, pl := (tpXX b).pl } &&
                              decide ((tpXX b).op.length ≤ (4611686018427387904 : Nat))))
                          (decide (b.length ≤ (140737488355327 : Nat))))
                        (decide (b.length ≤ (140737488355327 : Nat))) &&
                      true then
                  some (V.bool false)
                else none
            else
              bif
                  andT true
                      (eqTc
                          { sp := (tpXX b).sp, dp := (tpXX b).dp, sq := (tpXX b).sq, ak := (tpXX b).ak, fl := (tpXX b).fl,
                            wn := (tpXX b).wn, sm := (tpXX b).sm, ug := (tpXX b).ug, op := (tpXX b).op, pl := (tpXX b).pl }
                          { sp := (tpXX b).sp, dp := (tpXX b).dp, sq := (tpXX b).sq, ak := (tpXX b).ak, fl := (tpXX b).fl,
                            wn := (tpXX b).wn, sm := (tpXX b).sm, ug := (tpXX b).ug, op := (tpXX b).op,
                            pl := (tpXX b).pl } &&
                        decide ((tpXX b).op.length ≤ (4611686018427387904 : Nat))) &&
                    true then
                some (V.bool false)
              else none
          else none
        else none := by kernel_rfl

theorem TcpSealed_t (s : List UInt8) (d : List UInt8) (sp : Int) (dp : Int) (sq : Int) (ak : Int) (fl : Int) (wn : Int) (sm : Int) (ug : Int) (op : List V) (pl : List UInt8) : callV Etcg af_TcpSealed [.agg [.barr 16 s, .barr 16 d], .agg [.int .i64 sp, .int .i64 dp, .int .u32 sq, .int .u32 ak, .int .i64 fl, .int .i64 wn, .int .i64 sm, .int .i64 ug, .rows (.agg [.int .i64, .bytes]) op, .bytes pl]] =
    bif decide ((↑op.length : Int) ≤ (60 : Int)) then
        bif !decide ((↑pl.length : Int) ≤ (70000 : Int)) then some (V.bool true)
        else
          bif
              andT true
                (decide (op.length ≤ (4611686018427387904 : Nat)) &&
                  (smallL op &&
                    decide (((0 : Int) ≤ sq ∧ sq ≤ (4294967295 : Int)) ∧ (0 : Int) ≤ ak ∧ ak ≤ (4294967295 : Int)))) then
            bif andT true (decide (op.length ≤ (4611686018427387904 : Nat)) && smallL op) then
              bif
                  tcEr
                      { sp := sp, dp := dp, sq := sq, ak := ak, fl := fl, wn := wn, sm := sm, ug := ug, op := op,
                        pl := pl } !=
                    (0 : Int) then
                bif
                    andT true
                      (eqTc
                          {
                            sp :=
                              (tcS s d
                                  { sp := sp, dp := dp, sq := sq, ak := ak, fl := fl, wn := wn, sm := sm, ug := ug,
                                    op := op, pl := pl }).sp,
                            dp :=
                              (tcS s d
                                  { sp := sp, dp := dp, sq := sq, ak := ak, fl := fl, wn := wn, sm := sm, ug := ug,
                                    op := op, pl := pl }).dp,
                            sq :=
                              (tcS s d
                                  { sp := sp, dp := dp, sq := sq, ak := ak, fl := fl, wn := wn, sm := sm, ug := ug,
                                    op := op, pl := pl }).sq,
                            ak :=
                              (tcS s d
                                  { sp := sp, dp := dp, sq := sq, ak := ak, fl := fl, wn := wn, sm := sm, ug := ug,
                                    op := op, pl := pl }).ak,
                            fl :=
                              (tcS s d
                                  { sp := sp, dp := dp, sq := sq, ak := ak, fl := fl, wn := wn, sm := sm, ug := ug,
                                    op := op, pl := pl }).fl,
                            wn :=
                              (tcS s d
                                  { sp := sp, dp := dp, sq := sq, ak := ak, fl := fl, wn := wn, sm := sm, ug := ug,
                                    op := op, pl := pl }).wn,
                            sm :=
                              (tcS s d
                                  { sp := sp, dp := dp, sq := sq, ak := ak, fl := fl, wn := wn, sm := sm, ug := ug,
                                    op := op, pl := pl }).sm,
                            ug :=
                              (tcS s d
                                  { sp := sp, dp := dp, sq := sq, ak := ak, fl := fl, wn := wn, sm := sm, ug := ug,
                                    op := op, pl := pl }).ug,
                            op :=
                              (tcS s d
                                  { sp := sp, dp := dp, sq := sq, ak := ak, fl := fl, wn := wn, sm := sm, ug := ug,
                                    op := op, pl := pl }).op,
                            pl :=
                              (tcS s d
                                  { sp := sp, dp := dp, sq := sq, ak := ak, fl := fl, wn := wn, sm := sm, ug := ug,
                                    op := op, pl := pl }).pl }
                          { sp := sp, dp := dp, sq := sq, ak := ak, fl := fl, wn := wn, sm := sm, ug := ug, op := op,
                            pl := pl } &&
                        decide
                          ((tcS s d
                                  { sp := sp, dp := dp, sq := sq, ak := ak, fl := fl, wn := wn, sm := sm, ug := ug,
                                    op := op, pl := pl }).op.length ≤
                            (4611686018427387904 : Nat))) then
                  some (V.bool true)
                else none
              else
                bif
                    andT true
                      (decide
                          ((tcS s d
                                  { sp := sp, dp := dp, sq := sq, ak := ak, fl := fl, wn := wn, sm := sm, ug := ug,
                                    op := op, pl := pl }).op.length ≤
                            (4611686018427387904 : Nat)) &&
                        (smallL
                            (tcS s d
                                { sp := sp, dp := dp, sq := sq, ak := ak, fl := fl, wn := wn, sm := sm, ug := ug, op := op,
                                  pl := pl }).op &&
                          decide
                            (((0 : Int) ≤
                                  (tcS s d
                                      { sp := sp, dp := dp, sq := sq, ak := ak, fl := fl, wn := wn, sm := sm, ug := ug,
                                        op := op, pl := pl }).sq ∧
                                (tcS s d
                                      { sp := sp, dp := dp, sq := sq, ak := ak, fl := fl, wn := wn, sm := sm, ug := ug,
                                        op := op, pl := pl }).sq ≤
                                  (4294967295 : Int)) ∧
                              (0 : Int) ≤
                                  (tcS s d
                                      { sp := sp, dp := dp, sq := sq, ak := ak, fl := fl, wn := wn, sm := sm, ug := ug,
                                        op := op, pl := pl }).ak ∧
                                (tcS s d
                                      { sp := sp, dp := dp, sq := sq, ak := ak, fl := fl, wn := wn, sm := sm, ug := ug,
                                        op := op, pl := pl }).ak ≤
                                  (4294967295 : Int)))) then
                  bif
                      tcEr
                          {
                            sp :=
                              (tcS s d
                                  { sp := sp, dp := dp, sq := sq, ak := ak, fl := fl, wn := wn, sm := sm, ug := ug,
                                    op := op, pl := pl }).sp,
                            dp :=
                              (tcS s d
                                  { sp := sp, dp := dp, sq := sq, ak := ak, fl := fl, wn := wn, sm := sm, ug := ug,
                                    op := op, pl := pl }).dp,
                            sq :=
                              (tcS s d
                                  { sp := sp, dp := dp, sq := sq, ak := ak, fl := fl, wn := wn, sm := sm, ug := ug,
                                    op := op, pl := pl }).sq,
                            ak :=
                              (tcS s d
                                  { sp := sp, dp := dp, sq := sq, ak := ak, fl := fl, wn := wn, sm := sm, ug := ug,
                                    op := op, pl := pl }).ak,
                            fl :=
                              (tcS s d
                                  { sp := sp, dp := dp, sq := sq, ak := ak, fl := fl, wn := wn, sm := sm, ug := ug,
                                    op := op, pl := pl }).fl,
                            wn :=
                              (tcS s d
                                  { sp := sp, dp := dp, sq := sq, ak := ak, fl := fl, wn := wn, sm := sm, ug := ug,
                                    op := op, pl := pl }).wn,
                            sm :=
                              (tcS s d
                                  { sp := sp, dp := dp, sq := sq, ak := ak, fl := fl, wn := wn, sm := sm, ug := ug,
                                    op := op, pl := pl }).sm,
                            ug :=
                              (tcS s d
                                  { sp := sp, dp := dp, sq := sq, ak := ak, fl := fl, wn := wn, sm := sm, ug := ug,
                                    op := op, pl := pl }).ug,
                            op :=
                              (tcS s d
                                  { sp := sp, dp := dp, sq := sq, ak := ak, fl := fl, wn := wn, sm := sm, ug := ug,
                                    op := op, pl := pl }).op,
                            pl :=
                              (tcS s d
                                  { sp := sp, dp := dp, sq := sq, ak := ak, fl := fl, wn := wn, sm := sm, ug := ug,
                                    op := op, pl := pl }).pl } ==
                        (0 : Int) then
                    bif
                        both s d (6 : Int)
                            (tcP
                              {
                                sp :=
                                  (tcS s d
                                      { sp := sp, dp := dp, sq := sq, ak := ak, fl := fl, wn := wn, sm := sm, ug := ug,
                                        op := op, pl := pl }).sp,
                                dp :=
                                  (tcS s d
                                      { sp := sp, dp := dp, sq := sq, ak := ak, fl := fl, wn := wn, sm := sm, ug := ug,
                                        op := op, pl := pl }).dp,
                                sq :=
                                  (tcS s d
                                      { sp := sp, dp := dp, sq := sq, ak := ak, fl := fl, wn := wn, sm := sm, ug := ug,
                                        op := op, pl := pl }).sq,
                                ak :=
                                  (tcS s d
                                      { sp := sp, dp := dp, sq := sq, ak := ak, fl := fl, wn := wn, sm := sm, ug := ug,
                                        op := op, pl := pl }).ak,
                                fl :=
                                  (tcS s d
                                      { sp := sp, dp := dp, sq := sq, ak := ak, fl := fl, wn := wn, sm := sm, ug := ug,
                                        op := op, pl := pl }).fl,
                                wn :=
                                  (tcS s d
                                      { sp := sp, dp := dp, sq := sq, ak := ak, fl := fl, wn := wn, sm := sm, ug := ug,
                                        op := op, pl := pl }).wn,
                                sm :=
                                  (tcS s d
                                      { sp := sp, dp := dp, sq := sq, ak := ak, fl := fl, wn := wn, sm := sm, ug := ug,
                                        op := op, pl := pl }).sm,
                                ug :=
                                  (tcS s d
                                      { sp := sp, dp := dp, sq := sq, ak := ak, fl := fl, wn := wn, sm := sm, ug := ug,
                                        op := op, pl := pl }).ug,
                                op :=
                                  (tcS s d
                                      { sp := sp, dp := dp, sq := sq, ak := ak, fl := fl, wn := wn, sm := sm, ug := ug,
                                        op := op, pl := pl }).op,
                                pl :=
                                  (tcS s d
                                      { sp := sp, dp := dp, sq := sq, ak := ak, fl := fl, wn := wn, sm := sm, ug := ug,
                                        op := op, pl := pl }).pl }) ==
                          (65535 : Int) then
                      bif
                          andT
                            (andT true
                              (decide
                                ((tcP
                                      {
                                        sp :=
                                          (tcS s d
                                              { sp := sp, dp := dp, sq := sq, ak := ak, fl := fl, wn := wn, sm := sm,
                                                ug := ug, op := op, pl := pl }).sp,
                                        dp :=
                                          (tcS s d
                                              { sp := sp, dp := dp, sq := sq, ak := ak, fl := fl, wn := wn, sm := sm,
                                                ug := ug, op := op, pl := pl }).dp,
                                        sq :=
                                          (tcS s d
                                              { sp := sp, dp := dp, sq := sq, ak := ak, fl := fl, wn := wn, sm := sm,
                                                ug := ug, op := op, pl := pl }).sq,
                                        ak :=
                                          (tcS s d
                                              { sp := sp, dp := dp, sq := sq, ak := ak, fl := fl, wn := wn, sm := sm,
                                                ug := ug, op := op, pl := pl }).ak,
                                        fl :=
                                          (tcS s d
                                              { sp := sp, dp := dp, sq := sq, ak := ak, fl := fl, wn := wn, sm := sm,
                                                ug := ug, op := op, pl := pl }).fl,
                                        wn :=
                                          (tcS s d
                                              { sp := sp, dp := dp, sq := sq, ak := ak, fl := fl, wn := wn, sm := sm,
                                                ug := ug, op := op, pl := pl }).wn,
                                        sm :=
                                          (tcS s d
                                              { sp := sp, dp := dp, sq := sq, ak := ak, fl := fl, wn := wn, sm := sm,
                                                ug := ug, op := op, pl := pl }).sm,
                                        ug :=
                                          (tcS s d
                                              { sp := sp, dp := dp, sq := sq, ak := ak, fl := fl, wn := wn, sm := sm,
                                                ug := ug, op := op, pl := pl }).ug,
                                        op :=
                                          (tcS s d
                                              { sp := sp, dp := dp, sq := sq, ak := ak, fl := fl, wn := wn, sm := sm,
                                                ug := ug, op := op, pl := pl }).op,
                                        pl :=
                                          (tcS s d
                                              { sp := sp, dp := dp, sq := sq, ak := ak, fl := fl, wn := wn, sm := sm,
                                                ug := ug, op := op, pl := pl }).pl }).length ≤
                                  (140737488355327 : Nat))))
                            (eqTc
                                {
                                  sp :=
                                    (tcS s d
                                        { sp := sp, dp := dp, sq := sq, ak := ak, fl := fl, wn := wn, sm := sm, ug := ug,
                                          op := op, pl := pl }).sp,
                                  dp :=
                                    (tcS s d
                                        { sp := sp, dp := dp, sq := sq, ak := ak, fl := fl, wn := wn, sm := sm, ug := ug,
                                          op := op, pl := pl }).dp,
                                  sq :=
                                    (tcS s d
                                        { sp := sp, dp := dp, sq := sq, ak := ak, fl := fl, wn := wn, sm := sm, ug := ug,
                                          op := op, pl := pl }).sq,
                                  ak :=
                                    (tcS s d
                                        { sp := sp, dp := dp, sq := sq, ak := ak, fl := fl, wn := wn, sm := sm, ug := ug,
                                          op := op, pl := pl }).ak,
                                  fl :=
                                    (tcS s d
                                        { sp := sp, dp := dp, sq := sq, ak := ak, fl := fl, wn := wn, sm := sm, ug := ug,
                                          op := op, pl := pl }).fl,
                                  wn :=
                                    (tcS s d
                                        { sp := sp, dp := dp, sq := sq, ak := ak, fl := fl, wn := wn, sm := sm, ug := ug,
                                          op := op, pl := pl }).wn,
                                  sm := sm,
                                  ug :=
                                    (tcS s d
                                        { sp := sp, dp := dp, sq := sq, ak := ak, fl := fl, wn := wn, sm := sm, ug := ug,
                                          op := op, pl := pl }).ug,
                                  op :=
                                    (tcS s d
                                        { sp := sp, dp := dp, sq := sq, ak := ak, fl := fl, wn := wn, sm := sm, ug := ug,
                                          op := op, pl := pl }).op,
                                  pl :=
                                    (tcS s d
                                        { sp := sp, dp := dp, sq := sq, ak := ak, fl := fl, wn := wn, sm := sm, ug := ug,
                                          op := op, pl := pl }).pl }
                                { sp := sp, dp := dp, sq := sq, ak := ak, fl := fl, wn := wn, sm := sm, ug := ug, op := op,
                                  pl := pl } &&
                              decide
                                ((tcS s d
                                        { sp := sp, dp := dp, sq := sq, ak := ak, fl := fl, wn := wn, sm := sm, ug := ug,
                                          op := op, pl := pl }).op.length ≤
                                  (4611686018427387904 : Nat))) then
                        some (V.bool true)
                      else none
                    else
                      bif
                          andT true
                            (decide
                              ((tcP
                                    {
                                      sp :=
                                        (tcS s d
                                            { sp := sp, dp := dp, sq := sq, ak := ak, fl := fl, wn := wn, sm := sm,
                                              ug := ug, op := op, pl := pl }).sp,
                                      dp :=
                                        (tcS s d
                                            { sp := sp, dp := dp, sq := sq, ak := ak, fl := fl, wn := wn, sm := sm,
                                              ug := ug, op := op, pl := pl }).dp,
                                      sq :=
                                        (tcS s d
                                            { sp := sp, dp := dp, sq := sq, ak := ak, fl := fl, wn := wn, sm := sm,
                                              ug := ug, op := op, pl := pl }).sq,
                                      ak :=
                                        (tcS s d
                                            { sp := sp, dp := dp, sq := sq, ak := ak, fl := fl, wn := wn, sm := sm,
                                              ug := ug, op := op, pl := pl }).ak,
                                      fl :=
                                        (tcS s d
                                            { sp := sp, dp := dp, sq := sq, ak := ak, fl := fl, wn := wn, sm := sm,
                                              ug := ug, op := op, pl := pl }).fl,
                                      wn :=
                                        (tcS s d
                                            { sp := sp, dp := dp, sq := sq, ak := ak, fl := fl, wn := wn, sm := sm,
                                              ug := ug, op := op, pl := pl }).wn,
                                      sm :=
                                        (tcS s d
                                            { sp := sp, dp := dp, sq := sq, ak := ak, fl := fl, wn := wn, sm := sm,
                                              ug := ug, op := op, pl := pl }).sm,
                                      ug :=
                                        (tcS s d
                                            { sp := sp, dp := dp, sq := sq, ak := ak, fl := fl, wn := wn, sm := sm,
                                              ug := ug, op := op, pl := pl }).ug,
                                      op :=
                                        (tcS s d
                                            { sp := sp, dp := dp, sq := sq, ak := ak, fl := fl, wn := wn, sm := sm,
                                              ug := ug, op := op, pl := pl }).op,
                                      pl :=
                                        (tcS s d
                                            { sp := sp, dp := dp, sq := sq, ak := ak, fl := fl, wn := wn, sm := sm,
                                              ug := ug, op := op, pl := pl }).pl }).length ≤
                                (140737488355327 : Nat))) then
                        some (V.bool false)
                      else none
                  else some (V.bool false)
                else none
            else none
          else none
      else some (V.bool true) := by kernel_rfl

theorem tpX_op (b : List UInt8) : (tpXX b).op.length ≤ b.length := by
  unfold tpXX
  split
  · show (topP (tpO b)).length ≤ _
    unfold topP
    split
    · rw [List.length_map]
      have h1 : (parO (tpO b)).2.length ≤ (tpO b).length := parF_count _ (tpO b)
      have h2 : (tpO b).length ≤ b.length := by unfold tpO; rw [length_cutL]; omega
      exact Nat.le_trans h1 h2
    · exact Nat.zero_le _
  · exact Nat.zero_le _
theorem TcpPuts_v : ∀ xs, inRs 140737488351232 sh_TcpPuts xs = true → callV Etcg af_TcpPuts xs = some (.bool true) := by
  intro xs h
  obtain ⟨zx1, zl1, rfl, zh1, zr1⟩ := inRs_cons h; clear h
  obtain ⟨zg1, rfl, za1⟩ := inR_agg zh1; clear zh1
  obtain ⟨zx2, zl2, rfl, zh2, zr2⟩ := inRs_cons za1; clear za1
  obtain ⟨sp, rfl, hsp0, hsp1⟩ := inR_i64 zh2; clear zh2
  obtain ⟨zx3, zl3, rfl, zh3, zr3⟩ := inRs_cons zr2; clear zr2
  obtain ⟨dp, rfl, hdp0, hdp1⟩ := inR_i64 zh3; clear zh3
  obtain ⟨zx4, zl4, rfl, zh4, zr4⟩ := inRs_cons zr3; clear zr3
  obtain ⟨sq, rfl, hsq0, hsq1⟩ := inR_u32 zh4; clear zh4
  obtain ⟨zx5, zl5, rfl, zh5, zr5⟩ := inRs_cons zr4; clear zr4
  obtain ⟨ak, rfl, hak0, hak1⟩ := inR_u32 zh5; clear zh5
  obtain ⟨zx6, zl6, rfl, zh6, zr6⟩ := inRs_cons zr5; clear zr5
  obtain ⟨fl, rfl, hfl0, hfl1⟩ := inR_i64 zh6; clear zh6
  obtain ⟨zx7, zl7, rfl, zh7, zr7⟩ := inRs_cons zr6; clear zr6
  obtain ⟨wn, rfl, hwn0, hwn1⟩ := inR_i64 zh7; clear zh7
  obtain ⟨zx8, zl8, rfl, zh8, zr8⟩ := inRs_cons zr7; clear zr7
  obtain ⟨sm, rfl, hsm0, hsm1⟩ := inR_i64 zh8; clear zh8
  obtain ⟨zx9, zl9, rfl, zh9, zr9⟩ := inRs_cons zr8; clear zr8
  obtain ⟨ug, rfl, hug0, hug1⟩ := inR_i64 zh9; clear zh9
  obtain ⟨zx10, zl10, rfl, zh10, zr10⟩ := inRs_cons zr9; clear zr9
  obtain ⟨op, rfl, hop, qop⟩ := inR_rows zh10; clear zh10
  obtain ⟨zx11, zl11, rfl, zh11, zr11⟩ := inRs_cons zr10; clear zr10
  obtain ⟨pl, rfl, hpl⟩ := inR_bytes zh11; clear zh11
  obtain rfl := inRs_nil zr11; clear zr11
  obtain rfl := inRs_nil zr1; clear zr1
  rw [TcpPuts_t, smallL_of (smallC_of qop)]
  simp only [beq_self_eq_true]
  by_cases h1 : op.length ≤ 60
  · by_cases h2 : pl.length ≤ 70000
    · simp (disch := omega) only [dec_t, dec_f, inB_t, inC_t, andT_t, cond_true, cond_false, Bool.and_true, Bool.true_and, w64, wu32, wu8, nble_t, nblt_t, Bool.not_true, Bool.not_false, Bool.not_not, ieq_t, ieq_f, ine_t, ine_f, true_and, and_true, andT_l]
    · simp (disch := omega) only [dec_t, dec_f, inB_t, inC_t, andT_t, cond_true, cond_false, Bool.and_true, Bool.true_and, w64, wu32, wu8, nble_t, nblt_t, Bool.not_true, Bool.not_false, Bool.not_not, ieq_t, ieq_f, ine_t, ine_f, true_and, and_true, andT_l]
  · simp (disch := omega) only [dec_t, dec_f, inB_t, inC_t, andT_t, cond_true, cond_false, Bool.and_true, Bool.true_and, w64, wu32, wu8, nble_t, nblt_t, Bool.not_true, Bool.not_false, Bool.not_not, ieq_t, ieq_f, ine_t, ine_f, true_and, and_true, andT_l]
theorem TcpTells_v : ∀ xs, inRs 140737488351232 sh_TcpTells xs = true → callV Etcg af_TcpTells xs = some (.bool true) := by
  intro xs h
  obtain ⟨zx1, zl1, rfl, zh1, zr1⟩ := inRs_cons h; clear h
  obtain ⟨zg1, rfl, za1⟩ := inR_agg zh1; clear zh1
  obtain ⟨zx2, zl2, rfl, zh2, zr2⟩ := inRs_cons za1; clear za1
  obtain ⟨sp, rfl, hsp0, hsp1⟩ := inR_i64 zh2; clear zh2
  obtain ⟨zx3, zl3, rfl, zh3, zr3⟩ := inRs_cons zr2; clear zr2
  obtain ⟨dp, rfl, hdp0, hdp1⟩ := inR_i64 zh3; clear zh3
  obtain ⟨zx4, zl4, rfl, zh4, zr4⟩ := inRs_cons zr3; clear zr3
  obtain ⟨sq, rfl, hsq0, hsq1⟩ := inR_u32 zh4; clear zh4
  obtain ⟨zx5, zl5, rfl, zh5, zr5⟩ := inRs_cons zr4; clear zr4
  obtain ⟨ak, rfl, hak0, hak1⟩ := inR_u32 zh5; clear zh5
  obtain ⟨zx6, zl6, rfl, zh6, zr6⟩ := inRs_cons zr5; clear zr5
  obtain ⟨fl, rfl, hfl0, hfl1⟩ := inR_i64 zh6; clear zh6
  obtain ⟨zx7, zl7, rfl, zh7, zr7⟩ := inRs_cons zr6; clear zr6
  obtain ⟨wn, rfl, hwn0, hwn1⟩ := inR_i64 zh7; clear zh7
  obtain ⟨zx8, zl8, rfl, zh8, zr8⟩ := inRs_cons zr7; clear zr7
  obtain ⟨sm, rfl, hsm0, hsm1⟩ := inR_i64 zh8; clear zh8
  obtain ⟨zx9, zl9, rfl, zh9, zr9⟩ := inRs_cons zr8; clear zr8
  obtain ⟨ug, rfl, hug0, hug1⟩ := inR_i64 zh9; clear zh9
  obtain ⟨zx10, zl10, rfl, zh10, zr10⟩ := inRs_cons zr9; clear zr9
  obtain ⟨op, rfl, hop, qop⟩ := inR_rows zh10; clear zh10
  obtain ⟨zx11, zl11, rfl, zh11, zr11⟩ := inRs_cons zr10; clear zr10
  obtain ⟨pl, rfl, hpl⟩ := inR_bytes zh11; clear zh11
  obtain rfl := inRs_nil zr11; clear zr11
  obtain ⟨zx12, zl12, rfl, zh12, zr12⟩ := inRs_cons zr1; clear zr1
  obtain ⟨k, rfl, hk0, hk1⟩ := inR_i64 zh12; clear zh12
  obtain rfl := inRs_nil zr12; clear zr12
  rw [TcpTells_t, and_or (by omega) (by omega)]
  simp only [beq_self_eq_true]
  by_cases h1 : op.length ≤ 60
  · by_cases h2 : pl.length ≤ 70000
    · simp (disch := omega) only [dec_t, dec_f, inB_t, inC_t, andT_t, cond_true, cond_false, Bool.and_true, Bool.true_and, w64, wu32, wu8, nble_t, nblt_t, Bool.not_true, Bool.not_false, Bool.not_not, ieq_t, ieq_f, ine_t, ine_f, true_and, and_true, andT_l]
    · simp (disch := omega) only [dec_t, dec_f, inB_t, inC_t, andT_t, cond_true, cond_false, Bool.and_true, Bool.true_and, w64, wu32, wu8, nble_t, nblt_t, Bool.not_true, Bool.not_false, Bool.not_not, ieq_t, ieq_f, ine_t, ine_f, true_and, and_true, andT_l]
  · simp (disch := omega) only [dec_t, dec_f, inB_t, inC_t, andT_t, cond_true, cond_false, Bool.and_true, Bool.true_and, w64, wu32, wu8, nble_t, nblt_t, Bool.not_true, Bool.not_false, Bool.not_not, ieq_t, ieq_f, ine_t, ine_f, true_and, and_true, andT_l]
theorem TcpParses_v : ∀ xs, inRs 140737488351232 sh_TcpParses xs = true → callV Etcg af_TcpParses xs = some (.bool true) := by
  intro xs h
  obtain ⟨zx1, zl1, rfl, zh1, zr1⟩ := inRs_cons h; clear h
  obtain ⟨zg1, rfl, za1⟩ := inR_agg zh1; clear zh1
  obtain ⟨zx2, zl2, rfl, zh2, zr2⟩ := inRs_cons za1; clear za1
  obtain ⟨s, rfl, hs⟩ := inR_barr zh2; clear zh2
  obtain ⟨zx3, zl3, rfl, zh3, zr3⟩ := inRs_cons zr2; clear zr2
  obtain ⟨d, rfl, hd⟩ := inR_barr zh3; clear zh3
  obtain rfl := inRs_nil zr3; clear zr3
  obtain ⟨zx4, zl4, rfl, zh4, zr4⟩ := inRs_cons zr1; clear zr1
  obtain ⟨b, rfl, hb⟩ := inR_bytes zh4; clear zh4
  obtain rfl := inRs_nil zr4; clear zr4
  have e1 : ∀ x : Tc, eqTc x x = true := fun x => eqTc_iff.2 rfl
  have l1 := tpX_op b
  rw [TcpParses_t]
  simp only [beq_self_eq_true, e1]
  by_cases h1 : b.length ≤ 70000
  · simp (disch := omega) only [dec_t, dec_f, inB_t, inC_t, andT_t, cond_true, cond_false, Bool.and_true, Bool.true_and, w64, wu32, wu8, nble_t, nblt_t, Bool.not_true, Bool.not_false, Bool.not_not, ieq_t, ieq_f, ine_t, ine_f, true_and, and_true, andT_l]
  · simp (disch := omega) only [dec_t, dec_f, inB_t, inC_t, andT_t, cond_true, cond_false, Bool.and_true, Bool.true_and, w64, wu32, wu8, nble_t, nblt_t, Bool.not_true, Bool.not_false, Bool.not_not, ieq_t, ieq_f, ine_t, ine_f, true_and, and_true, andT_l]
theorem tpX_back {t : Tc} (h : tcEr t = 0) (hq : u32ok t.sq) (ha : u32ok t.ak) (ho : (tls t.op).map tlV = t.op) : tpE (tcP t) = 0 ∧ tpXX (tcP t) = t := by
  obtain ⟨k1, k2, k3, k4, k5, k6, k7, k8, k9, k10, k11⟩ := tcp_back h hq ha
  obtain ⟨l1, l2⟩ := tcp_len h
  refine ⟨k1, ?_⟩
  unfold tpXX
  rw [if_pos k1]
  have e16 : ∀ i : Int, 0 ≤ i → i ≤ 18 → (u16 (tcP t) i).1 = gt (tcP t) i.toNat * 256 + gt (tcP t) (i.toNat + 1) := fun i h0 h1 => by
    unfold u16; rw [if_pos (by omega)]
  have e32 : ∀ i : Int, 0 ≤ i → i ≤ 16 → (u32 (tcP t) i).1 = be32 (tcP t) i.toNat := fun i h0 h1 => by
    unfold u32; rw [if_pos (by omega)]
  rw [e16 0 (by omega) (by omega), e16 2 (by omega) (by omega), e32 4 (by omega) (by omega), e32 8 (by omega) (by omega), e16 14 (by omega) (by omega), e16 16 (by omega) (by omega), e16 18 (by omega) (by omega)]
  rw [k2, ho, k3, k8]
  obtain ⟨sp, dp, sq, ak, fl, wn, sm, ug, op, pl⟩ := t
  exact (Tc.mk.injEq ..).mpr ⟨k4, k5, k6, k7, rfl, k9, k10, k11, rfl, rfl⟩
theorem TcpBack_v : ∀ xs, inRs 140737488351232 sh_TcpBack xs = true → callV Etcg af_TcpBack xs = some (.bool true) := by
  intro xs h
  obtain ⟨zx1, zl1, rfl, zh1, zr1⟩ := inRs_cons h; clear h
  obtain ⟨zg1, rfl, za1⟩ := inR_agg zh1; clear zh1
  obtain ⟨zx2, zl2, rfl, zh2, zr2⟩ := inRs_cons za1; clear za1
  obtain ⟨sp, rfl, hsp0, hsp1⟩ := inR_i64 zh2; clear zh2
  obtain ⟨zx3, zl3, rfl, zh3, zr3⟩ := inRs_cons zr2; clear zr2
  obtain ⟨dp, rfl, hdp0, hdp1⟩ := inR_i64 zh3; clear zh3
  obtain ⟨zx4, zl4, rfl, zh4, zr4⟩ := inRs_cons zr3; clear zr3
  obtain ⟨sq, rfl, hsq0, hsq1⟩ := inR_u32 zh4; clear zh4
  obtain ⟨zx5, zl5, rfl, zh5, zr5⟩ := inRs_cons zr4; clear zr4
  obtain ⟨ak, rfl, hak0, hak1⟩ := inR_u32 zh5; clear zh5
  obtain ⟨zx6, zl6, rfl, zh6, zr6⟩ := inRs_cons zr5; clear zr5
  obtain ⟨fl, rfl, hfl0, hfl1⟩ := inR_i64 zh6; clear zh6
  obtain ⟨zx7, zl7, rfl, zh7, zr7⟩ := inRs_cons zr6; clear zr6
  obtain ⟨wn, rfl, hwn0, hwn1⟩ := inR_i64 zh7; clear zh7
  obtain ⟨zx8, zl8, rfl, zh8, zr8⟩ := inRs_cons zr7; clear zr7
  obtain ⟨sm, rfl, hsm0, hsm1⟩ := inR_i64 zh8; clear zh8
  obtain ⟨zx9, zl9, rfl, zh9, zr9⟩ := inRs_cons zr8; clear zr8
  obtain ⟨ug, rfl, hug0, hug1⟩ := inR_i64 zh9; clear zh9
  obtain ⟨zx10, zl10, rfl, zh10, zr10⟩ := inRs_cons zr9; clear zr9
  obtain ⟨op, rfl, hop, qop⟩ := inR_rows zh10; clear zh10
  obtain ⟨zx11, zl11, rfl, zh11, zr11⟩ := inRs_cons zr10; clear zr10
  obtain ⟨pl, rfl, hpl⟩ := inR_bytes zh11; clear zh11
  obtain rfl := inRs_nil zr11; clear zr11
  obtain rfl := inRs_nil zr1; clear zr1
  rw [TcpBack_t, smallL_of (smallC_of qop)]
  by_cases h1 : op.length ≤ 60
  · by_cases h2 : pl.length ≤ 70000
    · by_cases h3 : tcEr ⟨sp, dp, sq, ak, fl, wn, sm, ug, op, pl⟩ = 0
      · obtain ⟨q1, q2⟩ := tpX_back h3 ⟨hsq0, by show sq ≤ _; omega⟩ ⟨hak0, by show ak ≤ _; omega⟩ (tlV_tls qop)
        obtain ⟨l1, l2⟩ := tcp_len h3
        have e1 : ∀ x : Tc, eqTc x x = true := fun x => eqTc_iff.2 rfl
        rw [q1, q2, h3, e1]
        simp (disch := omega) only [dec_t, dec_f, inB_t, inC_t, andT_t, cond_true, cond_false, Bool.and_true, Bool.true_and, w64, wu32, wu8, nble_t, nblt_t, Bool.not_true, Bool.not_false, Bool.not_not, ieq_t, ieq_f, ine_t, ine_f, true_and, and_true, andT_l]
      · simp (disch := omega) only [dec_t, dec_f, inB_t, inC_t, andT_t, cond_true, cond_false, Bool.and_true, Bool.true_and, w64, wu32, wu8, nble_t, nblt_t, Bool.not_true, Bool.not_false, Bool.not_not, ieq_t, ieq_f, ine_t, ine_f, true_and, and_true, andT_l]
    · simp (disch := omega) only [dec_t, dec_f, inB_t, inC_t, andT_t, cond_true, cond_false, Bool.and_true, Bool.true_and, w64, wu32, wu8, nble_t, nblt_t, Bool.not_true, Bool.not_false, Bool.not_not, ieq_t, ieq_f, ine_t, ine_f, true_and, and_true, andT_l]
  · simp (disch := omega) only [dec_t, dec_f, inB_t, inC_t, andT_t, cond_true, cond_false, Bool.and_true, Bool.true_and, w64, wu32, wu8, nble_t, nblt_t, Bool.not_true, Bool.not_false, Bool.not_not, ieq_t, ieq_f, ine_t, ine_f, true_and, and_true, andT_l]
/-- a sealed segment is fine -/
theorem tcS_fine {s d : List UInt8} {t : Tc} (h : tcEr t = 0) : both s d 6 (tcP (tcS s d t)) = 65535 ∧ tcEr (tcS s d t) = 0 := by
  have h0 : tcEr { t with sm := 0 } = 0 := tcEr_sm h (by decide)
  have hc : n16 (chk s d 6 (tcP { t with sm := 0 })) := by
    show 0 ≤ nt _ ∧ nt _ ≤ 65535
    unfold nt Bas.low
    omega
  have h1 : tcEr (tcS s d t) = 0 := by unfold tcS; rw [if_pos h]; exact tcEr_sm h hc
  refine ⟨?_, h1⟩
  have e : tcP (tcS s d t) = (tcP { t with sm := 0 }).take 16 ++ (two (chk s d 6 (tcP { t with sm := 0 })) ++ (tcP { t with sm := 0 }).drop 18) := by
    have eS : tcS s d t = { t with sm := chk s d 6 (tcP { t with sm := 0 }) } := by unfold tcS; rw [if_pos h]
    rw [eS] at h1 ⊢
    generalize chk s d 6 (tcP { t with sm := 0 }) = c at *
    unfold tcP
    rw [if_pos h0, if_pos h1]
    rfl
  have hl := (tcp_len h0).1
  rw [e]
  refine fine_law s d 6 (tcP { t with sm := 0 }) 16 (by omega) rfl ?_ ?_
  · unfold tcP; rw [if_pos h0]; rfl
  · unfold tcP; rw [if_pos h0]; rfl
theorem TcpSealed_v : ∀ xs, inRs 140737488351232 sh_TcpSealed xs = true → callV Etcg af_TcpSealed xs = some (.bool true) := by
  intro xs h
  obtain ⟨zx1, zl1, rfl, zh1, zr1⟩ := inRs_cons h; clear h
  obtain ⟨zg1, rfl, za1⟩ := inR_agg zh1; clear zh1
  obtain ⟨zx2, zl2, rfl, zh2, zr2⟩ := inRs_cons za1; clear za1
  obtain ⟨s, rfl, hs⟩ := inR_barr zh2; clear zh2
  obtain ⟨zx3, zl3, rfl, zh3, zr3⟩ := inRs_cons zr2; clear zr2
  obtain ⟨d, rfl, hd⟩ := inR_barr zh3; clear zh3
  obtain rfl := inRs_nil zr3; clear zr3
  obtain ⟨zx4, zl4, rfl, zh4, zr4⟩ := inRs_cons zr1; clear zr1
  obtain ⟨zg4, rfl, za4⟩ := inR_agg zh4; clear zh4
  obtain ⟨zx5, zl5, rfl, zh5, zr5⟩ := inRs_cons za4; clear za4
  obtain ⟨sp, rfl, hsp0, hsp1⟩ := inR_i64 zh5; clear zh5
  obtain ⟨zx6, zl6, rfl, zh6, zr6⟩ := inRs_cons zr5; clear zr5
  obtain ⟨dp, rfl, hdp0, hdp1⟩ := inR_i64 zh6; clear zh6
  obtain ⟨zx7, zl7, rfl, zh7, zr7⟩ := inRs_cons zr6; clear zr6
  obtain ⟨sq, rfl, hsq0, hsq1⟩ := inR_u32 zh7; clear zh7
  obtain ⟨zx8, zl8, rfl, zh8, zr8⟩ := inRs_cons zr7; clear zr7
  obtain ⟨ak, rfl, hak0, hak1⟩ := inR_u32 zh8; clear zh8
  obtain ⟨zx9, zl9, rfl, zh9, zr9⟩ := inRs_cons zr8; clear zr8
  obtain ⟨fl, rfl, hfl0, hfl1⟩ := inR_i64 zh9; clear zh9
  obtain ⟨zx10, zl10, rfl, zh10, zr10⟩ := inRs_cons zr9; clear zr9
  obtain ⟨wn, rfl, hwn0, hwn1⟩ := inR_i64 zh10; clear zh10
  obtain ⟨zx11, zl11, rfl, zh11, zr11⟩ := inRs_cons zr10; clear zr10
  obtain ⟨sm, rfl, hsm0, hsm1⟩ := inR_i64 zh11; clear zh11
  obtain ⟨zx12, zl12, rfl, zh12, zr12⟩ := inRs_cons zr11; clear zr11
  obtain ⟨ug, rfl, hug0, hug1⟩ := inR_i64 zh12; clear zh12
  obtain ⟨zx13, zl13, rfl, zh13, zr13⟩ := inRs_cons zr12; clear zr12
  obtain ⟨op, rfl, hop, qop⟩ := inR_rows zh13; clear zh13
  obtain ⟨zx14, zl14, rfl, zh14, zr14⟩ := inRs_cons zr13; clear zr13
  obtain ⟨pl, rfl, hpl⟩ := inR_bytes zh14; clear zh14
  obtain rfl := inRs_nil zr14; clear zr14
  obtain rfl := inRs_nil zr4; clear zr4
  rw [TcpSealed_t, smallL_of (smallC_of qop)]
  by_cases h1 : op.length ≤ 60
  · by_cases h2 : pl.length ≤ 70000
    · have e1 : ∀ x : Tc, eqTc x x = true := fun x => eqTc_iff.2 rfl
      by_cases h3 : tcEr ⟨sp, dp, sq, ak, fl, wn, sm, ug, op, pl⟩ = 0
      · obtain ⟨q1, q2⟩ := tcS_fine (s := s) (d := d) h3
        have hl := (tcp_len q2).2
        have eS : tcS s d ⟨sp, dp, sq, ak, fl, wn, sm, ug, op, pl⟩ = ⟨sp, dp, sq, ak, fl, wn, chk s d 6 (tcP ⟨sp, dp, sq, ak, fl, wn, 0, ug, op, pl⟩), ug, op, pl⟩ := by unfold tcS; rw [if_pos h3]
        rw [eS] at q1 q2 hl ⊢
        simp only
        rw [q1, q2, h3, e1, smallL_of (smallC_of qop)]
        simp (disch := omega) only [dec_t, dec_f, inB_t, inC_t, andT_t, cond_true, cond_false, Bool.and_true, Bool.true_and, w64, wu32, wu8, nble_t, nblt_t, Bool.not_true, Bool.not_false, Bool.not_not, ieq_t, ieq_f, ine_t, ine_f, true_and, and_true, andT_l]
      · have eS : tcS s d ⟨sp, dp, sq, ak, fl, wn, sm, ug, op, pl⟩ = ⟨sp, dp, sq, ak, fl, wn, sm, ug, op, pl⟩ := by unfold tcS; rw [if_neg h3]
        rw [eS]
        simp only
        rw [e1]
        simp (disch := omega) only [dec_t, dec_f, inB_t, inC_t, andT_t, cond_true, cond_false, Bool.and_true, Bool.true_and, w64, wu32, wu8, nble_t, nblt_t, Bool.not_true, Bool.not_false, Bool.not_not, ieq_t, ieq_f, ine_t, ine_f, true_and, and_true, andT_l]
    · simp (disch := omega) only [dec_t, dec_f, inB_t, inC_t, andT_t, cond_true, cond_false, Bool.and_true, Bool.true_and, w64, wu32, wu8, nble_t, nblt_t, Bool.not_true, Bool.not_false, Bool.not_not, ieq_t, ieq_f, ine_t, ine_f, true_and, and_true, andT_l]
  · simp (disch := omega) only [dec_t, dec_f, inB_t, inC_t, andT_t, cond_true, cond_false, Bool.and_true, Bool.true_and, w64, wu32, wu8, nble_t, nblt_t, Bool.not_true, Bool.not_false, Bool.not_not, ieq_t, ieq_f, ine_t, ine_f, true_and, and_true, andT_l]
end Go.Proofs.Ytbojofchpnfnlaa
