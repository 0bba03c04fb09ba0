/- Part Gu of the proof: laws used by the law of this claim. -/
import Derived.Test.YtfhljcbbgckdiaaGreatGn
import Derived.Test.YtfhljcbbgckdiaaGreatGw
set_option linter.all false
namespace Go.Proofs.YtfhljcbbgckdiaaGreat
open Go Go.Am Go.RowKit Go.Mix Go.Bas
set_option maxRecDepth 100000
def cJoinB : List V → Option (V × Bool)
 | [.rows .bytes l] => some (.ownv 5 (.bytes (jnB l)), decide ((jnB l).length ≤ 140737488355328))
 | _ => none
theorem Join_con : ∀ vs v, cJoinB vs = some (v, true) → SpecV Tryz.prog 126 vs v := by
 intro vs v h; unfold cJoinB at h; split at h
 ·rename_i l
  injection h with h; injection h with h hb; subst h
  have hb := of_decide_eq_true hb
  intro O w cs hO hv
  obtain ⟨a, rfl, ha⟩ := hv.one_inv
  cases ha with
  | one h ha =>
   cases h with
   | rows hn hc hm he hr hd =>
    obtain ⟨r1, r2⟩ := reps_bss he hr
    have hB : Bss w _ _ _ (l.map toL) := ⟨by rw [List.length_map]; exact hn, hc, hm, fun hne => by
     obtain ⟨b, off, hA, _, hlt, hce⟩ := hd (by intro e; rw [e] at hne; exact hne rfl)
     refine ⟨b, off, hA, hlt, fun j hj => ?_⟩
     obtain ⟨A', n', c', e, hB⟩ := r2 j hj
     exact ⟨A', n', c', hce j _ e, hB⟩⟩
    rw [jnB_flat] at hb ⊢
    exact kOwn (Join_calls _ _ _ _ _ hB hb)
  | agg h ha => cases ha
 ·cases h
structure Tc where
 (sp dp sq ak fl wn sm ug : Int)
 (op : List V)
 (pl : List UInt8)
def Tc.v (t : Tc) : V := .agg [.int .i64 t.sp, .int .i64 t.dp, .int .u32 t.sq, .int .u32 t.ak, .int .i64 t.fl, .int .i64 t.wn, .int .i64 t.sm, .int .i64 t.ug, .rows (.agg [.int .i64, .bytes]) t.op, .bytes t.pl]
def shTc : Sh := .agg [.int .i64, .int .i64, .int .u32, .int .u32, .int .i64, .int .i64, .int .i64, .int .i64, .rows (.agg [.int .i64, .bytes]), .bytes]
abbrev n16 (x : Int) : Prop := 0 ≤ x ∧ x ≤ 65535
def tcEr (t : Tc) : Int :=
 if n16 t.sp ∧ n16 t.dp ∧ n16 t.wn ∧ n16 t.sm ∧ n16 t.ug ∧ 0 ≤ t.fl ∧ t.fl ≤ 255 then
  if canO (tls t.op) = 0 then (if (t.pl.length : Int) > 65515 - (putO (tls t.op)).length then 4 else 0) else canO (tls t.op)
 else 2
noncomputable def af_tcNum : AF := afOf Tryz.prog Tryz.f138 [.unr 6]
theorem af_tcNum_ok : AllOk Tryz.prog 138 af_tcNum := .flat Tryz.func138 (by kernel_rfl) (by kernel_rfl) (by kernel_rfl) (by kernel_rfl) (by kernel_rfl)
noncomputable def af_tcOpt : AF := afOf Tryz.prog Tryz.f139 []
theorem af_tcOpt_ok : AllOk Tryz.prog 139 af_tcOpt := .flat Tryz.func139 (by kernel_rfl) (by kernel_rfl) (by kernel_rfl) (by kernel_rfl) (by kernel_rfl)
noncomputable def af_tcSize : AF := afOf Tryz.prog Tryz.f140 []
theorem af_tcSize_ok : AllOk Tryz.prog 140 af_tcSize := .flat Tryz.func140 (by kernel_rfl) (by kernel_rfl) (by kernel_rfl) (by kernel_rfl) (by kernel_rfl)
noncomputable def af_tcpCan : AF := afOf Tryz.prog Tryz.f123 [.unr 4]
theorem af_tcpCan_ok : AllOk Tryz.prog 123 af_tcpCan := .flat Tryz.func123 (by kernel_rfl) (by kernel_rfl) (by kernel_rfl) (by kernel_rfl) (by kernel_rfl)
noncomputable def af_rTcpCan : AF := afOf Tryz.prog Tryz.f81 [.unr 7]
theorem af_rTcpCan_ok : AllOk Tryz.prog 81 af_rTcpCan := .flat Tryz.func81 (by kernel_rfl) (by kernel_rfl) (by kernel_rfl) (by kernel_rfl) (by kernel_rfl)
noncomputable def GEtca : List (Nat × Con) := [(141, .val [.rows (.agg [.int .i64, .bytes])] cToptCan), (124, .val [.rows (.agg [.int .i64, .bytes])] cToptPut), (82, .val [.rows (.agg [.int .i64, .bytes])] crToptPut)]
theorem GEtca_ok : GOk Tryz.prog GEtca := .cons (enters_of Tryz.func141 (by kernel_rfl) rfl) toptCan_con <| .cons (enters_of Tryz.func124 (by kernel_rfl) rfl) toptPut_con <| .cons (enters_of Tryz.func82 (by kernel_rfl) rfl) rToptPut_con <| .nil
noncomputable def IEtca : List (Nat × AF) := [(138, af_tcNum), (139, af_tcOpt), (140, af_tcSize)]
theorem IEtca_ok : IOk Tryz.prog IEtca := .cons af_tcNum_ok <| .cons af_tcOpt_ok <| .cons af_tcSize_ok <| .nil
noncomputable def CEtca : List (Nat × (List Nat × (S → Option (Bool × Tr)))) := []
theorem CEtca_ok : COk Tryz.prog CEtca := .nil
noncomputable def XEtca : List (Nat × (List Sh × (List V → PT))) := []
theorem XEtca_ok : XOk Tryz.prog XEtca := .nil
noncomputable def Etca : Env := ⟨Tryz.prog, GEtca, IEtca, CEtca, XEtca, false⟩
theorem Etca_ok : EnvOk Etca := ⟨by kernel_rfl, GEtca_ok, IEtca_ok, CEtca_ok, XEtca_ok⟩
def e2V : Option V := some (.int .i64 2)
def bN (hi x : Int) (k : Option V) : Option V := bif decide (x < 0) then e2V else bif decide (x > hi) then e2V else k
def bZ (op : List V) (pl : List UInt8) : Option V := bif decide ((pl.length : Int) > IntKind.i64.wrap (65515 - ((putO (tls op)).length : Int))) then some (.int .i64 4) else some (.int .i64 0)
theorem tcpCan_t (t : Tc) : callV Etca af_tcpCan [t.v] = bN 65535 t.sp (bN 65535 t.dp (bN 65535 t.wn (bN 65535 t.sm (bN 65535 t.ug (bN 255 t.fl (
  bif andT true (decide (t.op.length ≤ 4611686018427387904) && smallL t.op) then bif canO (tls t.op) != 0 then some (.int .i64 (canO (tls t.op))) else
   bif andT true (decide (t.op.length ≤ 4611686018427387904) && smallL t.op) then bZ t.op t.pl else none else none)))))) := by kernel_rfl
theorem rTcpCan_t (t : Tc) : callV Etca af_rTcpCan [t.v] = bN 65535 t.sp (bN 65535 t.dp (bN 65535 t.wn (bN 65535 t.sm (bN 65535 t.ug (bN 65535 t.fl (bif decide (t.fl > 255) then e2V else
  bif andT true (decide (t.op.length ≤ 4611686018427387904)) then bif canO (tls t.op) != 0 then some (.int .i64 (canO (tls t.op))) else bZ t.op t.pl else none)))))) := by kernel_rfl
theorem bN_t {hi x : Int} {k : Option V} (h1 : 0 ≤ x) (h2 : x ≤ hi) : bN hi x k = k := by
 unfold bN
 rw [dec_f (by omega), dec_f (by omega)]; rfl
theorem bN_f {hi x : Int} {k : Option V} (h : ¬ (0 ≤ x ∧ x ≤ hi)) : bN hi x k = e2V := by
 unfold bN
 by_cases h1 : x < 0
 ·rw [dec_t h1]; rfl
 ·rw [dec_f h1, dec_t (by omega)]; rfl
theorem bZ_is {op : List V} {pl : List UInt8} (h : canO (tls op) = 0) : bZ op pl = some (.int .i64 (if (pl.length : Int) > 65515 - (putO (tls op)).length then 4 else 0)) := by
 have hp := putO_len h
 unfold bZ
 rw [w64 (by omega) (by omega)]
 split
 ·rw [dec_t (by assumption)]; rfl
 ·rw [dec_f (by assumption)]; rfl
theorem bNs {t : Tc} {k : Option V} {hi : Int} (hk : ¬ (0 ≤ t.fl ∧ t.fl ≤ 255) → bN hi t.fl k = e2V) (hN : ¬ (n16 t.sp ∧ n16 t.dp ∧ n16 t.wn ∧ n16 t.sm ∧ n16 t.ug ∧ 0 ≤ t.fl ∧ t.fl ≤ 255)) :
  bN 65535 t.sp (bN 65535 t.dp (bN 65535 t.wn (bN 65535 t.sm (bN 65535 t.ug (bN hi t.fl k))))) = e2V := by
 by_cases h1 : n16 t.sp
 ·rw [bN_t h1.1 h1.2]
  by_cases h2 : n16 t.dp
  ·rw [bN_t h2.1 h2.2]
   by_cases h3 : n16 t.wn
   ·rw [bN_t h3.1 h3.2]
    by_cases h4 : n16 t.sm
    ·rw [bN_t h4.1 h4.2]
     by_cases h5 : n16 t.ug
     ·rw [bN_t h5.1 h5.2]
      exact hk fun h6 => hN ⟨h1, h2, h3, h4, h5, h6⟩
     ·rw [bN_f h5]
    ·rw [bN_f h4]
   ·rw [bN_f h3]
  ·rw [bN_f h2]
 ·rw [bN_f h1]
theorem tcpCan_v (t : Tc) (h : t.op.length ≤ 4611686018427387904) (hs : smallL t.op = true) : callV Etca af_tcpCan [t.v] = some (.int .i64 (tcEr t)) := by
 rw [tcpCan_t, hs]
 unfold tcEr
 by_cases hN : n16 t.sp ∧ n16 t.dp ∧ n16 t.wn ∧ n16 t.sm ∧ n16 t.ug ∧ 0 ≤ t.fl ∧ t.fl ≤ 255
 ·rw [if_pos hN]
  obtain ⟨h1, h2, h3, h4, h5, h6, h7⟩ := hN
  rw [bN_t h1.1 h1.2, bN_t h2.1 h2.2, bN_t h3.1 h3.2, bN_t h4.1 h4.2, bN_t h5.1 h5.2, bN_t h6 h7]
  by_cases h0 : canO (tls t.op) = 0
  ·rw [if_pos h0, bZ_is h0]
   simp (disch := omega) only [tre]
  ·rw [if_neg h0]
   simp (disch := omega) only [tre]
 ·rw [if_neg hN, bNs (fun h => bN_f h) hN]
  rfl
theorem rTcpCan_v (t : Tc) (h : t.op.length ≤ 4611686018427387904) : callV Etca af_rTcpCan [t.v] = some (.int .i64 (tcEr t)) := by
 rw [rTcpCan_t]
 unfold tcEr
 by_cases hN : n16 t.sp ∧ n16 t.dp ∧ n16 t.wn ∧ n16 t.sm ∧ n16 t.ug ∧ 0 ≤ t.fl ∧ t.fl ≤ 255
 ·rw [if_pos hN]
  obtain ⟨h1, h2, h3, h4, h5, h6, h7⟩ := hN
  rw [bN_t h1.1 h1.2, bN_t h2.1 h2.2, bN_t h3.1 h3.2, bN_t h4.1 h4.2, bN_t h5.1 h5.2, bN_t h6 (by omega)]
  by_cases h0 : canO (tls t.op) = 0
  ·rw [if_pos h0, bZ_is h0]
   simp (disch := omega) only [tre]
  ·rw [if_neg h0]
   simp (disch := omega) only [tre]
 ·rw [if_neg hN, bNs (fun h => ?_) hN]
  ·rfl
  ·by_cases h1 : 0 ≤ t.fl ∧ t.fl ≤ 65535
   ·rw [bN_t h1.1 h1.2]
    simp (disch := omega) only [tre]
   ·exact bN_f h1
def cTcpCan : List V → Option (V × Bool)
 | [.agg [.int .i64 sp, .int .i64 dp, .int .u32 sq, .int .u32 ak, .int .i64 fl, .int .i64 wn, .int .i64 sm, .int .i64 ug, .rows (.agg [.int .i64, .bytes]) op, .bytes pl]] => some (.int .i64 (tcEr ⟨sp, dp, sq, ak, fl, wn, sm, ug, op, pl⟩), (decide (op.length ≤ 4611686018427387904) && smallL op))
 | _ => none
theorem tcpCan_con : ∀ vs v, cTcpCan vs = some (v, true) → SpecV Tryz.prog 123 vs v := by
 intro vs v h; unfold cTcpCan at h; split at h
 ·rename_i sp dp sq ak fl wn sm ug op pl
  injection h with h; injection h with h hb; subst h
  exact callV_ok Etca_ok af_tcpCan_ok (tcpCan_v ⟨sp, dp, sq, ak, fl, wn, sm, ug, op, pl⟩ (of_decide_eq_true ((Bool.and_eq_true _ _).mp hb).1) ((Bool.and_eq_true _ _).mp hb).2)
 ·cases h
theorem rTcpCan_con : ∀ vs v, cTcpCan vs = some (v, true) → SpecV Tryz.prog 81 vs v := by
 intro vs v h; unfold cTcpCan at h; split at h
 ·rename_i sp dp sq ak fl wn sm ug op pl
  injection h with h; injection h with h hb; subst h
  exact callV_ok Etca_ok af_rTcpCan_ok (rTcpCan_v ⟨sp, dp, sq, ak, fl, wn, sm, ug, op, pl⟩ (of_decide_eq_true ((Bool.and_eq_true _ _).mp hb).1))
 ·cases h
end Go.Proofs.YtfhljcbbgckdiaaGreat