/- Part Gh of the proof: laws used by the law of this claim. -/
import Derived.Test.YtfhljcbbgckdiaaGreatProg
import Derived.Test.YtfhljcbbgckdiaaGreatGg
import Derived.Test.YtfhljcbbgckdiaaGreatGf
set_option linter.all false
namespace Go.Proofs.YtfhljcbbgckdiaaGreat
open Go Go.Am Go.RowKit Go.Mix Go.Bas
set_option maxRecDepth 100000
noncomputable def af_wHas : AF := afOf Tryz.prog Tryz.f146 []
theorem af_wHas_ok : AllOk Tryz.prog 146 af_wHas := .flat Tryz.func146 (by kernel_rfl) (by kernel_rfl) (by kernel_rfl) (by kernel_rfl) (by kernel_rfl)
def srC (nx lf fl tg : Int) (s t : List V) : Int := if (0 ≤ nx ∧ nx ≤ 255) ∧ (0 ≤ lf ∧ lf ≤ 255) ∧ (0 ≤ fl ∧ fl ≤ 255) ∧ (0 ≤ tg ∧ tg ≤ 65535) then (if s.length < 1 ∨ 10 < s.length then 8 else if (s.length : Int) ≤ lf then 5 else can 256 (tls t)) else 2
end Go.Proofs.YtfhljcbbgckdiaaGreat

namespace Go.Proofs.YtfhljcbbgckdiaaGreat
open Go Go.Am Go.RowKit Go.Mix Go.Bas
set_option maxRecDepth 100000
/-- a routing header as a value -/
structure Hd where
  (nx lf fl tg : Int)
  (s t : List V)
def Hd.v (h : Hd) : V := .agg [.int .i64 h.nx, .int .i64 h.lf, .int .i64 h.fl, .int .i64 h.tg, .rows (.barr 16) h.s, .rows (.agg [.int .i64, .bytes]) h.t]
def segB (v : V) : List UInt8 := cutL (toA v) 0 16
def sgf (f : V → List UInt8) : List V → List UInt8
  | [] => []
  | v :: r => f v ++ sgf f r
def sgs (l : List V) : List UInt8 := sgf segB l
def h6 (h : Hd) (q : Int) : List UInt8 := [u8 (IntKind.u8.wrap h.nx), u8 (IntKind.u8.wrap q), u8 4, u8 (IntKind.u8.wrap h.lf), u8 (IntKind.u8.wrap (IntKind.i64.wrap ((h.s.length : Int) - 1))), u8 (IntKind.u8.wrap h.fl)]
def t2 (tg : Int) : List UInt8 := [u8 (gt [u8 (IntKind.u8.wrap (tg.fdiv 256)), u8 (IntKind.u8.wrap tg)] 0), u8 (gt [u8 (IntKind.u8.wrap (tg.fdiv 256)), u8 (IntKind.u8.wrap tg)] 1)]
end Go.Proofs.YtfhljcbbgckdiaaGreat

namespace Go.Proofs.YtfhljcbbgckdiaaGreat
open Go Go.Am Go.RowKit Go.Mix Go.Bas
set_option maxRecDepth 100000
/-! ### what is put -/
def hdB (h : Hd) : List UInt8 := [b8 h.nx, b8 (2 * (h.s.length : Int) + (putB (tls h.t)).length / 8), 4, b8 h.lf, b8 ((h.s.length : Int) - 1), b8 h.fl] ++ two h.tg
theorem tdv {a b : Int} (h : 0 ≤ a) : a.tdiv b = a / b := Int.tdiv_eq_ediv_of_nonneg h
def srP (h : Hd) : List UInt8 := if srC h.nx h.lf h.fl h.tg h.s h.t = 0 then hdB h ++ sgs h.s ++ putB (tls h.t) else []
end Go.Proofs.YtfhljcbbgckdiaaGreat

namespace Go.Proofs.YtfhljcbbgckdiaaGreat
open Go Go.Am Go.RowKit Go.Mix Go.Bas
set_option maxRecDepth 100000
noncomputable def af_srhSegment : AF := afOf Tryz.prog Tryz.f137 []
theorem af_srhSegment_ok : AllOk Tryz.prog 137 af_srhSegment := .flat Tryz.func137 (by kernel_rfl) (by kernel_rfl) (by kernel_rfl) (by kernel_rfl) (by kernel_rfl)
noncomputable def af_srhActive : AF := afOf Tryz.prog Tryz.f119 []
theorem af_srhActive_ok : AllOk Tryz.prog 119 af_srhActive := .flat Tryz.func119 (by kernel_rfl) (by kernel_rfl) (by kernel_rfl) (by kernel_rfl) (by kernel_rfl)
noncomputable def af_srhFinal : AF := afOf Tryz.prog Tryz.f118 []
theorem af_srhFinal_ok : AllOk Tryz.prog 118 af_srhFinal := .flat Tryz.func118 (by kernel_rfl) (by kernel_rfl) (by kernel_rfl) (by kernel_rfl) (by kernel_rfl)
end Go.Proofs.YtfhljcbbgckdiaaGreat

namespace Go.Proofs.YtfhljcbbgckdiaaGreat
open Go Go.Am Go.RowKit Go.Mix Go.Bas
set_option maxRecDepth 100000
def A16 (x : List UInt8) : List UInt8 := List.take 0 (List.replicate 16 0) ++ (List.take 16 x ++ List.drop (0 + min 16 x.length) (List.replicate 16 0))
/-- rounds that read the segments -/
def sgR {α : Type} (c : List UInt8) (e : Int) (fin : List V → Option α) : Nat → Int → List V → Option α
  | 0, _, _ => none
  | m + 1, a, l => bif decide (a < e) then bif andT true (Am.inC (IntKind.i64.wrap (a + 16)) c.length && Am.inC (IntKind.i64.wrap (a + 16)) (IntKind.i64.wrap (a + 16)).toNat && Am.inC a (IntKind.i64.wrap (a + 16)).toNat) && true then
      sgR c e fin m (IntKind.i64.wrap (a + 16)) (l ++ [.barr 16 (A16 (cutL c a.toNat (IntKind.i64.wrap (a + 16)).toNat))]) else none else fin l
noncomputable def af_wSegs : AF := afOf Tryz.prog Tryz.f135 [.unr 11]
theorem af_wSegs_ok : AllOk Tryz.prog 135 af_wSegs := .flat Tryz.func135 (by kernel_rfl) (by kernel_rfl) (by kernel_rfl) (by kernel_rfl) (by kernel_rfl)
noncomputable def af_srhParse : AF := afOf Tryz.prog Tryz.f117 []
theorem af_srhParse_ok : AllOk Tryz.prog 117 af_srhParse := .flat Tryz.func117 (by kernel_rfl) (by kernel_rfl) (by kernel_rfl) (by kernel_rfl) (by kernel_rfl)
noncomputable def GEsrd : List (Nat × Con) := [(114, .val [.bytes, .int .i64] cU16), (136, .val [.bytes] cTlvParse)]

theorem GEsrd_ok : GOk Tryz.prog GEsrd := .cons (enters_of Tryz.func114 (by kernel_rfl) rfl) U16_con <| .cons (enters_of Tryz.func136 (by kernel_rfl) rfl) tlvParse_con <| .nil

noncomputable def IEsrd : List (Nat × AF) := [(146, af_wHas), (135, af_wSegs)]
theorem IEsrd_ok : IOk Tryz.prog IEsrd := .cons af_wHas_ok <| .cons af_wSegs_ok <| .nil
noncomputable def CEsrd : List (Nat × (List Nat × (S → Option (Bool × Tr)))) := []
theorem CEsrd_ok : COk Tryz.prog CEsrd := .nil
noncomputable def XEsrd : List (Nat × (List Sh × (List V → PT))) := []
theorem XEsrd_ok : XOk Tryz.prog XEsrd := .nil
noncomputable def Esrd : Env := ⟨Tryz.prog, GEsrd, IEsrd, CEsrd, XEsrd, false⟩
theorem Esrd_ok : EnvOk Esrd := ⟨by kernel_rfl, GEsrd_ok, IEsrd_ok, CEsrd_ok, XEsrd_ok⟩
def pLn (b : List UInt8) : Int := IntKind.i64.wrap (8 * IntKind.i64.wrap (IntKind.i64.wrap (gt b 1) + 1))
def pN (b : List UInt8) : Int := IntKind.i64.wrap (IntKind.i64.wrap (gt b 4) + 1)
def pE (b : List UInt8) : Int := IntKind.i64.wrap (8 + IntKind.i64.wrap (16 * pN b))
def hE (e : Int) : Option V := some (.tup [.agg [.int .i64 0, .int .i64 0, .int .i64 0, .int .i64 0, .rows (.barr 16) [], .rows (.agg [.int .i64, .bytes]) []], .int .i64 0, .int .i64 e])
def pF (b c : List UInt8) (e : Int) (l : List V) : Option V :=
  bif andT true (Am.inC (c.length : Int) c.length && Am.inC (c.length : Int) (c.length : Int).toNat && Am.inC e (c.length : Int).toNat) then
    bif decide (IntKind.i64.wrap (gt b 3) ≥ 0) then bif !decide (IntKind.i64.wrap (gt b 3) < (l.length : Int)) then hE 5 else
      bif andT true (decide ((cutL c e.toNat (c.length : Int).toNat).length ≤ 1000000000)) then
        bif peI (parse (cutL c e.toNat (c.length : Int).toNat)) != 0 then hE (peI (parse (cutL c e.toNat (c.length : Int).toNat))) else
        some (.tup [.agg [.int .i64 (IntKind.i64.wrap (gt b 0)), .int .i64 (IntKind.i64.wrap (gt b 3)), .int .i64 (IntKind.i64.wrap (gt b 5)), .int .i64 (u16 b 6).1, .rows (.barr 16) l, .rows (.agg [.int .i64, .bytes]) (paV (parse (cutL c e.toNat (c.length : Int).toNat)))], .int .i64 (pLn b), .int .i64 0])
      else none
    else hE 5
  else none
theorem srhParse_t (b : List UInt8) : callV Esrd af_srhParse [.bytes b] =
 bif decide ((b.length : Int) < 8) then hE 3 else
 bif andT true (inB 1 b.length) then bif decide ((b.length : Int) < pLn b) then hE 3 else
 bif andT true (inB 2 b.length) then bif gt b 2 != 4 then hE 7 else
 bif andT (andT (andT true (inB 0 b.length)) (inB 3 b.length)) (inB 5 b.length) && true then
 bif andT (andT true (Am.inC (pLn b) b.length)) (inB 4 b.length) && true then
 bif decide (pN b > 10) then hE 8 else
 bif decide (pE b > ((cutL b 0 (pLn b).toNat).length : Int)) then hE 5 else
 sgR (cutL b 0 (pLn b).toNat) (pE b) (pF b (cutL b 0 (pLn b).toNat) (pE b)) 11 8 []
 else none
 else none
 else none
 else none := by kernel_rfl
end Go.Proofs.YtfhljcbbgckdiaaGreat

namespace Go.Proofs.YtfhljcbbgckdiaaGreat
open Go Go.Am Go.RowKit Go.Mix Go.Bas
set_option maxRecDepth 100000
end Go.Proofs.YtfhljcbbgckdiaaGreat

namespace Go.Proofs.YtfhljcbbgckdiaaGreat
open Go Go.Am Go.RowKit Go.Mix Go.Bas
set_option maxRecDepth 100000
/-! ### the reference -/
end Go.Proofs.YtfhljcbbgckdiaaGreat

namespace Go.Proofs.YtfhljcbbgckdiaaGreat
open Go Go.Am Go.RowKit Go.Mix Go.Bas
set_option maxRecDepth 100000
def shN (b : List UInt8) : Nat := (gt b 4).toNat + 1
def shL (b : List UInt8) : Nat := 8 * ((gt b 1).toNat + 1)
def sgL (b : List UInt8) (n : Nat) : List V := (List.range n).map fun k => .barr 16 (cutL b (8 + 16 * k) (24 + 16 * k))
def shT (b : List UInt8) : List UInt8 := cutL b (8 + 16 * shN b) (shL b)
def shE (b : List UInt8) : Int := if b.length < 8 then 3 else if b.length < shL b then 3 else if gt b 2 ≠ 4 then 7 else if 10 < shN b then 8 else if shL b < 8 + 16 * shN b then 5 else if (shN b : Int) ≤ gt b 3 then 5 else peI (parse (shT b))
def zI (e x : Int) : Int := if e = 0 then x else 0
def zV (e : Int) (l : List V) : List V := if e = 0 then l else []
def shV (b : List UInt8) : V := .tup [.agg [.int .i64 (zI (shE b) (gt b 0)), .int .i64 (zI (shE b) (gt b 3)), .int .i64 (zI (shE b) (gt b 5)), .int .i64 (zI (shE b) (gt b 6 * 256 + gt b 7)), .rows (.barr 16) (zV (shE b) (sgL b (shN b))), .rows (.agg [.int .i64, .bytes]) (zV (shE b) (paV (parse (shT b))))], .int .i64 (zI (shE b) (shL b)), .int .i64 (shE b)]
theorem hE_eq {b : List UInt8} {e : Int} (he : shE b = e) (h0 : e ≠ 0) : hE e = some (shV b) := by
  unfold shV hE
  rw [he]
  simp only [zI, zV, if_neg h0]
theorem cut_take {l : List UInt8} {n i j : Nat} (h : j ≤ n) : cutL (cutL l 0 n) i j = cutL l i j := by
  rw [cutL_zero]
  unfold cutL
  rw [List.drop_take, List.take_take, Nat.min_eq_left (by omega)]
theorem A16_eq {x : List UInt8} (h : x.length = 16) : A16 x = x := by
  unfold A16
  rw [h, List.take_zero, List.nil_append, List.take_of_length_le (by omega)]
  simp
theorem sgL_succ (b : List UInt8) (k : Nat) : sgL b (k + 1) = sgL b k ++ [.barr 16 (cutL b (8 + 16 * k) (24 + 16 * k))] := by
  unfold sgL
  rw [List.range_succ, List.map_append]
  rfl
theorem sgL_cut {b : List UInt8} {L : Nat} : ∀ {n : Nat}, 8 + 16 * n ≤ L → sgL (cutL b 0 L) n = sgL b n
  | 0, _ => rfl
  | n + 1, h => by rw [sgL_succ, sgL_succ, sgL_cut (by omega), cut_take (by omega)]
theorem sgR_ok {α : Type} {fin : List V → Option α} {c : List UInt8} {N : Nat} (hc : 8 + 16 * N ≤ c.length) (hN : N ≤ 1000) : ∀ (m k : Nat), N - k < m → k ≤ N → sgR c ((8 + 16 * N : Nat) : Int) fin m ((8 + 16 * k : Nat) : Int) (sgL c k) = fin (sgL c N)
  | 0, k, h, _ => by omega
  | m + 1, k, h, hk => by
    unfold sgR
    by_cases he : k = N
    · subst he
      simp (disch := omega) only [dec_t, dec_f, inB_t, inC_t, andT_t, cond_true, cond_false, Bool.and_true, Bool.true_and, w64, wu32, wu8, nble_t, nblt_t, Bool.not_true, Bool.not_false, Bool.not_not, ieq_t, ieq_f, ine_t, ine_f, true_and, and_true, andT_l]
    · have hw : IntKind.i64.wrap (((8 + 16 * k : Nat) : Int) + 16) = ((8 + 16 * (k + 1) : Nat) : Int) := by rw [w64 (by omega) (by omega)]; omega
      rw [hw, Int.toNat_natCast, Int.toNat_natCast]
      have hl : (cutL c (8 + 16 * k) (8 + 16 * (k + 1))).length = 16 := by rw [cutL_len (by omega)]; omega
      have ih := sgR_ok (fin := fin) hc hN m (k + 1) (by omega) (by omega)
      rw [sgL_succ, show 24 + 16 * k = 8 + 16 * (k + 1) by omega] at ih
      rw [A16_eq hl, ih]
      simp (disch := omega) only [dec_t, dec_f, inB_t, inC_t, andT_t, cond_true, cond_false, Bool.and_true, Bool.true_and, w64, wu32, wu8, nble_t, nblt_t, Bool.not_true, Bool.not_false, Bool.not_not, ieq_t, ieq_f, ine_t, ine_f, true_and, and_true, andT_l]
theorem sgL_len (b : List UInt8) (n : Nat) : (sgL b n).length = n := by simp [sgL]
theorem shL_hi (b : List UInt8) : 8 ≤ shL b ∧ shL b ≤ 2048 := by
  have := gt_lo b 1; have := gt_hi b 1
  unfold shL; omega
theorem shN_hi (b : List UInt8) : 1 ≤ shN b ∧ shN b ≤ 256 := by
  have := gt_lo b 4; have := gt_hi b 4
  unfold shN; omega
theorem pLn_eq (b : List UInt8) : pLn b = ((shL b : Nat) : Int) := by
  have := gt_lo b 1; have := gt_hi b 1
  unfold pLn shL
  simp (disch := omega) only [w64]
  omega
theorem pN_eq (b : List UInt8) : pN b = ((shN b : Nat) : Int) := by
  have := gt_lo b 4; have := gt_hi b 4
  unfold pN shN
  simp (disch := omega) only [w64]
  omega
theorem pE_eq (b : List UInt8) : pE b = ((8 + 16 * shN b : Nat) : Int) := by
  have := shN_hi b
  unfold pE
  rw [pN_eq]
  simp (disch := omega) only [w64]
  omega
theorem shV_zero {b : List UInt8} (h : shE b = 0) : shV b = .tup [.agg [.int .i64 (gt b 0), .int .i64 (gt b 3), .int .i64 (gt b 5), .int .i64 (gt b 6 * 256 + gt b 7), .rows (.barr 16) (sgL b (shN b)), .rows (.agg [.int .i64, .bytes]) (paV (parse (shT b)))], .int .i64 (shL b), .int .i64 0] := by
  unfold shV
  rw [h]
  rfl
theorem srhParse_v (b : List UInt8) (hb : b.length ≤ 140737488355328) : callV Esrd af_srhParse [.bytes b] = some (shV b) := by
  rw [srhParse_t, pLn_eq, pN_eq, pE_eq, Int.toNat_natCast]
  have hL := shL_hi b
  have hN := shN_hi b
  by_cases c1 : b.length < 8
  · rw [← hE_eq (b := b) (e := 3) (by unfold shE; rw [if_pos c1]) (by decide)]
    simp (disch := omega) only [dec_t, dec_f, inB_t, inC_t, andT_t, cond_true, cond_false, Bool.and_true, Bool.true_and, w64, wu32, wu8, nble_t, nblt_t, Bool.not_true, Bool.not_false, Bool.not_not, ieq_t, ieq_f, ine_t, ine_f, true_and, and_true, andT_l]
  by_cases c2 : b.length < shL b
  · rw [← hE_eq (b := b) (e := 3) (by unfold shE; rw [if_neg c1, if_pos c2]) (by decide)]
    simp (disch := omega) only [dec_t, dec_f, inB_t, inC_t, andT_t, cond_true, cond_false, Bool.and_true, Bool.true_and, w64, wu32, wu8, nble_t, nblt_t, Bool.not_true, Bool.not_false, Bool.not_not, ieq_t, ieq_f, ine_t, ine_f, true_and, and_true, andT_l]
  by_cases c3 : gt b 2 ≠ 4
  · rw [← hE_eq (b := b) (e := 7) (by unfold shE; rw [if_neg c1, if_neg c2, if_pos c3]) (by decide)]
    simp (disch := omega) only [dec_t, dec_f, inB_t, inC_t, andT_t, cond_true, cond_false, Bool.and_true, Bool.true_and, w64, wu32, wu8, nble_t, nblt_t, Bool.not_true, Bool.not_false, Bool.not_not, ieq_t, ieq_f, ine_t, ine_f, true_and, and_true, andT_l]
  have c3' : gt b 2 = 4 := by simpa using c3
  by_cases c4 : 10 < shN b
  · rw [← hE_eq (b := b) (e := 8) (by unfold shE; rw [if_neg c1, if_neg c2, if_neg c3, if_pos c4]) (by decide)]
    simp (disch := omega) only [dec_t, dec_f, inB_t, inC_t, andT_t, cond_true, cond_false, Bool.and_true, Bool.true_and, w64, wu32, wu8, nble_t, nblt_t, Bool.not_true, Bool.not_false, Bool.not_not, ieq_t, ieq_f, ine_t, ine_f, true_and, and_true, andT_l]
  have hcl : (cutL b 0 (shL b)).length = shL b := by rw [cutL_len (by omega)]; omega
  by_cases c5 : shL b < 8 + 16 * shN b
  · rw [← hE_eq (b := b) (e := 5) (by unfold shE; rw [if_neg c1, if_neg c2, if_neg c3, if_neg c4, if_pos c5]) (by decide), hcl]
    simp (disch := omega) only [dec_t, dec_f, inB_t, inC_t, andT_t, cond_true, cond_false, Bool.and_true, Bool.true_and, w64, wu32, wu8, nble_t, nblt_t, Bool.not_true, Bool.not_false, Bool.not_not, ieq_t, ieq_f, ine_t, ine_f, true_and, and_true, andT_l]
  have e : sgR (cutL b 0 (shL b)) ((8 + 16 * shN b : Nat) : Int) (pF b (cutL b 0 (shL b)) ((8 + 16 * shN b : Nat) : Int)) 11 8 [] = pF b (cutL b 0 (shL b)) ((8 + 16 * shN b : Nat) : Int) (sgL (cutL b 0 (shL b)) (shN b)) :=
    sgR_ok (fin := pF b (cutL b 0 (shL b)) ((8 + 16 * shN b : Nat) : Int)) (c := cutL b 0 (shL b)) (N := shN b) (by omega) (by omega) 11 0 (by omega) (by omega)
  rw [e, sgL_cut (by omega)]
  have g0 := gt_lo b 0; have g0' := gt_hi b 0
  have g3 := gt_lo b 3; have g3' := gt_hi b 3
  have g5 := gt_lo b 5; have g5' := gt_hi b 5
  have ht : cutL (cutL b 0 (shL b)) (8 + 16 * shN b) (shL b) = shT b := cut_take (Nat.le_refl _)
  have htl : (shT b).length ≤ 2048 := by unfold shT; rw [length_cutL]; omega
  have hF : pF b (cutL b 0 (shL b)) ((8 + 16 * shN b : Nat) : Int) (sgL b (shN b)) = some (shV b) := by
    unfold pF
    rw [hcl, Int.toNat_natCast, Int.toNat_natCast, ht, sgL_len]
    by_cases c6 : (shN b : Int) ≤ gt b 3
    · rw [← hE_eq (b := b) (e := 5) (by unfold shE; rw [if_neg c1, if_neg c2, if_neg c3, if_neg c4, if_neg c5, if_pos c6]) (by decide)]
      simp (disch := omega) only [dec_t, dec_f, inB_t, inC_t, andT_t, cond_true, cond_false, Bool.and_true, Bool.true_and, w64, wu32, wu8, nble_t, nblt_t, Bool.not_true, Bool.not_false, Bool.not_not, ieq_t, ieq_f, ine_t, ine_f, true_and, and_true, andT_l]
    have hE0 : shE b = peI (parse (shT b)) := by unfold shE; rw [if_neg c1, if_neg c2, if_neg c3, if_neg c4, if_neg c5, if_neg c6]
    by_cases c7 : peI (parse (shT b)) = 0
    · rw [shV_zero (hE0.trans c7)]
      have hu : (u16 b 6).1 = gt b 6 * 256 + gt b 7 := by unfold u16; rw [if_pos (by omega)]; rfl
      rw [hu, pLn_eq, c7]
      simp (disch := omega) only [dec_t, dec_f, inB_t, inC_t, andT_t, cond_true, cond_false, Bool.and_true, Bool.true_and, w64, wu32, wu8, nble_t, nblt_t, Bool.not_true, Bool.not_false, Bool.not_not, ieq_t, ieq_f, ine_t, ine_f, true_and, and_true, andT_l]
    · rw [← hE_eq hE0 c7]
      simp (disch := omega) only [dec_t, dec_f, inB_t, inC_t, andT_t, cond_true, cond_false, Bool.and_true, Bool.true_and, w64, wu32, wu8, nble_t, nblt_t, Bool.not_true, Bool.not_false, Bool.not_not, ieq_t, ieq_f, ine_t, ine_f, true_and, and_true, andT_l]
  rw [hF]
  simp (disch := omega) only [dec_t, dec_f, inB_t, inC_t, andT_t, cond_true, cond_false, Bool.and_true, Bool.true_and, w64, wu32, wu8, nble_t, nblt_t, Bool.not_true, Bool.not_false, Bool.not_not, ieq_t, ieq_f, ine_t, ine_f, true_and, and_true, andT_l]
def cSrhParse : List V → Option (V × Bool)
  | [.bytes b] => some (.tup [.agg [.int .i64 (zI (shE b) (gt b 0)), .int .i64 (zI (shE b) (gt b 3)), .int .i64 (zI (shE b) (gt b 5)), .int .i64 (zI (shE b) (gt b 6 * 256 + gt b 7)), .rows (.barr 16) (zV (shE b) (sgL b (shN b))), .rows (.agg [.int .i64, .bytes]) (zV (shE b) (paV (parse (shT b))))], .int .i64 (zI (shE b) (shL b)), .int .i64 (shE b)], decide (b.length ≤ 140737488355328))
  | _ => none
theorem srhParse_con : ∀ vs v, cSrhParse vs = some (v, true) → SpecV Tryz.prog 117 vs v := by
  intro vs v h; unfold cSrhParse at h; split at h
  · rename_i b
    injection h with h; injection h with h hb; subst h
    exact callV_ok Esrd_ok af_srhParse_ok (srhParse_v b (of_decide_eq_true hb))
  · cases h
end Go.Proofs.YtfhljcbbgckdiaaGreat

namespace Go.Proofs.YtfhljcbbgckdiaaGreat
open Go Go.Am Go.RowKit Go.Mix Go.Bas
set_option maxRecDepth 100000
end Go.Proofs.YtfhljcbbgckdiaaGreat

namespace Go.Proofs.YtfhljcbbgckdiaaGreat
open Go Go.Am Go.RowKit Go.Mix Go.Bas
end Go.Proofs.YtfhljcbbgckdiaaGreat

namespace Go.Proofs.YtfhljcbbgckdiaaGreat
open Go Go.Am Go.RowKit Go.Mix Go.Bas
set_option maxRecDepth 100000
end Go.Proofs.YtfhljcbbgckdiaaGreat
