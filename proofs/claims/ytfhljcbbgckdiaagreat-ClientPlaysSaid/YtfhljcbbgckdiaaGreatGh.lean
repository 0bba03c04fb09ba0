/- Part Gh of the proof: laws used by the law of this claim. -/
import Derived.Test.YtfhljcbbgckdiaaGreatProg
import Derived.Test.YtfhljcbbgckdiaaGreatGg
import Derived.Test.YtfhljcbbgckdiaaGreatGf
set_option linter.all false
namespace Go.Proofs.YtfhljcbbgckdiaaGreat
open Go Go.Am Go.RowKit Go.Mix Go.Bas
set_option maxRecDepth 100000
noncomputable def af_wHas : AF := afOf Tryz.prog Tryz.f146 []
theorem af_wHas_ok : AllOk Tryz.prog 146 af_wHas := .flat Tryz.func146 (by kernel_rfl) (by kernel_rfl) (by kernel_rfl) (by kernel_rfl) (by kernel_rfl)
def srC (nx lf fl tg : Int) (s t : List V) : Int := if (0 ≤ nx ∧ nx ≤ 255) ∧ (0 ≤ lf ∧ lf ≤ 255) ∧ (0 ≤ fl ∧ fl ≤ 255) ∧ (0 ≤ tg ∧ tg ≤ 65535) then (if s.length < 1 ∨ 10 < s.length then 8 else if (s.length : Int) ≤ lf then 5 else can 256 (tls t)) else 2
structure Hd where
 (nx lf fl tg : Int)
 (s t : List V)
def Hd.v (h : Hd) : V := .agg [.int .i64 h.nx, .int .i64 h.lf, .int .i64 h.fl, .int .i64 h.tg, .rows (.barr 16) h.s, .rows (.agg [.int .i64, .bytes]) h.t]
def segB (v : V) : List UInt8 := cutL (toA v) 0 16
def sgf (f : V → List UInt8) : List V → List UInt8
 | [] => []
 | v :: r => f v ++ sgf f r
def sgs (l : List V) : List UInt8 := sgf segB l
def h6 (h : Hd) (q : Int) : List UInt8 := [u8 (IntKind.u8.wrap h.nx), u8 (IntKind.u8.wrap q), u8 4, u8 (IntKind.u8.wrap h.lf), u8 (IntKind.u8.wrap (IntKind.i64.wrap ((h.s.length : Int) - 1))), u8 (IntKind.u8.wrap h.fl)]
def t2 (tg : Int) : List UInt8 := [u8 (gt [u8 (IntKind.u8.wrap (tg.fdiv 256)), u8 (IntKind.u8.wrap tg)] 0), u8 (gt [u8 (IntKind.u8.wrap (tg.fdiv 256)), u8 (IntKind.u8.wrap tg)] 1)]
theorem u8_nat (x : UInt8) : u8 ((x.toNat : Nat) : Int) = x := by
 unfold u8
 simp
def hdB (h : Hd) : List UInt8 := [b8 h.nx, b8 (2 * (h.s.length : Int) + (putB (tls h.t)).length / 8), 4, b8 h.lf, b8 ((h.s.length : Int) - 1), b8 h.fl] ++ two h.tg
theorem tdv {a b : Int} (h : 0 ≤ a) : a.tdiv b = a / b := Int.tdiv_eq_ediv_of_nonneg h
def srP (h : Hd) : List UInt8 := if srC h.nx h.lf h.fl h.tg h.s h.t = 0 then hdB h ++ sgs h.s ++ putB (tls h.t) else []
noncomputable def af_srhSegment : AF := afOf Tryz.prog Tryz.f137 []
theorem af_srhSegment_ok : AllOk Tryz.prog 137 af_srhSegment := .flat Tryz.func137 (by kernel_rfl) (by kernel_rfl) (by kernel_rfl) (by kernel_rfl) (by kernel_rfl)
noncomputable def af_srhActive : AF := afOf Tryz.prog Tryz.f119 []
theorem af_srhActive_ok : AllOk Tryz.prog 119 af_srhActive := .flat Tryz.func119 (by kernel_rfl) (by kernel_rfl) (by kernel_rfl) (by kernel_rfl) (by kernel_rfl)
noncomputable def af_srhFinal : AF := afOf Tryz.prog Tryz.f118 []
theorem af_srhFinal_ok : AllOk Tryz.prog 118 af_srhFinal := .flat Tryz.func118 (by kernel_rfl) (by kernel_rfl) (by kernel_rfl) (by kernel_rfl) (by kernel_rfl)
def A16 (x : List UInt8) : List UInt8 := List.take 0 (List.replicate 16 0) ++ (List.take 16 x ++ List.drop (0 + min 16 x.length) (List.replicate 16 0))
def sgR {α : Type} (c : List UInt8) (e : Int) (fin : List V → Option α) : Nat → Int → List V → Option α
 | 0, _, _ => none
 | m + 1, a, l => bif decide (a < e) then bif andT true (Am.inC (IntKind.i64.wrap (a + 16)) c.length && Am.inC (IntKind.i64.wrap (a + 16)) (IntKind.i64.wrap (a + 16)).toNat && Am.inC a (IntKind.i64.wrap (a + 16)).toNat) && true then
   sgR c e fin m (IntKind.i64.wrap (a + 16)) (l ++ [.barr 16 (A16 (cutL c a.toNat (IntKind.i64.wrap (a + 16)).toNat))]) else none else fin l
noncomputable def af_wSegs : AF := afOf Tryz.prog Tryz.f135 [.unr 11]
theorem af_wSegs_ok : AllOk Tryz.prog 135 af_wSegs := .flat Tryz.func135 (by kernel_rfl) (by kernel_rfl) (by kernel_rfl) (by kernel_rfl) (by kernel_rfl)
noncomputable def af_srhParse : AF := afOf Tryz.prog Tryz.f117 []
theorem af_srhParse_ok : AllOk Tryz.prog 117 af_srhParse := .flat Tryz.func117 (by kernel_rfl) (by kernel_rfl) (by kernel_rfl) (by kernel_rfl) (by kernel_rfl)
noncomputable def GEsrd : List (Nat × Con) := [(114, .val [.bytes, .int .i64] cU16), (136, .val [.bytes] cTlvParse), (92, .val [.bytes] cTlvParse)]
theorem GEsrd_ok : GOk Tryz.prog GEsrd := .cons (enters_of Tryz.func114 (by kernel_rfl) rfl) U16_con <| .cons (enters_of Tryz.func136 (by kernel_rfl) rfl) tlvParse_con <| .cons (enters_of Tryz.func92 (by kernel_rfl) rfl) rTlvParse_con <| .nil
noncomputable def IEsrd : List (Nat × AF) := [(146, af_wHas), (135, af_wSegs)]
theorem IEsrd_ok : IOk Tryz.prog IEsrd := .cons af_wHas_ok <| .cons af_wSegs_ok <| .nil
noncomputable def CEsrd : List (Nat × (List Nat × (S → Option (Bool × Tr)))) := []
theorem CEsrd_ok : COk Tryz.prog CEsrd := .nil
noncomputable def XEsrd : List (Nat × (List Sh × (List V → PT))) := []
theorem XEsrd_ok : XOk Tryz.prog XEsrd := .nil
noncomputable def Esrd : Env := ⟨Tryz.prog, GEsrd, IEsrd, CEsrd, XEsrd, false⟩
theorem Esrd_ok : EnvOk Esrd := ⟨by kernel_rfl, GEsrd_ok, IEsrd_ok, CEsrd_ok, XEsrd_ok⟩
def pLn (b : List UInt8) : Int := IntKind.i64.wrap (8 * IntKind.i64.wrap (IntKind.i64.wrap (gt b 1) + 1))
def pN (b : List UInt8) : Int := IntKind.i64.wrap (IntKind.i64.wrap (gt b 4) + 1)
def pE (b : List UInt8) : Int := IntKind.i64.wrap (8 + IntKind.i64.wrap (16 * pN b))
def hE (e : Int) : Option V := some (.tup [.agg [.int .i64 0, .int .i64 0, .int .i64 0, .int .i64 0, .rows (.barr 16) [], .rows (.agg [.int .i64, .bytes]) []], .int .i64 0, .int .i64 e])
def pF (b c : List UInt8) (e : Int) (l : List V) : Option V :=
 bif andT true (Am.inC (c.length : Int) c.length && Am.inC (c.length : Int) (c.length : Int).toNat && Am.inC e (c.length : Int).toNat) then
  bif decide (IntKind.i64.wrap (gt b 3) ≥ 0) then bif !decide (IntKind.i64.wrap (gt b 3) < (l.length : Int)) then hE 5 else
   bif andT true (decide ((cutL c e.toNat (c.length : Int).toNat).length ≤ 1000000000)) then
    bif peI (parse (cutL c e.toNat (c.length : Int).toNat)) != 0 then hE (peI (parse (cutL c e.toNat (c.length : Int).toNat))) else
    some (.tup [.agg [.int .i64 (IntKind.i64.wrap (gt b 0)), .int .i64 (IntKind.i64.wrap (gt b 3)), .int .i64 (IntKind.i64.wrap (gt b 5)), .int .i64 (u16 b 6).1, .rows (.barr 16) l, .rows (.agg [.int .i64, .bytes]) (paV (parse (cutL c e.toNat (c.length : Int).toNat)))], .int .i64 (pLn b), .int .i64 0])
   else none
  else hE 5
 else none
theorem srhParse_t (b : List UInt8) : callV Esrd af_srhParse [.bytes b] =
 bif decide ((b.length : Int) < 8) then hE 3 else
 bif andT true (inB 1 b.length) then bif decide ((b.length : Int) < pLn b) then hE 3 else
 bif andT true (inB 2 b.length) then bif gt b 2 != 4 then hE 7 else
 bif andT (andT (andT true (inB 0 b.length)) (inB 3 b.length)) (inB 5 b.length) && true then
 bif andT (andT true (Am.inC (pLn b) b.length)) (inB 4 b.length) && true then
 bif decide (pN b > 10) then hE 8 else
 bif decide (pE b > ((cutL b 0 (pLn b).toNat).length : Int)) then hE 5 else
 sgR (cutL b 0 (pLn b).toNat) (pE b) (pF b (cutL b 0 (pLn b).toNat) (pE b)) 11 8 []
 else none
 else none
 else none
 else none := by kernel_rfl
def rdI (i : Int) (k : Nat) : Int := IntKind.i64.wrap (IntKind.i64.wrap (8 + IntKind.i64.wrap (16 * i)) + (k : Int))
def rdR {α : Type} (b : List UInt8) (fin : List UInt8 → Option α) : Nat → Nat → Int → List UInt8 → Option α
 | 0, _, _, acc => fin acc
 | m + 1, k, i, acc => bif andT true (inB (rdI i k) b.length) then rdR b fin m (k + 1) i (acc.set k (u8 (gt b (rdI i k).toNat))) else none
def sg2 {α : Type} (b : List UInt8) (n : Int) (fin : List V → Option α) : Nat → Int → List V → Option α
 | 0, _, _ => none
 | m + 1, i, l => bif decide (i < n) then rdR b (fun acc => sg2 b n fin m (IntKind.i64.wrap (i + 1)) (l ++ [.barr 16 acc])) 16 0 i (List.replicate 16 0) else fin l
def qLn (b : List UInt8) : Int := IntKind.i64.wrap (IntKind.i64.wrap (8 * IntKind.i64.wrap (gt b 1)) + 8)
def qF (b : List UInt8) (l : List V) : Option V :=
 some (.tup [.agg [.int .i64 (IntKind.i64.wrap (gt b 0)), .int .i64 (IntKind.i64.wrap (gt b 3)), .int .i64 (IntKind.i64.wrap (gt b 5)), .int .i64 (IntKind.i64.wrap (IntKind.i64.wrap (IntKind.i64.wrap (gt b 6) * 256) + IntKind.i64.wrap (gt b 7))), .rows (.barr 16) l, .rows (.agg [.int .i64, .bytes]) (paV (parse (cutL b (pE b).toNat (qLn b).toNat)))], .int .i64 (qLn b), .int .i64 0])
noncomputable def af_rSrhParse : AF := afOf Tryz.prog Tryz.f61 [.unr 17, .unr 11]
theorem af_rSrhParse_ok : AllOk Tryz.prog 61 af_rSrhParse := .flat Tryz.func61 (by kernel_rfl) (by kernel_rfl) (by kernel_rfl) (by kernel_rfl) (by kernel_rfl)
theorem rSrhParse_t (b : List UInt8) : callV Esrd af_rSrhParse [.bytes b] =
 bif decide ((b.length : Int) < 8) then hE 3 else
 bif andT true (inB 1 b.length) then bif decide ((b.length : Int) < qLn b) then hE 3 else
 bif andT true (inB 1 b.length) then bif andT true (inB 4 b.length) then bif andT true (inB 2 b.length) then bif gt b 2 != 4 then hE 7 else
 bif decide (pN b > 10) then hE 8 else bif decide (pE b > qLn b) then hE 5 else
 bif andT true (inB 3 b.length) then bif decide (IntKind.i64.wrap (gt b 3) ≥ pN b) then hE 5 else
 bif andT (andT true (Am.inC (pE b) (qLn b).toNat && Am.inC (qLn b) b.length)) (decide ((cutL b (pE b).toNat (qLn b).toNat).length ≤ 1000000000)) then
 bif peI (parse (cutL b (pE b).toNat (qLn b).toNat)) != 0 then hE (peI (parse (cutL b (pE b).toNat (qLn b).toNat))) else
 bif andT (andT (andT (andT (andT true (inB 0 b.length)) (inB 3 b.length)) (inB 5 b.length)) (inB 6 b.length)) (inB 7 b.length) && true then
 sg2 b (pN b) (qF b) 11 0 []
 else none
 else none
 else none
 else none else none else none
 else none := by kernel_rfl
def shN (b : List UInt8) : Nat := (gt b 4).toNat + 1
def shL (b : List UInt8) : Nat := 8 * ((gt b 1).toNat + 1)
def sgL (b : List UInt8) (n : Nat) : List V := (List.range n).map fun k => .barr 16 (cutL b (8 + 16 * k) (24 + 16 * k))
def shT (b : List UInt8) : List UInt8 := cutL b (8 + 16 * shN b) (shL b)
def shE (b : List UInt8) : Int := if b.length < 8 then 3 else if b.length < shL b then 3 else if gt b 2 ≠ 4 then 7 else if 10 < shN b then 8 else if shL b < 8 + 16 * shN b then 5 else if (shN b : Int) ≤ gt b 3 then 5 else peI (parse (shT b))
def zI (e x : Int) : Int := if e = 0 then x else 0
def zV (e : Int) (l : List V) : List V := if e = 0 then l else []
def shV (b : List UInt8) : V := .tup [.agg [.int .i64 (zI (shE b) (gt b 0)), .int .i64 (zI (shE b) (gt b 3)), .int .i64 (zI (shE b) (gt b 5)), .int .i64 (zI (shE b) (gt b 6 * 256 + gt b 7)), .rows (.barr 16) (zV (shE b) (sgL b (shN b))), .rows (.agg [.int .i64, .bytes]) (zV (shE b) (paV (parse (shT b))))], .int .i64 (zI (shE b) (shL b)), .int .i64 (shE b)]
theorem hE_eq {b : List UInt8} {e : Int} (he : shE b = e) (h0 : e ≠ 0) : hE e = some (shV b) := by
 unfold shV hE
 rw [he]
 simp only [zI, zV, if_neg h0]
theorem cut_take {l : List UInt8} {n i j : Nat} (h : j ≤ n) : cutL (cutL l 0 n) i j = cutL l i j := by
 rw [cutL_zero]
 unfold cutL
 rw [List.drop_take, List.take_take, Nat.min_eq_left (by omega)]
theorem A16_eq {x : List UInt8} (h : x.length = 16) : A16 x = x := by
 unfold A16
 rw [h, List.take_zero, List.nil_append, List.take_of_length_le (by omega)]
 simp
theorem sgL_succ (b : List UInt8) (k : Nat) : sgL b (k + 1) = sgL b k ++ [.barr 16 (cutL b (8 + 16 * k) (24 + 16 * k))] := by
 unfold sgL
 rw [List.range_succ, List.map_append]
 rfl
theorem sgL_cut {b : List UInt8} {L : Nat} : ∀ {n : Nat}, 8 + 16 * n ≤ L → sgL (cutL b 0 L) n = sgL b n
 | 0, _ => rfl
 | n + 1, h => by rw [sgL_succ, sgL_succ, sgL_cut (by omega), cut_take (by omega)]
theorem sgR_ok {α : Type} {fin : List V → Option α} {c : List UInt8} {N : Nat} (hc : 8 + 16 * N ≤ c.length) (hN : N ≤ 1000) : ∀ (m k : Nat), N - k < m → k ≤ N → sgR c ((8 + 16 * N : Nat) : Int) fin m ((8 + 16 * k : Nat) : Int) (sgL c k) = fin (sgL c N)
 | 0, k, h, _ => by omega
 | m + 1, k, h, hk => by
  unfold sgR
  by_cases he : k = N
  ·subst he
   simp (disch := omega) only [tre]
  ·have hw : IntKind.i64.wrap (((8 + 16 * k : Nat) : Int) + 16) = ((8 + 16 * (k + 1) : Nat) : Int) := by rw [w64 (by omega) (by omega)]; omega
   rw [hw, Int.toNat_natCast, Int.toNat_natCast]
   have hl : (cutL c (8 + 16 * k) (8 + 16 * (k + 1))).length = 16 := by rw [cutL_len (by omega)]; omega
   have ih := sgR_ok (fin := fin) hc hN m (k + 1) (by omega) (by omega)
   rw [sgL_succ, show 24 + 16 * k = 8 + 16 * (k + 1) by omega] at ih
   rw [A16_eq hl, ih]
   simp (disch := omega) only [tre]
theorem sgL_len (b : List UInt8) (n : Nat) : (sgL b n).length = n := by simp [sgL]
theorem shL_hi (b : List UInt8) : 8 ≤ shL b ∧ shL b ≤ 2048 := by
 have := gt_lo b 1; have := gt_hi b 1
 unfold shL; omega
theorem shN_hi (b : List UInt8) : 1 ≤ shN b ∧ shN b ≤ 256 := by
 have := gt_lo b 4; have := gt_hi b 4
 unfold shN; omega
theorem pLn_eq (b : List UInt8) : pLn b = ((shL b : Nat) : Int) := by
 have := gt_lo b 1; have := gt_hi b 1
 unfold pLn shL
 simp (disch := omega) only [w64]
 omega
theorem pN_eq (b : List UInt8) : pN b = ((shN b : Nat) : Int) := by
 have := gt_lo b 4; have := gt_hi b 4
 unfold pN shN
 simp (disch := omega) only [w64]
 omega
theorem pE_eq (b : List UInt8) : pE b = ((8 + 16 * shN b : Nat) : Int) := by
 have := shN_hi b
 unfold pE
 rw [pN_eq]
 simp (disch := omega) only [w64]
 omega
theorem shV_zero {b : List UInt8} (h : shE b = 0) : shV b = .tup [.agg [.int .i64 (gt b 0), .int .i64 (gt b 3), .int .i64 (gt b 5), .int .i64 (gt b 6 * 256 + gt b 7), .rows (.barr 16) (sgL b (shN b)), .rows (.agg [.int .i64, .bytes]) (paV (parse (shT b)))], .int .i64 (shL b), .int .i64 0] := by
 unfold shV
 rw [h]
 rfl
theorem srhParse_v (b : List UInt8) (hb : b.length ≤ 140737488355328) : callV Esrd af_srhParse [.bytes b] = some (shV b) := by
 rw [srhParse_t, pLn_eq, pN_eq, pE_eq, Int.toNat_natCast]
 have hL := shL_hi b
 have hN := shN_hi b
 by_cases c1 : b.length < 8
 ·rw [← hE_eq (b := b) (e := 3) (by unfold shE; rw [if_pos c1]) (by decide)]
  simp (disch := omega) only [tre]
 by_cases c2 : b.length < shL b
 ·rw [← hE_eq (b := b) (e := 3) (by unfold shE; rw [if_neg c1, if_pos c2]) (by decide)]
  simp (disch := omega) only [tre]
 by_cases c3 : gt b 2 ≠ 4
 ·rw [← hE_eq (b := b) (e := 7) (by unfold shE; rw [if_neg c1, if_neg c2, if_pos c3]) (by decide)]
  simp (disch := omega) only [tre]
 have c3' : gt b 2 = 4 := by simpa using c3
 by_cases c4 : 10 < shN b
 ·rw [← hE_eq (b := b) (e := 8) (by unfold shE; rw [if_neg c1, if_neg c2, if_neg c3, if_pos c4]) (by decide)]
  simp (disch := omega) only [tre]
 have hcl : (cutL b 0 (shL b)).length = shL b := by rw [cutL_len (by omega)]; omega
 by_cases c5 : shL b < 8 + 16 * shN b
 ·rw [← hE_eq (b := b) (e := 5) (by unfold shE; rw [if_neg c1, if_neg c2, if_neg c3, if_neg c4, if_pos c5]) (by decide), hcl]
  simp (disch := omega) only [tre]
 have e : sgR (cutL b 0 (shL b)) ((8 + 16 * shN b : Nat) : Int) (pF b (cutL b 0 (shL b)) ((8 + 16 * shN b : Nat) : Int)) 11 8 [] = pF b (cutL b 0 (shL b)) ((8 + 16 * shN b : Nat) : Int) (sgL (cutL b 0 (shL b)) (shN b)) :=
  sgR_ok (fin := pF b (cutL b 0 (shL b)) ((8 + 16 * shN b : Nat) : Int)) (c := cutL b 0 (shL b)) (N := shN b) (by omega) (by omega) 11 0 (by omega) (by omega)
 rw [e, sgL_cut (by omega)]
 have g0 := gt_lo b 0; have g0' := gt_hi b 0
 have g3 := gt_lo b 3; have g3' := gt_hi b 3
 have g5 := gt_lo b 5; have g5' := gt_hi b 5
 have ht : cutL (cutL b 0 (shL b)) (8 + 16 * shN b) (shL b) = shT b := cut_take (Nat.le_refl _)
 have htl : (shT b).length ≤ 2048 := by unfold shT; rw [length_cutL]; omega
 have hF : pF b (cutL b 0 (shL b)) ((8 + 16 * shN b : Nat) : Int) (sgL b (shN b)) = some (shV b) := by
  unfold pF
  rw [hcl, Int.toNat_natCast, Int.toNat_natCast, ht, sgL_len]
  by_cases c6 : (shN b : Int) ≤ gt b 3
  ·rw [← hE_eq (b := b) (e := 5) (by unfold shE; rw [if_neg c1, if_neg c2, if_neg c3, if_neg c4, if_neg c5, if_pos c6]) (by decide)]
   simp (disch := omega) only [tre]
  have hE0 : shE b = peI (parse (shT b)) := by unfold shE; rw [if_neg c1, if_neg c2, if_neg c3, if_neg c4, if_neg c5, if_neg c6]
  by_cases c7 : peI (parse (shT b)) = 0
  ·rw [shV_zero (hE0.trans c7)]
   have hu : (u16 b 6).1 = gt b 6 * 256 + gt b 7 := by unfold u16; rw [if_pos (by omega)]; rfl
   rw [hu, pLn_eq, c7]
   simp (disch := omega) only [tre]
  ·rw [← hE_eq hE0 c7]
   simp (disch := omega) only [tre]
 rw [hF]
 simp (disch := omega) only [tre]
def cSrhParse : List V → Option (V × Bool)
 | [.bytes b] => some (.tup [.agg [.int .i64 (zI (shE b) (gt b 0)), .int .i64 (zI (shE b) (gt b 3)), .int .i64 (zI (shE b) (gt b 5)), .int .i64 (zI (shE b) (gt b 6 * 256 + gt b 7)), .rows (.barr 16) (zV (shE b) (sgL b (shN b))), .rows (.agg [.int .i64, .bytes]) (zV (shE b) (paV (parse (shT b))))], .int .i64 (zI (shE b) (shL b)), .int .i64 (shE b)], decide (b.length ≤ 140737488355328))
 | _ => none
theorem srhParse_con : ∀ vs v, cSrhParse vs = some (v, true) → SpecV Tryz.prog 117 vs v := by
 intro vs v h; unfold cSrhParse at h; split at h
 ·rename_i b
  injection h with h; injection h with h hb; subst h
  exact callV_ok Esrd_ok af_srhParse_ok (srhParse_v b (of_decide_eq_true hb))
 ·cases h
theorem rdI_eq {i k : Nat} (hi : i ≤ 1000) (hk : k ≤ 16) : rdI (i : Int) k = ((8 + 16 * i + k : Nat) : Int) := by
 unfold rdI
 simp (disch := omega) only [w64]
 omega
def rdS (b : List UInt8) (base : Nat) : Nat → Nat → List UInt8 → List UInt8
 | 0, _, acc => acc
 | m + 1, k, acc => rdS b base m (k + 1) (acc.set k (u8 (gt b (base + k))))
theorem rdR_ok {α : Type} {b : List UInt8} {fin : List UInt8 → Option α} {i : Nat} (hi : i ≤ 1000) : ∀ (m k : Nat) (acc : List UInt8), 8 + 16 * i + k + m ≤ b.length → k + m ≤ 16 → rdR b fin m k (i : Int) acc = fin (rdS b (8 + 16 * i) m k acc)
 | 0, k, acc, _, _ => rfl
 | m + 1, k, acc, h, hk => by
  unfold rdR rdS
  rw [rdI_eq hi (by omega), Int.toNat_natCast, rdR_ok hi m (k + 1) _ (by omega) (by omega)]
  simp (disch := omega) only [tre]
theorem rdS_full (b : List UInt8) (base : Nat) : rdS b base 16 0 (List.replicate 16 0) = (List.range 16).map fun j => u8 (gt b (base + j)) := rfl
theorem cut_full {b : List UInt8} {base : Nat} (h : base + 16 ≤ b.length) : ((List.range 16).map fun j => u8 (gt b (base + j))) = cutL b base (base + 16) := by
 have hl : (cutL b base (base + 16)).length = 16 := by rw [cutL_len (by omega)]; omega
 apply List.ext_getElem
 ·simp [hl]
 ·intro i h1 h2
  simp only [List.length_map, List.length_range] at h1
  simp only [List.getElem_map, List.getElem_range]
  rw [gt_of_lt (by omega), u8_nat]
  simp [cutL]
theorem sg2_ok {α : Type} {fin : List V → Option α} {b : List UInt8} {N : Nat} (hb : 8 + 16 * N ≤ b.length) (hN : N ≤ 1000) : ∀ (m k : Nat), N - k < m → k ≤ N → sg2 b ((N : Nat) : Int) fin m ((k : Nat) : Int) (sgL b k) = fin (sgL b N)
 | 0, k, h, _ => by omega
 | m + 1, k, h, hk => by
  unfold sg2
  by_cases he : k = N
  ·subst he
   simp (disch := omega) only [tre]
  ·have hw : IntKind.i64.wrap ((k : Int) + 1) = ((k + 1 : Nat) : Int) := by rw [w64 (by omega) (by omega)]; omega
   have ih := sg2_ok (fin := fin) hb hN m (k + 1) (by omega) (by omega)
   rw [sgL_succ, show 24 + 16 * k = 8 + 16 * k + 16 by omega] at ih
   rw [rdR_ok (by omega) 16 0 _ (by omega) (by omega), rdS_full, cut_full (by omega), hw, ih]
   simp (disch := omega) only [tre]
theorem qLn_eq (b : List UInt8) : qLn b = ((shL b : Nat) : Int) := by
 have := gt_lo b 1; have := gt_hi b 1
 unfold qLn shL
 simp (disch := omega) only [w64]
 omega
theorem rSrhParse_v (b : List UInt8) (hb : b.length ≤ 140737488355328) : callV Esrd af_rSrhParse [.bytes b] = some (shV b) := by
 rw [rSrhParse_t, qLn_eq, pN_eq, pE_eq, Int.toNat_natCast, Int.toNat_natCast]
 have hL := shL_hi b
 have hN := shN_hi b
 by_cases c1 : b.length < 8
 ·rw [← hE_eq (b := b) (e := 3) (by unfold shE; rw [if_pos c1]) (by decide)]
  simp (disch := omega) only [tre]
 by_cases c2 : b.length < shL b
 ·rw [← hE_eq (b := b) (e := 3) (by unfold shE; rw [if_neg c1, if_pos c2]) (by decide)]
  simp (disch := omega) only [tre]
 by_cases c3 : gt b 2 ≠ 4
 ·rw [← hE_eq (b := b) (e := 7) (by unfold shE; rw [if_neg c1, if_neg c2, if_pos c3]) (by decide)]
  simp (disch := omega) only [tre]
 have c3' : gt b 2 = 4 := by simpa using c3
 by_cases c4 : 10 < shN b
 ·rw [← hE_eq (b := b) (e := 8) (by unfold shE; rw [if_neg c1, if_neg c2, if_neg c3, if_pos c4]) (by decide)]
  simp (disch := omega) only [tre]
 by_cases c5 : shL b < 8 + 16 * shN b
 ·rw [← hE_eq (b := b) (e := 5) (by unfold shE; rw [if_neg c1, if_neg c2, if_neg c3, if_neg c4, if_pos c5]) (by decide)]
  simp (disch := omega) only [tre]
 have g3 := gt_lo b 3; have g3' := gt_hi b 3
 by_cases c6 : (shN b : Int) ≤ gt b 3
 ·rw [← hE_eq (b := b) (e := 5) (by unfold shE; rw [if_neg c1, if_neg c2, if_neg c3, if_neg c4, if_neg c5, if_pos c6]) (by decide)]
  simp (disch := omega) only [tre]
 have hE0 : shE b = peI (parse (shT b)) := by unfold shE; rw [if_neg c1, if_neg c2, if_neg c3, if_neg c4, if_neg c5, if_neg c6]
 have htl : (shT b).length ≤ 2048 := by unfold shT; rw [length_cutL]; omega
 rw [show cutL b (8 + 16 * shN b) (shL b) = shT b from rfl]
 by_cases c7 : peI (parse (shT b)) = 0
 ·have e : sg2 b ((shN b : Nat) : Int) (qF b) 11 0 [] = qF b (sgL b (shN b)) := sg2_ok (fin := qF b) (b := b) (N := shN b) (by omega) (by omega) 11 0 (by omega) (by omega)
  have g0 := gt_lo b 0; have g0' := gt_hi b 0
  have g5 := gt_lo b 5; have g5' := gt_hi b 5
  have g6 := gt_lo b 6; have g6' := gt_hi b 6
  have g7 := gt_lo b 7; have g7' := gt_hi b 7
  have hF : qF b (sgL b (shN b)) = some (shV b) := by
   rw [shV_zero (hE0.trans c7)]
   unfold qF
   rw [qLn_eq, pE_eq, Int.toNat_natCast, Int.toNat_natCast]
   simp (disch := omega) only [w64]
   rfl
  rw [e, hF, c7]
  simp (disch := omega) only [tre]
 ·rw [← hE_eq hE0 c7]
  simp (disch := omega) only [tre]
theorem rSrhParse_con : ∀ vs v, cSrhParse vs = some (v, true) → SpecV Tryz.prog 61 vs v := by
 intro vs v h; unfold cSrhParse at h; split at h
 ·rename_i b
  injection h with h; injection h with h hb; subst h
  exact callV_ok Esrd_ok af_rSrhParse_ok (rSrhParse_v b (of_decide_eq_true hb))
 ·cases h
end Go.Proofs.YtfhljcbbgckdiaaGreat
namespace Go.Proofs.YtfhljcbbgckdiaaGreat
open Go Go.Am Go.RowKit Go.Mix Go.Bas
end Go.Proofs.YtfhljcbbgckdiaaGreat
namespace Go.Proofs.YtfhljcbbgckdiaaGreat
open Go Go.Am Go.RowKit Go.Mix Go.Bas
set_option maxRecDepth 100000
end Go.Proofs.YtfhljcbbgckdiaaGreat