/- Part Gx of the proof: laws used by the law of this claim. -/
import Derived.Test.YtbojofchpnfnlaaGq
set_option linter.all false
namespace Go.Proofs.Ytbojofchpnfnlaa
open Go Go.Am Go.RowKit Go.Mix Go.Bas
set_option maxRecDepth 100000
/-- a segment of a header -/
def sgAt (s : List V) (i : Int) : List UInt8 := if 0 ≤ i ∧ i < s.length then toA (s.getD i.toNat .undef) else List.replicate 16 0
/-- the last header -/
def luK (l : List V) : Int := toI ((toG (l.getD (l.length - 1) .undef)).headD .undef)
def luA (l : List V) : Int := toI ((toG (l.getD (l.length - 1) .undef)).tail.headD .undef)
structure Pq where
  (h : H6)
  (r : Bool)
  (sn sl sf sg : Int)
  (ss sp : List V)
  (fin : List UInt8)
  (k : Int)
  (t : Tc)
  (mk_ mc mw : Int)
  (mb body : List UInt8)
/-- a packet -/
def pqV (p : Pq) : V := .agg [p.h.v, .bool p.r, .agg [.int .i64 p.sn, .int .i64 p.sl, .int .i64 p.sf, .int .i64 p.sg, .rows (.barr 16) p.ss, .rows (.agg [.int .i64, .bytes]) p.sp], .barr 16 p.fin, .int .i64 p.k, p.t.v, .agg [.int .i64 p.mk_, .int .i64 p.mc, .int .u32 p.mw, .bytes p.mb], .bytes p.body]
def pq0 : Pq := ⟨⟨0, 0, 0, 0, 0, List.replicate 16 0, List.replicate 16 0⟩, false, 0, 0, 0, 0, [], [], List.replicate 16 0, 0, ⟨0, 0, 0, 0, 0, 0, 0, 0, [], []⟩, 0, 0, 0, [], []⟩
def pkR (e : Int) : V := .tup [pqV pq0, .int .i64 e]
/-! ### what it comes to -/
def pqL (b : List UInt8) : List V := wkV b (gNx b) 40
def pqU (b : List UInt8) : List UInt8 := b.drop (luA (pqL b)).toNat
def pqTl (b : List UInt8) : List UInt8 := b.drop 40
def pqRt (b : List UInt8) : Bool := hrRt false (pqL b) 0
def pqF (b : List UInt8) : List UInt8 := if pqRt b = true then sgAt (sS (pqTl b)) 0 else gD b
/-- the error of the headers -/
def pqE1 (b : List UInt8) : Int :=
  if 1500 < b.length then 4 else if gE b ≠ 0 then gE b else if gLn b ≠ (b.length : Int) - 40 then 5 else if wkE b (gNx b) 40 ≠ 0 then wkE b (gNx b) 40 else
  if hrBad (pqL b) 0 = true then 7 else if pqRt b = true then (if shE (pqTl b) ≠ 0 then shE (pqTl b) else if sgAt (sS (pqTl b)) (sL (pqTl b)) ≠ gD b then 5 else 0) else 0
/-- the error of an upper part -/
def upE (s d : List UInt8) (k : Int) (u : List UInt8) : Int := if k = 6 then (if tpE u ≠ 0 then tpE u else if both s d 6 u = 65535 then 0 else 6) else if k = 58 then ipE s d u else 7
def pqE (b : List UInt8) : Int := if pqE1 b ≠ 0 then pqE1 b else upE (gS b) (pqF b) (luK (pqL b)) (pqU b)
def rI (r : Bool) (x : Int) : Int := if r = true then x else 0
def rV (r : Bool) (x : List V) : List V := if r = true then x else []
def kI (k j : Int) (x : Int) : Int := if k = j then x else 0
def kL (k j : Int) (x : List UInt8) : List UInt8 := if k = j then x else []
def kT (k : Int) (t : Tc) : Tc := if k = 6 then t else tc0
def pqY (b : List UInt8) : Pq :=
  ⟨⟨gC b, gLa b, gLn b, gNx b, gHp b, gS b, gD b⟩, pqRt b, rI (pqRt b) (sN (pqTl b)), rI (pqRt b) (sL (pqTl b)), rI (pqRt b) (sF (pqTl b)), rI (pqRt b) (sT (pqTl b)), rV (pqRt b) (sS (pqTl b)), rV (pqRt b) (sP (pqTl b)), pqF b, luK (pqL b), kT (luK (pqL b)) (tpXX (pqU b)),
    kI (luK (pqL b)) 58 (gt (pqU b) 0), kI (luK (pqL b)) 58 (gt (pqU b) 1), kI (luK (pqL b)) 58 (be32 (pqU b) 4), kL (luK (pqL b)) 58 ((pqU b).drop 8), pqU b⟩
def pqX (b : List UInt8) : Pq := if pqE b = 0 then pqY b else pq0
theorem wkR_last : ∀ (k : Nat) (b : List UInt8) (nx a j : Int), 0 ≤ a → a ≤ b.length → (wkR k b nx a j).1 = 0 → 0 < (wkR k b nx a j).2.length ∧ a ≤ luA (wkR k b nx a j).2 ∧ luA (wkR k b nx a j).2 ≤ b.length
  | 0, _, _, _, _, _, _, h => by cases h
  | k + 1, b, nx, a, j, h0, h1, h => by
    have ih := wkR_last k b (gt b a.toNat) (a + wkN b a) (j + 1)
    have e : wkR (k + 1) b nx a j = if wkM nx j = 0 then (if wkX nx then (if wkS b a then (3, []) else (if (wkR k b (gt b a.toNat) (a + wkN b a) (j + 1)).1 = 0 then (0, pt nx a (wkN b a) :: (wkR k b (gt b a.toNat) (a + wkN b a) (j + 1)).2) else ((wkR k b (gt b a.toNat) (a + wkN b a) (j + 1)).1, []))) else (0, [pt nx a (b.length - a)])) else (wkM nx j, []) := rfl
    rw [e] at h ⊢
    by_cases c1 : wkM nx j = 0
    · rw [if_pos c1] at h ⊢
      by_cases c2 : wkX nx = true
      · rw [if_pos c2] at h ⊢
        by_cases c3 : wkS b a = true
        · rw [if_pos c3] at h; cases h
        · rw [if_neg c3] at h ⊢
          by_cases c4 : (wkR k b (gt b a.toNat) (a + wkN b a) (j + 1)).1 = 0
          · rw [if_pos c4] at h ⊢
            obtain ⟨n1, n2⟩ := wkS_n h0 (by simpa using c3)
            obtain ⟨i1, i2, i3⟩ := ih (by omega) n2 c4
            generalize (wkR k b (gt b a.toNat) (a + wkN b a) (j + 1)).2 = l at *
            cases l with
            | nil => cases i1
            | cons v l =>
              have e2 : luA (pt nx a (wkN b a) :: v :: l) = luA (v :: l) := by
                unfold luA
                rw [show (pt nx a (wkN b a) :: v :: l).length - 1 = (v :: l).length - 1 + 1 by simp, List.getD_cons_succ]
              rw [e2]
              exact ⟨by simp, by omega, i3⟩
          · rw [if_neg c4] at h; exact absurd h c4
      · rw [if_neg c2] at h ⊢
        exact ⟨by simp, Int.le_refl _, h1⟩
    · rw [if_neg c1] at h
      exact absurd h c1
theorem pqL_len (b : List UInt8) : (pqL b).length ≤ 10 := by
  unfold pqL wkV
  split
  · exact wkR_len _ _ _ _ _
  · exact Nat.zero_le _
theorem pqL_last {b : List UInt8} (h : wkE b (gNx b) 40 = 0) : 0 < (pqL b).length ∧ 40 ≤ luA (pqL b) ∧ luA (pqL b) ≤ b.length := by
  unfold wkE at h
  by_cases c : (0 : Int) ≤ 40 ∧ (40 : Int) ≤ b.length
  · rw [if_pos c] at h
    have := wkR_last 10 b (gNx b) 40 0 c.1 c.2 h
    unfold pqL wkV
    rw [if_pos ⟨c.1, c.2, h⟩]
    exact this
  · rw [if_neg c] at h; cases h
end Go.Proofs.Ytbojofchpnfnlaa

namespace Go.Proofs.Ytbojofchpnfnlaa
open Go Go.Am Go.RowKit Go.Mix Go.Bas
set_option maxRecDepth 100000
def pkY (h : H6) (fin : List UInt8) : V := .agg [h.v, .bool false, .agg [.int .i64 0, .int .i64 0, .int .i64 0, .int .i64 0, .nils, .nils], .barr 16 fin, .int .i64 0, .agg [.int .i64 0, .int .i64 0, .int .u32 0, .int .u32 0, .int .i64 0, .int .i64 0, .int .i64 0, .int .i64 0, .nils, .nils], .agg [.int .i64 0, .int .i64 0, .int .u32 0, .nils], .nils]
def h60 : H6 := ⟨0, 0, 0, 0, 0, List.replicate 16 0, List.replicate 16 0⟩
def rrW (h : H6) (fin : List UInt8) (l : List V) : List (Nat × Option Blk) := [(0, some (.row 120 shP (.rows shP l))), (1, some (.var shPk (pkY h fin))), (2, some (.var shPk (pkY h60 (List.replicate 16 0))))]
def rrS (h : H6) (fin : List UInt8) (l : List V) (b : List UInt8) (i : Int) : S := ⟨[(2, .own 0 l.length shP), (8, .int .i64 i), (3, .ref 1 [] 0 shPk), (6, .ref 2 [] 0 shPk), (1, .bytes b)], rrW h fin l, 3, true, 66⟩
def rrX (h : H6) (fin : List UInt8) (l : List V) (b : List UInt8) : S := ⟨[(2, .own 0 l.length shP), (3, .ref 1 [] 0 shPk), (6, .ref 2 [] 0 shPk), (1, .bytes b)], rrW h fin l, 3, true, 66⟩
def rrR (h : H6) (fin : List UInt8) (l : List V) : S := ⟨[(2, .own 0 l.length shP), (6, .ref 1 [] 0 shPk), (7, .int .i64 7)], [(0, some (.row 120 shP (.rows shP l))), (1, some (.var shPk (pkY h fin)))], 2, true, 66⟩
structure RrI where
  (h : H6)
  (fin : List UInt8)
  (l : List V)
  (b : List UInt8)
  (i : Int)
def rrGet (s : S) : RrI := ⟨h6Of (aG (bkD s 1) 0), toA (aG (bkD s 1) 3), toR (bkD s 0), toL (lkD s 1), toI (lkD s 8)⟩
def rrI (x : RrI) : Prop := 1 ≤ x.i ∧ x.l.length ≤ 1000 ∧ x.i ≤ 1000
def rrO (x : RrI) : Tr := .br (hrBad x.l x.i.toNat) (.leaf .ret (rrR x.h x.fin x.l)) (.leaf (.exit 0) (rrX x.h x.fin x.l x.b))
noncomputable def rrG : S → Option (Bool × Tr) := gX rrGet (fun x => rrS x.h x.fin x.l x.b x.i) rrI rrO
noncomputable def af_rPkRout : AF := afOf Try.prog Try.f99 [.sum [2, 8, 3, 6, 1] [0] rrG]
noncomputable def rrC : AC := (af_rPkRout.ac.sums.headD (.skip, [], [], fun _ => none)).1
theorem rr_b (h : H6) (fin : List UInt8) (l : List V) (b : List UInt8) (i : Int) : aev Epke (inlN Epke 6) rrC (bodyF (Am.ways [2, 8, 3, 6, 1] [2, 3, 6, 1] [2, 6, 7]) [0]) (rrS h fin l b i) =
 bif decide (i < (l.length : Int)) then bif andT true (Am.inB i l.length) then
 bif kdP (l.getD i.toNat .undef) == 43 then some (.ret, rrR h fin l) else some (.normal, rrS h fin l b (IntKind.i64.wrap (i + 1)))
 else none else some (.exit 0, rrX h fin l b) := by kernel_rfl
theorem rr_loop : LoopOk Try.prog rrC.erase [0] rrG := by
  refine loopX_ok Epke_ok (d := 6) (AC.flat_ok (by kernel_rfl)) (Am.ways [2, 8, 3, 6, 1] [2, 3, 6, 1] [2, 6, 7]) [0] rrGet _ rrO rrI (fun x => (1001 - x.i).toNat) (fun _ => rfl) ?_
  rintro ⟨h, fin, l, b, i⟩ ⟨h0, hM, h1⟩
  simp only at h0 h1 hM ⊢
  rw [rr_b]
  by_cases hi : i < l.length
  · have hk : i.toNat < l.length := by omega
    have hn := hrBad_n hk
    rw [show decide (0 < i.toNat) = true from decide_eq_true (by omega), Bool.true_and] at hn
    by_cases h43 : kdP (l.getD i.toNat .undef) = 43
    · rw [h43] at hn
      refine .inr ⟨.ret, rrR h fin l, ?_, nofun, leaf_t (by rw [hn]; rfl) .leaf⟩
      rw [h43]
      simp (disch := omega) only [dec_t, dec_f, inB_t, inC_t, andT_t, cond_true, cond_false, Bool.and_true, Bool.true_and, w64, wu32, wu8, nble_t, nblt_t, Bool.not_true, Bool.not_false, Bool.not_not, ieq_t, ieq_f, ine_t, ine_f, true_and, and_true, andT_l]
    · rw [ieq_f h43, Bool.false_or] at hn
      refine .inl ⟨⟨h, fin, l, b, i + 1⟩, ?_, ⟨by dsimp only; omega, hM, by dsimp only; omega⟩, by dsimp only; omega, leaf_eq ?_⟩
      · rw [w64 (x := i + 1) (by omega) (by omega)]
        simp (disch := omega) only [dec_t, dec_f, inB_t, inC_t, andT_t, cond_true, cond_false, Bool.and_true, Bool.true_and, w64, wu32, wu8, nble_t, nblt_t, Bool.not_true, Bool.not_false, Bool.not_not, ieq_t, ieq_f, ine_t, ine_f, true_and, and_true, andT_l]
      · unfold rrO
        dsimp only
        rw [hn, show (i + 1).toNat = i.toNat + 1 by omega]
  · refine .inr ⟨.exit 0, rrX h fin l b, ?_, nofun, leaf_f (hrBad_e (by dsimp only; omega)) .leaf⟩
    simp (disch := omega) only [dec_t, dec_f, inB_t, inC_t, andT_t, cond_true, cond_false, Bool.and_true, Bool.true_and, w64, wu32, wu8, nble_t, nblt_t, Bool.not_true, Bool.not_false, Bool.not_not, ieq_t, ieq_f, ine_t, ine_f, true_and, and_true, andT_l]
theorem af_rPkRout_ok : AllOk Try.prog 99 af_rPkRout := .sums Try.func99 (by kernel_rfl) (by kernel_rfl) (by kernel_rfl) (by kernel_rfl) (sums_one (c := rrC) (ts := [2, 8, 3, 6, 1]) (by kernel_rfl) (by kernel_rfl) rr_loop)
def ptA (v : V) : Int := toI ((toG v).tail.headD .undef)
def bdX (b : List UInt8) (n : Int) : List UInt8 := List.replicate 0 0 ++ cutL b n.toNat b.length
def lsI (l : List V) : Nat := (IntKind.i64.wrap ((l.length : Int) - 1)).toNat
noncomputable def af_rPkParse : AF := afOf Try.prog Try.f44 []
theorem af_rPkParse_ok : AllOk Try.prog 44 af_rPkParse := .flat Try.func44 (by kernel_rfl) (by kernel_rfl) (by kernel_rfl) (by kernel_rfl) (by kernel_rfl)
noncomputable def GEpkg : List (Nat × Con) := [(42, .val [.bytes] cSxGet), (87, .val [.bytes, .int .i64, .int .i64, .int .i64] cRWk9), (94, .val [.bytes] cSrhPar2), (28, .val [.bytes] cTcpPar), (30, .val [.barr 16, .barr 16, .int .i64, .bytes] cFine), (100, .val [.barr 16, .barr 16, .bytes] cIParse)]
theorem GEpkg_ok : GOk Try.prog GEpkg := .cons (enters_of Try.func42 (by kernel_rfl) rfl) rSxGet_con <| .cons (enters_of Try.func87 (by kernel_rfl) rfl) rWk9_con <| .cons (enters_of Try.func94 (by kernel_rfl) rfl) rSrhPar2_con <| .cons (enters_of Try.func28 (by kernel_rfl) rfl) rTcpParse_con <| .cons (enters_of Try.func30 (by kernel_rfl) rfl) rFine_con <| .cons (enters_of Try.func100 (by kernel_rfl) rfl) rIParse_con <| .nil
noncomputable def IEpkg : List (Nat × AF) := [(99, af_rPkRout)]
theorem IEpkg_ok : IOk Try.prog IEpkg := .cons af_rPkRout_ok <| .nil
noncomputable def CEpkg : List (Nat × (List Nat × (S → Option S))) := []
theorem CEpkg_ok : COk Try.prog CEpkg := .nil
noncomputable def XEpkg : List (Nat × (List Sh × (List V → PT))) := []
theorem XEpkg_ok : XOk Try.prog XEpkg := .nil
noncomputable def Epkg : Env := ⟨Try.prog, GEpkg, IEpkg, CEpkg, XEpkg⟩
theorem Epkg_ok : EnvOk Epkg := ⟨by kernel_rfl, GEpkg_ok, IEpkg_ok, CEpkg_ok, XEpkg_ok⟩
theorem rPkParse_t (b : List UInt8) : callV Epkg af_rPkParse [.bytes b] =
 bif decide ((↑b.length : Int) > (1500 : Int)) then some (pkR (4 : Int))
 else
 bif gE b != (0 : Int) then some (pkR (gE b))
 else
 bif gLn b != IntKind.i64.wrap ((↑b.length : Int) - (40 : Int)) then some (pkR (5 : Int))
 else
 bif andT true (decide (b.length ≤ (140737488355328 : Nat) ∧ (0 : Int) ≤ (0 : Int) ∧ (0 : Int) ≤ (8 : Int))) then
 bif rwE b (gNx b) (40 : Int) (0 : Int) != (0 : Int) then some (pkR (rwE b (gNx b) (40 : Int) (0 : Int)))
 else
 bif
 okG
 (rrS { c := gC b, la := gLa b, ln := gLn b, nx := gNx b, hp := gHp b, s := gS b, d := gD b } (gD b)
 (rwV b (gNx b) (40 : Int) (0 : Int)) b (1 : Int) =
 rrS { c := gC b, la := gLa b, ln := gLn b, nx := gNx b, hp := gHp b, s := gS b, d := gD b } (gD b)
 (rwV b (gNx b) (40 : Int) (0 : Int)) b (1 : Int) ∧
 (1 : Int) ≤ (1 : Int) ∧
 (rwV b (gNx b) (40 : Int) (0 : Int)).length ≤ (1000 : Nat) ∧ (1 : Int) ≤ (1000 : Int)) then
 bif hrBad (rwV b (gNx b) (40 : Int) (0 : Int)) (1 : Nat) then some (pkR (7 : Int))
 else
 bif andT true (Am.inB (0 : Int) (rwV b (gNx b) (40 : Int) (0 : Int)).length) then
 bif kdP ((rwV b (gNx b) (40 : Int) (0 : Int)).getD (0 : Nat) V.undef) != (43 : Int) then
 bif
 andT true
 (Am.inB (IntKind.i64.wrap ((↑(rwV b (gNx b) (40 : Int) (0 : Int)).length : Int) - (1 : Int)))
 (rwV b (gNx b) (40 : Int) (0 : Int)).length) then
 bif
 andT
 (andT true
 (Am.inC
 (ptA
 ((rwV b (gNx b) (40 : Int) (0 : Int)).getD
 (lsI (rwV b (gNx b) (40 : Int) (0 : Int))) V.undef))
 b.length))
 (((bdX b
 (ptA
 ((rwV b (gNx b) (40 : Int) (0 : Int)).getD
 (lsI (rwV b (gNx b) (40 : Int) (0 : Int))) V.undef))).length *
 (1 : Nat)).ble
 (140737488355328 : Nat)) &&
 true then
 bif
 kdP
 ((rwV b (gNx b) (40 : Int) (0 : Int)).getD (lsI (rwV b (gNx b) (40 : Int) (0 : Int)))
 V.undef) ==
 (6 : Int) then
 bif
 andT true
 (decide
 ((bdX b
 (ptA
 ((rwV b (gNx b) (40 : Int) (0 : Int)).getD
 (lsI (rwV b (gNx b) (40 : Int) (0 : Int))) V.undef))).length ≤
 (140737488355328 : Nat))) then
 bif
 tpE
 (bdX b
 (ptA
 ((rwV b (gNx b) (40 : Int) (0 : Int)).getD
 (lsI (rwV b (gNx b) (40 : Int) (0 : Int))) V.undef))) ==
 (0 : Int) then
 bif
 andT true
 (decide
 ((bdX b
 (ptA
 ((rwV b (gNx b) (40 : Int) (0 : Int)).getD
 (lsI (rwV b (gNx b) (40 : Int) (0 : Int))) V.undef))).length ≤
 (140737488355327 : Nat))) then
 bif
 !both (gS b) (gD b) (6 : Int)
 (bdX b
 (ptA
 ((rwV b (gNx b) (40 : Int) (0 : Int)).getD
 (lsI (rwV b (gNx b) (40 : Int) (0 : Int))) V.undef))) ==
 (65535 : Int) then
 some (pkR (6 : Int))
 else
 bif
 tpE
 (bdX b
 (ptA
 ((rwV b (gNx b) (40 : Int) (0 : Int)).getD
 (lsI (rwV b (gNx b) (40 : Int) (0 : Int))) V.undef))) !=
 (0 : Int) then
 some
 (pkR
 (tpE
 (bdX b
 (ptA
 ((rwV b (gNx b) (40 : Int) (0 : Int)).getD
 (lsI (rwV b (gNx b) (40 : Int) (0 : Int))) V.undef)))))
 else
 some
 (V.tup
 [pqV
 { h := { c := gC b, la := gLa b, ln := gLn b, nx := gNx b, hp := gHp b, s := gS b, d := gD b }, r := false, sn := (0 : Int), sl := (0 : Int), sf := (0 : Int), sg := (0 : Int), ss := [], sp := [], fin := gD b, k := kdP ((rwV b (gNx b) (40 : Int) (0 : Int)).getD (lsI (rwV b (gNx b) (40 : Int) (0 : Int))) V.undef), t := tpXX (bdX b (ptA ((rwV b (gNx b) (40 : Int) (0 : Int)).getD (lsI (rwV b (gNx b) (40 : Int) (0 : Int))) V.undef))), mk_ := (0 : Int), mc := (0 : Int), mw := (0 : Int), mb := [], body := bdX b (ptA ((rwV b (gNx b) (40 : Int) (0 : Int)).getD (lsI (rwV b (gNx b) (40 : Int) (0 : Int))) V.undef)) },
 V.int IntKind.i64 (0 : Int)])
 else none
 else
 bif
 tpE
 (bdX b
 (ptA
 ((rwV b (gNx b) (40 : Int) (0 : Int)).getD
 (lsI (rwV b (gNx b) (40 : Int) (0 : Int))) V.undef))) !=
 (0 : Int) then
 some
 (pkR
 (tpE
 (bdX b
 (ptA
 ((rwV b (gNx b) (40 : Int) (0 : Int)).getD
 (lsI (rwV b (gNx b) (40 : Int) (0 : Int))) V.undef)))))
 else
 some
 (V.tup
 [pqV
 { h := { c := gC b, la := gLa b, ln := gLn b, nx := gNx b, hp := gHp b, s := gS b, d := gD b }, r := false, sn := (0 : Int), sl := (0 : Int), sf := (0 : Int), sg := (0 : Int), ss := [], sp := [], fin := gD b, k := kdP ((rwV b (gNx b) (40 : Int) (0 : Int)).getD (lsI (rwV b (gNx b) (40 : Int) (0 : Int))) V.undef), t := tpXX (bdX b (ptA ((rwV b (gNx b) (40 : Int) (0 : Int)).getD (lsI (rwV b (gNx b) (40 : Int) (0 : Int))) V.undef))), mk_ := (0 : Int), mc := (0 : Int), mw := (0 : Int), mb := [], body := bdX b (ptA ((rwV b (gNx b) (40 : Int) (0 : Int)).getD (lsI (rwV b (gNx b) (40 : Int) (0 : Int))) V.undef)) },
 V.int IntKind.i64 (0 : Int)])
 else none
 else
 bif
 kdP
 ((rwV b (gNx b) (40 : Int) (0 : Int)).getD (lsI (rwV b (gNx b) (40 : Int) (0 : Int)))
 V.undef) ==
 (58 : Int) then
 bif
 andT true
 (decide
 ((bdX b
 (ptA
 ((rwV b (gNx b) (40 : Int) (0 : Int)).getD
 (lsI (rwV b (gNx b) (40 : Int) (0 : Int))) V.undef))).length ≤
 (1048576 : Nat))) then
 bif
 ipE (gS b) (gD b)
 (bdX b
 (ptA
 ((rwV b (gNx b) (40 : Int) (0 : Int)).getD
 (lsI (rwV b (gNx b) (40 : Int) (0 : Int))) V.undef))) !=
 (0 : Int) then
 some
 (pkR
 (ipE (gS b) (gD b)
 (bdX b
 (ptA
 ((rwV b (gNx b) (40 : Int) (0 : Int)).getD
 (lsI (rwV b (gNx b) (40 : Int) (0 : Int))) V.undef)))))
 else
 some
 (V.tup
 [pqV
 { h := { c := gC b, la := gLa b, ln := gLn b, nx := gNx b, hp := gHp b, s := gS b, d := gD b }, r := false, sn := (0 : Int), sl := (0 : Int), sf := (0 : Int), sg := (0 : Int), ss := [], sp := [], fin := gD b, k := kdP ((rwV b (gNx b) (40 : Int) (0 : Int)).getD (lsI (rwV b (gNx b) (40 : Int) (0 : Int))) V.undef), t := { sp := (0 : Int), dp := (0 : Int), sq := (0 : Int), ak := (0 : Int), fl := (0 : Int), wn := (0 : Int), sm := (0 : Int), ug := (0 : Int), op := [], pl := [] }, mk_ := parI (ipE (gS b) (gD b) (bdX b (ptA ((rwV b (gNx b) (40 : Int) (0 : Int)).getD (lsI (rwV b (gNx b) (40 : Int) (0 : Int))) V.undef)))) (gt (bdX b (ptA ((rwV b (gNx b) (40 : Int) (0 : Int)).getD (lsI (rwV b (gNx b) (40 : Int) (0 : Int))) V.undef))) (0 : Nat)), mc := parI (ipE (gS b) (gD b) (bdX b (ptA ((rwV b (gNx b) (40 : Int) (0 : Int)).getD (lsI (rwV b (gNx b) (40 : Int) (0 : Int))) V.undef)))) (gt (bdX b (ptA ((rwV b (gNx b) (40 : Int) (0 : Int)).getD (lsI (rwV b (gNx b) (40 : Int) (0 : Int))) V.undef))) (1 : Nat)), mw := parI (ipE (gS b) (gD b) (bdX b (ptA ((rwV b (gNx b) (40 : Int) (0 : Int)).getD (lsI (rwV b (gNx b) (40 : Int) (0 : Int))) V.undef)))) (be32 (bdX b (ptA ((rwV b (gNx b) (40 : Int) (0 : Int)).getD (lsI (rwV b (gNx b) (40 : Int) (0 : Int))) V.undef))) (4 : Nat)), mb := parL (ipE (gS b) (gD b) (bdX b (ptA ((rwV b (gNx b) (40 : Int) (0 : Int)).getD (lsI (rwV b (gNx b) (40 : Int) (0 : Int))) V.undef)))) (List.drop (8 : Nat) (bdX b (ptA ((rwV b (gNx b) (40 : Int) (0 : Int)).getD (lsI (rwV b (gNx b) (40 : Int) (0 : Int))) V.undef)))), body := bdX b (ptA ((rwV b (gNx b) (40 : Int) (0 : Int)).getD (lsI (rwV b (gNx b) (40 : Int) (0 : Int))) V.undef)) },
 V.int IntKind.i64 (0 : Int)])
 else none
 else some (pkR (7 : Int))
 else none
 else none
 else
 bif
 andT (andT true (Am.inC (40 : Int) b.length))
 (decide ((cutL b (40 : Nat) b.length).length ≤ (140737488355328 : Nat))) then
 bif shE (cutL b (40 : Nat) b.length) != (0 : Int) then
 bif shE (cutL b (40 : Nat) b.length) != (0 : Int) then
 some (pkR (shE (cutL b (40 : Nat) b.length)))
 else
 bif
 andT true
 (Am.inB
 (IntKind.i64.wrap ((↑(rwV b (gNx b) (40 : Int) (0 : Int)).length : Int) - (1 : Int)))
 (rwV b (gNx b) (40 : Int) (0 : Int)).length) then
 bif
 andT
 (andT true
 (Am.inC
 (ptA
 ((rwV b (gNx b) (40 : Int) (0 : Int)).getD
 (lsI (rwV b (gNx b) (40 : Int) (0 : Int))) V.undef))
 b.length))
 (((bdX b
 (ptA
 ((rwV b (gNx b) (40 : Int) (0 : Int)).getD
 (lsI (rwV b (gNx b) (40 : Int) (0 : Int))) V.undef))).length *
 (1 : Nat)).ble
 (140737488355328 : Nat)) &&
 true then
 bif
 kdP
 ((rwV b (gNx b) (40 : Int) (0 : Int)).getD
 (lsI (rwV b (gNx b) (40 : Int) (0 : Int))) V.undef) ==
 (6 : Int) then
 bif
 andT true
 (decide
 ((bdX b
 (ptA
 ((rwV b (gNx b) (40 : Int) (0 : Int)).getD
 (lsI (rwV b (gNx b) (40 : Int) (0 : Int))) V.undef))).length ≤
 (140737488355328 : Nat))) then
 bif
 tpE
 (bdX b
 (ptA
 ((rwV b (gNx b) (40 : Int) (0 : Int)).getD
 (lsI (rwV b (gNx b) (40 : Int) (0 : Int))) V.undef))) ==
 (0 : Int) then
 bif
 andT true
 (decide
 ((bdX b
 (ptA
 ((rwV b (gNx b) (40 : Int) (0 : Int)).getD
 (lsI (rwV b (gNx b) (40 : Int) (0 : Int))) V.undef))).length ≤
 (140737488355327 : Nat))) then
 bif
 !both (gS b) (gD b) (6 : Int)
 (bdX b
 (ptA
 ((rwV b (gNx b) (40 : Int) (0 : Int)).getD
 (lsI (rwV b (gNx b) (40 : Int) (0 : Int))) V.undef))) ==
 (65535 : Int) then
 some (pkR (6 : Int))
 else
 bif
 tpE
 (bdX b
 (ptA
 ((rwV b (gNx b) (40 : Int) (0 : Int)).getD
 (lsI (rwV b (gNx b) (40 : Int) (0 : Int))) V.undef))) !=
 (0 : Int) then
 some
 (pkR
 (tpE
 (bdX b
 (ptA
 ((rwV b (gNx b) (40 : Int) (0 : Int)).getD
 (lsI (rwV b (gNx b) (40 : Int) (0 : Int))) V.undef)))))
 else
 some
 (V.tup
 [pqV
 { h := { c := gC b, la := gLa b, ln := gLn b, nx := gNx b, hp := gHp b, s := gS b, d := gD b }, r := false, sn := (0 : Int), sl := (0 : Int), sf := (0 : Int), sg := (0 : Int), ss := [], sp := [], fin := gD b, k := kdP ((rwV b (gNx b) (40 : Int) (0 : Int)).getD (lsI (rwV b (gNx b) (40 : Int) (0 : Int))) V.undef), t := tpXX (bdX b (ptA ((rwV b (gNx b) (40 : Int) (0 : Int)).getD (lsI (rwV b (gNx b) (40 : Int) (0 : Int))) V.undef))), mk_ := (0 : Int), mc := (0 : Int), mw := (0 : Int), mb := [], body := bdX b (ptA ((rwV b (gNx b) (40 : Int) (0 : Int)).getD (lsI (rwV b (gNx b) (40 : Int) (0 : Int))) V.undef)) },
 V.int IntKind.i64 (0 : Int)])
 else none
 else
 bif
 tpE
 (bdX b
 (ptA
 ((rwV b (gNx b) (40 : Int) (0 : Int)).getD
 (lsI (rwV b (gNx b) (40 : Int) (0 : Int))) V.undef))) !=
 (0 : Int) then
 some
 (pkR
 (tpE
 (bdX b
 (ptA
 ((rwV b (gNx b) (40 : Int) (0 : Int)).getD
 (lsI (rwV b (gNx b) (40 : Int) (0 : Int))) V.undef)))))
 else
 some
 (V.tup
 [pqV
 { h := { c := gC b, la := gLa b, ln := gLn b, nx := gNx b, hp := gHp b, s := gS b, d := gD b }, r := false, sn := (0 : Int), sl := (0 : Int), sf := (0 : Int), sg := (0 : Int), ss := [], sp := [], fin := gD b, k := kdP ((rwV b (gNx b) (40 : Int) (0 : Int)).getD (lsI (rwV b (gNx b) (40 : Int) (0 : Int))) V.undef), t := tpXX (bdX b (ptA ((rwV b (gNx b) (40 : Int) (0 : Int)).getD (lsI (rwV b (gNx b) (40 : Int) (0 : Int))) V.undef))), mk_ := (0 : Int), mc := (0 : Int), mw := (0 : Int), mb := [], body := bdX b (ptA ((rwV b (gNx b) (40 : Int) (0 : Int)).getD (lsI (rwV b (gNx b) (40 : Int) (0 : Int))) V.undef)) },
 V.int IntKind.i64 (0 : Int)])
 else none
 else
 bif
 kdP
 ((rwV b (gNx b) (40 : Int) (0 : Int)).getD
 (lsI (rwV b (gNx b) (40 : Int) (0 : Int))) V.undef) ==
 (58 : Int) then
 bif
 andT true
 (decide
 ((bdX b
 (ptA
 ((rwV b (gNx b) (40 : Int) (0 : Int)).getD
 (lsI (rwV b (gNx b) (40 : Int) (0 : Int))) V.undef))).length ≤
 (1048576 : Nat))) then
 bif
 ipE (gS b) (gD b)
 (bdX b
 (ptA
 ((rwV b (gNx b) (40 : Int) (0 : Int)).getD
 (lsI (rwV b (gNx b) (40 : Int) (0 : Int))) V.undef))) !=
 (0 : Int) then
 some
 (pkR
 (ipE (gS b) (gD b)
 (bdX b
 (ptA
 ((rwV b (gNx b) (40 : Int) (0 : Int)).getD
 (lsI (rwV b (gNx b) (40 : Int) (0 : Int))) V.undef)))))
 else
 some
 (V.tup
 [pqV
 { h := { c := gC b, la := gLa b, ln := gLn b, nx := gNx b, hp := gHp b, s := gS b, d := gD b }, r := false, sn := (0 : Int), sl := (0 : Int), sf := (0 : Int), sg := (0 : Int), ss := [], sp := [], fin := gD b, k := kdP ((rwV b (gNx b) (40 : Int) (0 : Int)).getD (lsI (rwV b (gNx b) (40 : Int) (0 : Int))) V.undef), t := { sp := (0 : Int), dp := (0 : Int), sq := (0 : Int), ak := (0 : Int), fl := (0 : Int), wn := (0 : Int), sm := (0 : Int), ug := (0 : Int), op := [], pl := [] }, mk_ := parI (ipE (gS b) (gD b) (bdX b (ptA ((rwV b (gNx b) (40 : Int) (0 : Int)).getD (lsI (rwV b (gNx b) (40 : Int) (0 : Int))) V.undef)))) (gt (bdX b (ptA ((rwV b (gNx b) (40 : Int) (0 : Int)).getD (lsI (rwV b (gNx b) (40 : Int) (0 : Int))) V.undef))) (0 : Nat)), mc := parI (ipE (gS b) (gD b) (bdX b (ptA ((rwV b (gNx b) (40 : Int) (0 : Int)).getD (lsI (rwV b (gNx b) (40 : Int) (0 : Int))) V.undef)))) (gt (bdX b (ptA ((rwV b (gNx b) (40 : Int) (0 : Int)).getD (lsI (rwV b (gNx b) (40 : Int) (0 : Int))) V.undef))) (1 : Nat)), mw := parI (ipE (gS b) (gD b) (bdX b (ptA ((rwV b (gNx b) (40 : Int) (0 : Int)).getD (lsI (rwV b (gNx b) (40 : Int) (0 : Int))) V.undef)))) (be32 (bdX b (ptA ((rwV b (gNx b) (40 : Int) (0 : Int)).getD (lsI (rwV b (gNx b) (40 : Int) (0 : Int))) V.undef))) (4 : Nat)), mb := parL (ipE (gS b) (gD b) (bdX b (ptA ((rwV b (gNx b) (40 : Int) (0 : Int)).getD (lsI (rwV b (gNx b) (40 : Int) (0 : Int))) V.undef)))) (List.drop (8 : Nat) (bdX b (ptA ((rwV b (gNx b) (40 : Int) (0 : Int)).getD (lsI (rwV b (gNx b) (40 : Int) (0 : Int))) V.undef)))), body := bdX b (ptA ((rwV b (gNx b) (40 : Int) (0 : Int)).getD (lsI (rwV b (gNx b) (40 : Int) (0 : Int))) V.undef)) },
 V.int IntKind.i64 (0 : Int)])
 else none
 else some (pkR (7 : Int))
 else none
 else none
 else
 bif andT true (Am.inB (0 : Int) (sS (cutL b (40 : Nat) b.length)).length) && true then
 bif
 andT true
 (Am.inB (sL (cutL b (40 : Nat) b.length)) (sS (cutL b (40 : Nat) b.length)).length) &&
 true then
 bif
 !toA
 ((sS (cutL b (40 : Nat) b.length)).getD (sL (cutL b (40 : Nat) b.length)).toNat
 V.undef) ==
 gD b then
 some (pkR (5 : Int))
 else
 bif
 andT true
 (Am.inB
 (IntKind.i64.wrap
 ((↑(rwV b (gNx b) (40 : Int) (0 : Int)).length : Int) - (1 : Int)))
 (rwV b (gNx b) (40 : Int) (0 : Int)).length) then
 bif
 andT
 (andT true
 (Am.inC
 (ptA
 ((rwV b (gNx b) (40 : Int) (0 : Int)).getD
 (lsI (rwV b (gNx b) (40 : Int) (0 : Int))) V.undef))
 b.length))
 (((bdX b
 (ptA
 ((rwV b (gNx b) (40 : Int) (0 : Int)).getD
 (lsI (rwV b (gNx b) (40 : Int) (0 : Int))) V.undef))).length *
 (1 : Nat)).ble
 (140737488355328 : Nat)) &&
 true then
 bif
 kdP
 ((rwV b (gNx b) (40 : Int) (0 : Int)).getD
 (lsI (rwV b (gNx b) (40 : Int) (0 : Int))) V.undef) ==
 (6 : Int) then
 bif
 andT true
 (decide
 ((bdX b
 (ptA
 ((rwV b (gNx b) (40 : Int) (0 : Int)).getD
 (lsI (rwV b (gNx b) (40 : Int) (0 : Int))) V.undef))).length ≤
 (140737488355328 : Nat))) then
 bif
 tpE
 (bdX b
 (ptA
 ((rwV b (gNx b) (40 : Int) (0 : Int)).getD
 (lsI (rwV b (gNx b) (40 : Int) (0 : Int))) V.undef))) ==
 (0 : Int) then
 bif
 andT true
 (decide
 ((bdX b
 (ptA
 ((rwV b (gNx b) (40 : Int) (0 : Int)).getD
 (lsI (rwV b (gNx b) (40 : Int) (0 : Int))) V.undef))).length ≤
 (140737488355327 : Nat))) then
 bif
 !both (gS b)
 (toA ((sS (cutL b (40 : Nat) b.length)).getD (0 : Nat) V.undef))
 (6 : Int)
 (bdX b
 (ptA
 ((rwV b (gNx b) (40 : Int) (0 : Int)).getD
 (lsI (rwV b (gNx b) (40 : Int) (0 : Int))) V.undef))) ==
 (65535 : Int) then
 some (pkR (6 : Int))
 else
 bif
 tpE
 (bdX b
 (ptA
 ((rwV b (gNx b) (40 : Int) (0 : Int)).getD
 (lsI (rwV b (gNx b) (40 : Int) (0 : Int))) V.undef))) !=
 (0 : Int) then
 some
 (pkR
 (tpE
 (bdX b
 (ptA
 ((rwV b (gNx b) (40 : Int) (0 : Int)).getD
 (lsI (rwV b (gNx b) (40 : Int) (0 : Int))) V.undef)))))
 else
 some
 (V.tup
 [pqV
 { h := { c := gC b, la := gLa b, ln := gLn b, nx := gNx b, hp := gHp b, s := gS b, d := gD b }, r := true, sn := sN (cutL b (40 : Nat) b.length), sl := sL (cutL b (40 : Nat) b.length), sf := sF (cutL b (40 : Nat) b.length), sg := sT (cutL b (40 : Nat) b.length), ss := sS (cutL b (40 : Nat) b.length), sp := sP (cutL b (40 : Nat) b.length), fin := toA ((sS (cutL b (40 : Nat) b.length)).getD (0 : Nat) V.undef), k := kdP ((rwV b (gNx b) (40 : Int) (0 : Int)).getD (lsI (rwV b (gNx b) (40 : Int) (0 : Int))) V.undef), t := tpXX (bdX b (ptA ((rwV b (gNx b) (40 : Int) (0 : Int)).getD (lsI (rwV b (gNx b) (40 : Int) (0 : Int))) V.undef))), mk_ := (0 : Int), mc := (0 : Int), mw := (0 : Int), mb := [], body := bdX b (ptA ((rwV b (gNx b) (40 : Int) (0 : Int)).getD (lsI (rwV b (gNx b) (40 : Int) (0 : Int))) V.undef)) },
 V.int IntKind.i64 (0 : Int)])
 else none
 else
 bif
 tpE
 (bdX b
 (ptA
 ((rwV b (gNx b) (40 : Int) (0 : Int)).getD
 (lsI (rwV b (gNx b) (40 : Int) (0 : Int))) V.undef))) !=
 (0 : Int) then
 some
 (pkR
 (tpE
 (bdX b
 (ptA
 ((rwV b (gNx b) (40 : Int) (0 : Int)).getD
 (lsI (rwV b (gNx b) (40 : Int) (0 : Int))) V.undef)))))
 else
 some
 (V.tup
 [pqV
 { h := { c := gC b, la := gLa b, ln := gLn b, nx := gNx b, hp := gHp b, s := gS b, d := gD b }, r := true, sn := sN (cutL b (40 : Nat) b.length), sl := sL (cutL b (40 : Nat) b.length), sf := sF (cutL b (40 : Nat) b.length), sg := sT (cutL b (40 : Nat) b.length), ss := sS (cutL b (40 : Nat) b.length), sp := sP (cutL b (40 : Nat) b.length), fin := toA ((sS (cutL b (40 : Nat) b.length)).getD (0 : Nat) V.undef), k := kdP ((rwV b (gNx b) (40 : Int) (0 : Int)).getD (lsI (rwV b (gNx b) (40 : Int) (0 : Int))) V.undef), t := tpXX (bdX b (ptA ((rwV b (gNx b) (40 : Int) (0 : Int)).getD (lsI (rwV b (gNx b) (40 : Int) (0 : Int))) V.undef))), mk_ := (0 : Int), mc := (0 : Int), mw := (0 : Int), mb := [], body := bdX b (ptA ((rwV b (gNx b) (40 : Int) (0 : Int)).getD (lsI (rwV b (gNx b) (40 : Int) (0 : Int))) V.undef)) },
 V.int IntKind.i64 (0 : Int)])
 else none
 else
 bif
 kdP
 ((rwV b (gNx b) (40 : Int) (0 : Int)).getD
 (lsI (rwV b (gNx b) (40 : Int) (0 : Int))) V.undef) ==
 (58 : Int) then
 bif
 andT true
 (decide
 ((bdX b
 (ptA
 ((rwV b (gNx b) (40 : Int) (0 : Int)).getD
 (lsI (rwV b (gNx b) (40 : Int) (0 : Int))) V.undef))).length ≤
 (1048576 : Nat))) then
 bif
 ipE (gS b) (toA ((sS (cutL b (40 : Nat) b.length)).getD (0 : Nat) V.undef))
 (bdX b
 (ptA
 ((rwV b (gNx b) (40 : Int) (0 : Int)).getD
 (lsI (rwV b (gNx b) (40 : Int) (0 : Int))) V.undef))) !=
 (0 : Int) then
 some
 (pkR
 (ipE (gS b)
 (toA ((sS (cutL b (40 : Nat) b.length)).getD (0 : Nat) V.undef))
 (bdX b
 (ptA
 ((rwV b (gNx b) (40 : Int) (0 : Int)).getD
 (lsI (rwV b (gNx b) (40 : Int) (0 : Int))) V.undef)))))
 else
 some
 (V.tup
 [pqV
 { h := { c := gC b, la := gLa b, ln := gLn b, nx := gNx b, hp := gHp b, s := gS b, d := gD b }, r := true, sn := sN (cutL b (40 : Nat) b.length), sl := sL (cutL b (40 : Nat) b.length), sf := sF (cutL b (40 : Nat) b.length), sg := sT (cutL b (40 : Nat) b.length), ss := sS (cutL b (40 : Nat) b.length), sp := sP (cutL b (40 : Nat) b.length), fin := toA ((sS (cutL b (40 : Nat) b.length)).getD (0 : Nat) V.undef), k := kdP ((rwV b (gNx b) (40 : Int) (0 : Int)).getD (lsI (rwV b (gNx b) (40 : Int) (0 : Int))) V.undef), t := { sp := (0 : Int), dp := (0 : Int), sq := (0 : Int), ak := (0 : Int), fl := (0 : Int), wn := (0 : Int), sm := (0 : Int), ug := (0 : Int), op := [], pl := [] }, mk_ := parI (ipE (gS b) (toA ((sS (cutL b (40 : Nat) b.length)).getD (0 : Nat) V.undef)) (bdX b (ptA ((rwV b (gNx b) (40 : Int) (0 : Int)).getD (lsI (rwV b (gNx b) (40 : Int) (0 : Int))) V.undef)))) (gt (bdX b (ptA ((rwV b (gNx b) (40 : Int) (0 : Int)).getD (lsI (rwV b (gNx b) (40 : Int) (0 : Int))) V.undef))) (0 : Nat)), mc := parI (ipE (gS b) (toA ((sS (cutL b (40 : Nat) b.length)).getD (0 : Nat) V.undef)) (bdX b (ptA ((rwV b (gNx b) (40 : Int) (0 : Int)).getD (lsI (rwV b (gNx b) (40 : Int) (0 : Int))) V.undef)))) (gt (bdX b (ptA ((rwV b (gNx b) (40 : Int) (0 : Int)).getD (lsI (rwV b (gNx b) (40 : Int) (0 : Int))) V.undef))) (1 : Nat)), mw := parI (ipE (gS b) (toA ((sS (cutL b (40 : Nat) b.length)).getD (0 : Nat) V.undef)) (bdX b (ptA ((rwV b (gNx b) (40 : Int) (0 : Int)).getD (lsI (rwV b (gNx b) (40 : Int) (0 : Int))) V.undef)))) (be32 (bdX b (ptA ((rwV b (gNx b) (40 : Int) (0 : Int)).getD (lsI (rwV b (gNx b) (40 : Int) (0 : Int))) V.undef))) (4 : Nat)), mb := parL (ipE (gS b) (toA ((sS (cutL b (40 : Nat) b.length)).getD (0 : Nat) V.undef)) (bdX b (ptA ((rwV b (gNx b) (40 : Int) (0 : Int)).getD (lsI (rwV b (gNx b) (40 : Int) (0 : Int))) V.undef)))) (List.drop (8 : Nat) (bdX b (ptA ((rwV b (gNx b) (40 : Int) (0 : Int)).getD (lsI (rwV b (gNx b) (40 : Int) (0 : Int))) V.undef)))), body := bdX b (ptA ((rwV b (gNx b) (40 : Int) (0 : Int)).getD (lsI (rwV b (gNx b) (40 : Int) (0 : Int))) V.undef)) },
 V.int IntKind.i64 (0 : Int)])
 else none
 else some (pkR (7 : Int))
 else none
 else none
 else none
 else none
 else none
 else none
 else none
 else none := by kernel_rfl

end Go.Proofs.Ytbojofchpnfnlaa

namespace Go.Proofs.Ytbojofchpnfnlaa
open Go Go.Am Go.RowKit Go.Mix Go.Bas
set_option maxRecDepth 100000
theorem pq_err {b : List UInt8} {v : Int} (h : pqE1 b = v) (hv : v ≠ 0) : pqE b = v ∧ pqX b = pq0 := by
  have e : pqE b = v := by unfold pqE; rw [h, if_pos hv]
  exact ⟨e, by unfold pqX; rw [e, if_neg hv]⟩
theorem pq_up {b : List UInt8} (h : pqE1 b = 0) : pqE b = upE (gS b) (pqF b) (luK (pqL b)) (pqU b) := by
  unfold pqE; rw [h, if_neg (by decide)]
theorem pq_no {b : List UInt8} {v : Int} (h : pqE b = v) (hv : v ≠ 0) : pqX b = pq0 := by
  unfold pqX; rw [h, if_neg hv]
theorem pq_ok {b : List UInt8} (h : pqE b = 0) : pqX b = pqY b := by
  unfold pqX; rw [if_pos h]
set_option maxRecDepth 8000 in
set_option maxHeartbeats 4000000 in
theorem rPkParse_v (b : List UInt8) : callV Epkg af_rPkParse [.bytes b] = some (.tup [pqV (pqX b), .int .i64 (pqE b)]) := by
  rw [rPkParse_t, show rwE b (gNx b) 40 0 = wkE b (gNx b) 40 from rfl, show rwV b (gNx b) 40 0 = pqL b from rfl]
  simp only [cutL_all, show hrBad (pqL b) 1 = hrBad (pqL b) 0 from rfl]
  rw [show b.drop 40 = pqTl b from rfl]
  have hlen := pqL_len b
  by_cases c1 : 1500 < b.length
  · obtain ⟨e1, e2⟩ := pq_err (b := b) (v := 4) (by unfold pqE1; rw [if_pos c1]) (by decide)
    rw [e1, e2]
    simp (disch := omega) only [dec_t, dec_f, inB_t, inC_t, andT_t, cond_true, cond_false, Bool.and_true, Bool.true_and, w64, wu32, wu8, nble_t, nblt_t, Bool.not_true, Bool.not_false, Bool.not_not, ieq_t, ieq_f, ine_t, ine_f, true_and, and_true, andT_l, okG_t]
    rfl
  by_cases c2 : gE b = 0
  rotate_left
  · obtain ⟨e1, e2⟩ := pq_err (b := b) (v := gE b) (by unfold pqE1; rw [if_neg c1, if_pos c2]) c2
    rw [e1, e2]
    simp (disch := omega) only [dec_t, dec_f, inB_t, inC_t, andT_t, cond_true, cond_false, Bool.and_true, Bool.true_and, w64, wu32, wu8, nble_t, nblt_t, Bool.not_true, Bool.not_false, Bool.not_not, ieq_t, ieq_f, ine_t, ine_f, true_and, and_true, andT_l, okG_t]
    rfl
  have h40 := gE_40 c2
  rw [w64 (x := (b.length : Int) - 40) (by omega) (by omega)]
  by_cases c3 : gLn b = (b.length : Int) - 40
  rotate_left
  · obtain ⟨e1, e2⟩ := pq_err (b := b) (v := 5) (by unfold pqE1; rw [if_neg c1, if_neg (by simpa using c2), if_pos c3]) (by decide)
    rw [e1, e2]
    simp (disch := omega) only [dec_t, dec_f, inB_t, inC_t, andT_t, cond_true, cond_false, Bool.and_true, Bool.true_and, w64, wu32, wu8, nble_t, nblt_t, Bool.not_true, Bool.not_false, Bool.not_not, ieq_t, ieq_f, ine_t, ine_f, true_and, and_true, andT_l, okG_t]
    rfl
  by_cases c4 : wkE b (gNx b) 40 = 0
  rotate_left
  · obtain ⟨e1, e2⟩ := pq_err (b := b) (v := wkE b (gNx b) 40) (by unfold pqE1; rw [if_neg c1, if_neg (by simpa using c2), if_neg (by simpa using c3), if_pos c4]) c4
    rw [e1, e2]
    simp (disch := omega) only [dec_t, dec_f, inB_t, inC_t, andT_t, cond_true, cond_false, Bool.and_true, Bool.true_and, w64, wu32, wu8, nble_t, nblt_t, Bool.not_true, Bool.not_false, Bool.not_not, ieq_t, ieq_f, ine_t, ine_f, true_and, and_true, andT_l, okG_t]
    rfl
  obtain ⟨l1, l2, l3⟩ := pqL_last c4
  have hu : (pqU b).length ≤ 1500 := by unfold pqU; rw [List.length_drop]; omega
  have hlw : IntKind.i64.wrap (((pqL b).length : Int) - 1) = ((pqL b).length : Int) - 1 := w64 (by omega) (by omega)
  have hls : lsI (pqL b) = (pqL b).length - 1 := by unfold lsI; rw [hlw]; omega
  have hbd : bdX b (luA (pqL b)) = pqU b := by unfold bdX pqU; rw [List.replicate_zero, List.nil_append, cutL_all]
  have hR : pqRt b = (kdP ((pqL b).getD 0 .undef) == 43) := by unfold pqRt; rw [hrRt_0 _ l1, Bool.false_or]
  rw [hls, hlw, show kdP ((pqL b).getD ((pqL b).length - 1) .undef) = luK (pqL b) from rfl, show ptA ((pqL b).getD ((pqL b).length - 1) .undef) = luA (pqL b) from rfl]
  simp only [hbd, Nat.mul_one]
  have ht : (pqTl b).length ≤ 1500 := by unfold pqTl; rw [List.length_drop]; omega
  cases c5 : hrBad (pqL b) 0 with
  | true =>
    obtain ⟨e1, e2⟩ := pq_err (b := b) (v := 7) (by unfold pqE1; rw [if_neg c1, if_neg (by simpa using c2), if_neg (by simpa using c3), if_neg (by simpa using c4), if_pos c5]) (by decide)
    rw [e1, e2]
    simp (disch := omega) only [dec_t, dec_f, inB_t, inC_t, andT_t, cond_true, cond_false, Bool.and_true, Bool.true_and, w64, wu32, wu8, nble_t, nblt_t, Bool.not_true, Bool.not_false, Bool.not_not, ieq_t, ieq_f, ine_t, ine_f, true_and, and_true, andT_l, okG_t]
    rfl
  | false =>
  have e0 : pqE1 b = if pqRt b = true then (if shE (pqTl b) ≠ 0 then shE (pqTl b) else if sgAt (sS (pqTl b)) (sL (pqTl b)) ≠ gD b then 5 else 0) else 0 := by
    unfold pqE1; rw [if_neg c1, if_neg (by simpa using c2), if_neg (by simpa using c3), if_neg (by simpa using c4), if_neg (by rw [c5]; simp)]
  cases c6 : pqRt b with
  | false =>
    have c7 : kdP ((pqL b).getD 0 .undef) ≠ 43 := by rw [hR] at c6; simpa using c6
    have e1 : pqE1 b = 0 := by rw [e0, c6]; rfl
    have eF : pqF b = gD b := by unfold pqF; rw [c6]; rfl
    have eu := pq_up e1
    rw [eF] at eu
    by_cases k6 : luK (pqL b) = 6
    · rw [k6] at eu ⊢
      by_cases k1 : tpE (pqU b) = 0
      · by_cases k2 : both (gS b) (gD b) 6 (pqU b) = 65535
        · have e : pqE b = 0 := by rw [eu]; unfold upE; rw [if_pos rfl, if_neg (by simpa using k1), if_pos k2]
          rw [e, pq_ok e]
          unfold pqY
          rw [k6, c6, eF]
          simp (disch := omega) only [dec_t, dec_f, inB_t, inC_t, andT_t, cond_true, cond_false, Bool.and_true, Bool.true_and, w64, wu32, wu8, nble_t, nblt_t, Bool.not_true, Bool.not_false, Bool.not_not, ieq_t, ieq_f, ine_t, ine_f, true_and, and_true, andT_l, okG_t]
          rfl
        · have e : pqE b = 6 := by rw [eu]; unfold upE; rw [if_pos rfl, if_neg (by simpa using k1), if_neg k2]
          rw [e, pq_no e (by decide)]
          simp (disch := omega) only [dec_t, dec_f, inB_t, inC_t, andT_t, cond_true, cond_false, Bool.and_true, Bool.true_and, w64, wu32, wu8, nble_t, nblt_t, Bool.not_true, Bool.not_false, Bool.not_not, ieq_t, ieq_f, ine_t, ine_f, true_and, and_true, andT_l, okG_t]
          rfl
      · have e : pqE b = tpE (pqU b) := by rw [eu]; unfold upE; rw [if_pos rfl, if_pos k1]
        rw [e, pq_no e k1]
        simp (disch := omega) only [dec_t, dec_f, inB_t, inC_t, andT_t, cond_true, cond_false, Bool.and_true, Bool.true_and, w64, wu32, wu8, nble_t, nblt_t, Bool.not_true, Bool.not_false, Bool.not_not, ieq_t, ieq_f, ine_t, ine_f, true_and, and_true, andT_l, okG_t]
        rfl
    · by_cases k58 : luK (pqL b) = 58
      · rw [k58] at eu ⊢
        have eu : pqE b = ipE (gS b) (gD b) (pqU b) := by rw [eu]; rfl
        by_cases k1 : ipE (gS b) (gD b) (pqU b) = 0
        · have e : pqE b = 0 := by rw [eu, k1]
          rw [e, pq_ok e]
          unfold pqY
          rw [k58, c6, eF, k1]
          simp (disch := omega) only [dec_t, dec_f, inB_t, inC_t, andT_t, cond_true, cond_false, Bool.and_true, Bool.true_and, w64, wu32, wu8, nble_t, nblt_t, Bool.not_true, Bool.not_false, Bool.not_not, ieq_t, ieq_f, ine_t, ine_f, true_and, and_true, andT_l, okG_t]
          rfl
        · rw [eu, pq_no eu k1]
          simp (disch := omega) only [dec_t, dec_f, inB_t, inC_t, andT_t, cond_true, cond_false, Bool.and_true, Bool.true_and, w64, wu32, wu8, nble_t, nblt_t, Bool.not_true, Bool.not_false, Bool.not_not, ieq_t, ieq_f, ine_t, ine_f, true_and, and_true, andT_l, okG_t]
          rfl
      · have e : pqE b = 7 := by rw [eu]; unfold upE; rw [if_neg k6, if_neg k58]
        rw [e, pq_no e (by decide)]
        simp (disch := omega) only [dec_t, dec_f, inB_t, inC_t, andT_t, cond_true, cond_false, Bool.and_true, Bool.true_and, w64, wu32, wu8, nble_t, nblt_t, Bool.not_true, Bool.not_false, Bool.not_not, ieq_t, ieq_f, ine_t, ine_f, true_and, and_true, andT_l, okG_t]
        rfl
  | true =>
    have c7 : kdP ((pqL b).getD 0 .undef) = 43 := by rw [hR] at c6; simpa using c6
    by_cases r1 : shE (pqTl b) = 0
    rotate_left
    · obtain ⟨e1, e2⟩ := pq_err (b := b) (v := shE (pqTl b)) (by rw [e0, c6, if_pos rfl, if_pos r1]) r1
      rw [e1, e2]
      simp (disch := omega) only [dec_t, dec_f, inB_t, inC_t, andT_t, cond_true, cond_false, Bool.and_true, Bool.true_and, w64, wu32, wu8, nble_t, nblt_t, Bool.not_true, Bool.not_false, Bool.not_not, ieq_t, ieq_f, ine_t, ine_f, true_and, and_true, andT_l, okG_t]
      rfl
    obtain ⟨s1, s2, s3, s4, s5⟩ := shE_zero r1
    have s6 : (sS (pqTl b)).length = shN (pqTl b) := by unfold sS; rw [r1, zV, if_pos rfl, sgL_len]
    have s7 : sL (pqTl b) = gt (pqTl b) 3 := by unfold sL; rw [r1, zI, if_pos rfl]
    have s8 := (shN_hi (pqTl b)).1
    have s9 := gt_lo (pqTl b) 3
    have a0 : toA ((sS (pqTl b)).getD 0 .undef) = sgAt (sS (pqTl b)) 0 := by unfold sgAt; rw [if_pos ⟨by omega, by omega⟩]; rfl
    have aL : toA ((sS (pqTl b)).getD (sL (pqTl b)).toNat .undef) = sgAt (sS (pqTl b)) (sL (pqTl b)) := by unfold sgAt; rw [if_pos ⟨by omega, by omega⟩]
    rw [a0, aL]
    by_cases r2 : sgAt (sS (pqTl b)) (sL (pqTl b)) = gD b
    rotate_left
    · obtain ⟨e1, e2⟩ := pq_err (b := b) (v := 5) (by rw [e0, c6, if_pos rfl, if_neg (by simpa using r1), if_pos r2]) (by decide)
      rw [e1, e2]
      have r3 : (sgAt (sS (pqTl b)) (sL (pqTl b)) == gD b) = false := by simpa using r2
      rw [r3]
      simp (disch := omega) only [dec_t, dec_f, inB_t, inC_t, andT_t, cond_true, cond_false, Bool.and_true, Bool.true_and, w64, wu32, wu8, nble_t, nblt_t, Bool.not_true, Bool.not_false, Bool.not_not, ieq_t, ieq_f, ine_t, ine_f, true_and, and_true, andT_l, okG_t]
      rfl
    have r3 : (sgAt (sS (pqTl b)) (sL (pqTl b)) == gD b) = true := by simpa using r2
    rw [r3]
    have e1 : pqE1 b = 0 := by rw [e0, c6, if_pos rfl, if_neg (by simpa using r1), if_neg (by simpa using r2)]
    have eF : pqF b = sgAt (sS (pqTl b)) 0 := by unfold pqF; rw [c6]; rfl
    have eu := pq_up e1
    rw [eF] at eu
    by_cases k6 : luK (pqL b) = 6
    · rw [k6] at eu ⊢
      by_cases k1 : tpE (pqU b) = 0
      · by_cases k2 : both (gS b) (sgAt (sS (pqTl b)) 0) 6 (pqU b) = 65535
        · have e : pqE b = 0 := by rw [eu]; unfold upE; rw [if_pos rfl, if_neg (by simpa using k1), if_pos k2]
          rw [e, pq_ok e]
          unfold pqY
          rw [k6, c6, eF]
          simp (disch := omega) only [dec_t, dec_f, inB_t, inC_t, andT_t, cond_true, cond_false, Bool.and_true, Bool.true_and, w64, wu32, wu8, nble_t, nblt_t, Bool.not_true, Bool.not_false, Bool.not_not, ieq_t, ieq_f, ine_t, ine_f, true_and, and_true, andT_l, okG_t]
          rfl
        · have e : pqE b = 6 := by rw [eu]; unfold upE; rw [if_pos rfl, if_neg (by simpa using k1), if_neg k2]
          rw [e, pq_no e (by decide)]
          simp (disch := omega) only [dec_t, dec_f, inB_t, inC_t, andT_t, cond_true, cond_false, Bool.and_true, Bool.true_and, w64, wu32, wu8, nble_t, nblt_t, Bool.not_true, Bool.not_false, Bool.not_not, ieq_t, ieq_f, ine_t, ine_f, true_and, and_true, andT_l, okG_t]
          rfl
      · have e : pqE b = tpE (pqU b) := by rw [eu]; unfold upE; rw [if_pos rfl, if_pos k1]
        rw [e, pq_no e k1]
        simp (disch := omega) only [dec_t, dec_f, inB_t, inC_t, andT_t, cond_true, cond_false, Bool.and_true, Bool.true_and, w64, wu32, wu8, nble_t, nblt_t, Bool.not_true, Bool.not_false, Bool.not_not, ieq_t, ieq_f, ine_t, ine_f, true_and, and_true, andT_l, okG_t]
        rfl
    · by_cases k58 : luK (pqL b) = 58
      · rw [k58] at eu ⊢
        have eu : pqE b = ipE (gS b) (sgAt (sS (pqTl b)) 0) (pqU b) := by rw [eu]; rfl
        by_cases k1 : ipE (gS b) (sgAt (sS (pqTl b)) 0) (pqU b) = 0
        · have e : pqE b = 0 := by rw [eu, k1]
          rw [e, pq_ok e]
          unfold pqY
          rw [k58, c6, eF, k1]
          simp (disch := omega) only [dec_t, dec_f, inB_t, inC_t, andT_t, cond_true, cond_false, Bool.and_true, Bool.true_and, w64, wu32, wu8, nble_t, nblt_t, Bool.not_true, Bool.not_false, Bool.not_not, ieq_t, ieq_f, ine_t, ine_f, true_and, and_true, andT_l, okG_t]
          rfl
        · rw [eu, pq_no eu k1]
          simp (disch := omega) only [dec_t, dec_f, inB_t, inC_t, andT_t, cond_true, cond_false, Bool.and_true, Bool.true_and, w64, wu32, wu8, nble_t, nblt_t, Bool.not_true, Bool.not_false, Bool.not_not, ieq_t, ieq_f, ine_t, ine_f, true_and, and_true, andT_l, okG_t]
          rfl
      · have e : pqE b = 7 := by rw [eu]; unfold upE; rw [if_neg k6, if_neg k58]
        rw [e, pq_no e (by decide)]
        simp (disch := omega) only [dec_t, dec_f, inB_t, inC_t, andT_t, cond_true, cond_false, Bool.and_true, Bool.true_and, w64, wu32, wu8, nble_t, nblt_t, Bool.not_true, Bool.not_false, Bool.not_not, ieq_t, ieq_f, ine_t, ine_f, true_and, and_true, andT_l, okG_t]
        rfl
def cPkParse : List V → Option (V × Bool)
  | [.bytes b] => some (.tup [pqV (pqX b), .int .i64 (pqE b)], true)
  | _ => none
theorem rPkParse_con : ∀ vs v, cPkParse vs = some (v, true) → SpecV Try.prog 44 vs v := by
  intro vs v h; unfold cPkParse at h; split at h
  · rename_i b
    injection h with h; injection h with h hb; subst h
    exact callV_ok Epkg_ok af_rPkParse_ok (rPkParse_v b)
  · cases h
end Go.Proofs.Ytbojofchpnfnlaa
