/- Part Gx of the proof: laws used by the law of this claim. -/
import Derived.Test.YtfhljcbbgckdiaaGreatGq
set_option linter.all false
namespace Go.Proofs.YtfhljcbbgckdiaaGreat
open Go Go.Am Go.RowKit Go.Mix Go.Bas
set_option maxRecDepth 100000
noncomputable def af_pkParse : AF := afOf Tryz.prog Tryz.f41 []
theorem af_pkParse_ok : AllOk Tryz.prog 41 af_pkParse := .flat Tryz.func41 (by kernel_rfl) (by kernel_rfl) (by kernel_rfl) (by kernel_rfl) (by kernel_rfl)
noncomputable def af_pkPars : AF := afOf Tryz.prog Tryz.f69 []
theorem af_pkPars_ok : AllOk Tryz.prog 69 af_pkPars := .flat Tryz.func69 (by kernel_rfl) (by kernel_rfl) (by kernel_rfl) (by kernel_rfl) (by kernel_rfl)
noncomputable def af_pkRoute : AF := afOf Tryz.prog Tryz.f98 []
theorem af_pkRoute_ok : AllOk Tryz.prog 98 af_pkRoute := .flat Tryz.func98 (by kernel_rfl) (by kernel_rfl) (by kernel_rfl) (by kernel_rfl) (by kernel_rfl)
noncomputable def af_pkUpper : AF := afOf Tryz.prog Tryz.f99 []
theorem af_pkUpper_ok : AllOk Tryz.prog 99 af_pkUpper := .flat Tryz.func99 (by kernel_rfl) (by kernel_rfl) (by kernel_rfl) (by kernel_rfl) (by kernel_rfl)
noncomputable def af_pkOf : AF := afOf Tryz.prog Tryz.f120 [.unr 3]
theorem af_pkOf_ok : AllOk Tryz.prog 120 af_pkOf := .flat Tryz.func120 (by kernel_rfl) (by kernel_rfl) (by kernel_rfl) (by kernel_rfl) (by kernel_rfl)
noncomputable def af_pkSegK : AF := afOf Tryz.prog Tryz.f170 []
theorem af_pkSegK_ok : AllOk Tryz.prog 170 af_pkSegK := .flat Tryz.func170 (by kernel_rfl) (by kernel_rfl) (by kernel_rfl) (by kernel_rfl) (by kernel_rfl)
noncomputable def af_pkSegR : AF := afOf Tryz.prog Tryz.f171 []
theorem af_pkSegR_ok : AllOk Tryz.prog 171 af_pkSegR := .flat Tryz.func171 (by kernel_rfl) (by kernel_rfl) (by kernel_rfl) (by kernel_rfl) (by kernel_rfl)
noncomputable def af_pkMsgK : AF := afOf Tryz.prog Tryz.f186 []
theorem af_pkMsgK_ok : AllOk Tryz.prog 186 af_pkMsgK := .flat Tryz.func186 (by kernel_rfl) (by kernel_rfl) (by kernel_rfl) (by kernel_rfl) (by kernel_rfl)
noncomputable def af_pkMsgR : AF := afOf Tryz.prog Tryz.f187 []
theorem af_pkMsgR_ok : AllOk Tryz.prog 187 af_pkMsgR := .flat Tryz.func187 (by kernel_rfl) (by kernel_rfl) (by kernel_rfl) (by kernel_rfl) (by kernel_rfl)
noncomputable def af_wkUpper : AF := afOf Tryz.prog Tryz.f116 []
theorem af_wkUpper_ok : AllOk Tryz.prog 116 af_wkUpper := .flat Tryz.func116 (by kernel_rfl) (by kernel_rfl) (by kernel_rfl) (by kernel_rfl) (by kernel_rfl)
noncomputable def GEpkf0 : List (Nat × Con) := []
theorem GEpkf0_ok : GOk Tryz.prog GEpkf0 := .nil
noncomputable def IEpkf0 : List (Nat × AF) := [(146, af_wHas), (137, af_srhSegment)]
theorem IEpkf0_ok : IOk Tryz.prog IEpkf0 := .cons af_wHas_ok <| .cons af_srhSegment_ok <| .nil
noncomputable def CEpkf0 : List (Nat × (List Nat × (S → Option (Bool × Tr)))) := []
theorem CEpkf0_ok : COk Tryz.prog CEpkf0 := .nil
noncomputable def XEpkf0 : List (Nat × (List Sh × (List V → PT))) := []
theorem XEpkf0_ok : XOk Tryz.prog XEpkf0 := .nil
noncomputable def Epkf0 : Env := ⟨Tryz.prog, GEpkf0, IEpkf0, CEpkf0, XEpkf0, false⟩
theorem Epkf0_ok : EnvOk Epkf0 := ⟨by kernel_rfl, GEpkf0_ok, IEpkf0_ok, CEpkf0_ok, XEpkf0_ok⟩
theorem wkUpper_t (l : List V) : callV Epkf0 af_wkUpper [.rows shP l] =
 bif (↑l.length : Int) == (0 : Int) then
 some
 (V.tup
 [V.agg [V.int IntKind.i64 0, V.int IntKind.i64 0, V.int IntKind.i64 0], V.bool false])
 else
 bif andT true (Am.inB (IntKind.i64.wrap ((↑l.length : Int) - (1 : Int))) l.length) then
 some
 (V.tup
 [V.agg
 [V.int IntKind.i64
 (toI ((toG (l.getD (IntKind.i64.wrap ((↑l.length : Int) - (1 : Int))).toNat V.undef)).headD V.undef)),
 V.int IntKind.i64
 (toI
 ((toG (l.getD (IntKind.i64.wrap ((↑l.length : Int) - (1 : Int))).toNat V.undef)).tail.headD
 V.undef)),
 V.int IntKind.i64
 (toI
 ((toG (l.getD (IntKind.i64.wrap ((↑l.length : Int) - (1 : Int))).toNat V.undef)).tail.tail.headD
 V.undef))],
 V.bool true])
 else none := by kernel_rfl
theorem srhFin_t (nx lf fl tg : Int) (s t : List V) : callV Epkf0 af_srhFinal [.agg [.int .i64 nx, .int .i64 lf, .int .i64 fl, .int .i64 tg, .rows (.barr 16) s, .rows (.agg [.int .i64, .bytes]) t]] =
 bif !decide ((0 : Int) < (↑s.length : Int)) then
 some (V.tup [V.barr (16 : Nat) (List.replicate (16 : Nat) (0 : UInt8)), V.bool false])
 else
 bif andT true (Am.inB (0 : Int) s.length) then
 some (V.tup [V.barr (16 : Nat) (toA (s.getD (0 : Nat) V.undef)), V.bool true])
 else none := by kernel_rfl
theorem srhAct_t (nx lf fl tg : Int) (s t : List V) : callV Epkf0 af_srhActive [.agg [.int .i64 nx, .int .i64 lf, .int .i64 fl, .int .i64 tg, .rows (.barr 16) s, .rows (.agg [.int .i64, .bytes]) t]] =
 bif decide (lf ≥ (0 : Int)) then
 bif !decide (lf < (↑s.length : Int)) then
 some (V.tup [V.barr (16 : Nat) (List.replicate (16 : Nat) (0 : UInt8)), V.bool false])
 else
 bif andT true (Am.inB lf s.length) then
 some (V.tup [V.barr (16 : Nat) (toA (s.getD lf.toNat V.undef)), V.bool true])
 else none
 else some (V.tup [V.barr (16 : Nat) (List.replicate (16 : Nat) (0 : UInt8)), V.bool false]) := by kernel_rfl
def sgAt (s : List V) (i : Int) : List UInt8 := if 0 ≤ i ∧ i < s.length then toA (s.getD i.toNat .undef) else List.replicate 16 0
def sgOk (s : List V) (i : Int) : Bool := decide (0 ≤ i ∧ i < s.length)
def luK (l : List V) : Int := toI ((toG (l.getD (l.length - 1) .undef)).headD .undef)
def luA (l : List V) : Int := toI ((toG (l.getD (l.length - 1) .undef)).tail.headD .undef)
def luN (l : List V) : Int := toI ((toG (l.getD (l.length - 1) .undef)).tail.tail.headD .undef)
def luB (l : List V) : Bool := decide (0 < l.length)
theorem wkUpper_v (l : List V) (h : l.length ≤ 1000) : callV Epkf0 af_wkUpper [.rows shP l] = some (.tup [.agg [.int .i64 (luK l), .int .i64 (luA l), .int .i64 (luN l)], .bool (luB l)]) := by
 rw [wkUpper_t]
 by_cases h0 : l.length = 0
 ·obtain rfl := List.length_eq_zero_iff.1 h0
  rfl
 ·rw [w64 (by omega) (by omega), show ((l.length : Int) - 1).toNat = l.length - 1 by omega]
  unfold luB
  simp (disch := omega) only [tre]
  rfl
theorem srhFin_v (nx lf fl tg : Int) (s t : List V) : callV Epkf0 af_srhFinal [.agg [.int .i64 nx, .int .i64 lf, .int .i64 fl, .int .i64 tg, .rows (.barr 16) s, .rows (.agg [.int .i64, .bytes]) t]] = some (.tup [.barr 16 (sgAt s 0), .bool (sgOk s 0)]) := by
 rw [srhFin_t]
 unfold sgAt sgOk
 by_cases h0 : 0 < s.length
 ·rw [if_pos ⟨by omega, by omega⟩]
  simp (disch := omega) only [tre]
  rfl
 ·rw [if_neg (by omega)]
  simp (disch := omega) only [tre]
theorem srhAct_v (nx lf fl tg : Int) (s t : List V) : callV Epkf0 af_srhActive [.agg [.int .i64 nx, .int .i64 lf, .int .i64 fl, .int .i64 tg, .rows (.barr 16) s, .rows (.agg [.int .i64, .bytes]) t]] = some (.tup [.barr 16 (sgAt s lf), .bool (sgOk s lf)]) := by
 rw [srhAct_t]
 unfold sgAt sgOk
 by_cases h0 : 0 ≤ lf ∧ lf < s.length
 ·rw [if_pos h0]
  simp (disch := omega) only [tre]
 ·rw [if_neg h0]
  by_cases h1 : lf ≥ 0
  ·simp (disch := omega) only [tre]
  ·simp (disch := omega) only [tre]
def cWkUpper : List V → Option (V × Bool)
 | [.rows (.agg [.int .i64, .int .i64, .int .i64]) l] => some (.tup [.agg [.int .i64 (luK l), .int .i64 (luA l), .int .i64 (luN l)], .bool (luB l)], decide (l.length ≤ 1000))
 | _ => none
theorem wkUpper_con : ∀ vs v, cWkUpper vs = some (v, true) → SpecV Tryz.prog 116 vs v := by
 intro vs v h; unfold cWkUpper at h; split at h
 ·rename_i l
  injection h with h; injection h with h hb; subst h
  exact callV_ok Epkf0_ok af_wkUpper_ok (wkUpper_v l (of_decide_eq_true hb))
 ·cases h
def cSrhFin : List V → Option (V × Bool)
 | [.agg [.int .i64 nx, .int .i64 lf, .int .i64 fl, .int .i64 tg, .rows (.barr 16) s, .rows (.agg [.int .i64, .bytes]) t]] => some (.tup [.barr 16 (sgAt s 0), .bool (sgOk s 0)], true)
 | _ => none
theorem srhFinal_con : ∀ vs v, cSrhFin vs = some (v, true) → SpecV Tryz.prog 118 vs v := by
 intro vs v h; unfold cSrhFin at h; split at h
 ·rename_i nx lf fl tg s t
  injection h with h; injection h with h hb; subst h
  exact callV_ok Epkf0_ok af_srhFinal_ok (srhFin_v nx lf fl tg s t)
 ·cases h
def cSrhAct : List V → Option (V × Bool)
 | [.agg [.int .i64 nx, .int .i64 lf, .int .i64 fl, .int .i64 tg, .rows (.barr 16) s, .rows (.agg [.int .i64, .bytes]) t]] => some (.tup [.barr 16 (sgAt s lf), .bool (sgOk s lf)], true)
 | _ => none
theorem srhActive_con : ∀ vs v, cSrhAct vs = some (v, true) → SpecV Tryz.prog 119 vs v := by
 intro vs v h; unfold cSrhAct at h; split at h
 ·rename_i nx lf fl tg s t
  injection h with h; injection h with h hb; subst h
  exact callV_ok Epkf0_ok af_srhActive_ok (srhAct_v nx lf fl tg s t)
 ·cases h
noncomputable def GEpkf : List (Nat × Con) := [(96, .val [.bytes] cSxGet), (115, .val [.bytes, .int .i64, .int .i64] cWkWalk), (117, .val [.bytes] cSrhPar2), (172, .val [.bytes] cTcpPar), (173, .val [.barr 16, .barr 16, .bytes] cTcFine), (188, .val [.barr 16, .barr 16, .bytes] cIParse), (121, .val [.bytes] cClone), (116, .val [.rows (.agg [.int .i64, .int .i64, .int .i64])] cWkUpper), (119, .val [.agg [.int .i64, .int .i64, .int .i64, .int .i64, .rows (.barr 16), .rows (.agg [.int .i64, .bytes])]] cSrhAct), (118, .val [.agg [.int .i64, .int .i64, .int .i64, .int .i64, .rows (.barr 16), .rows (.agg [.int .i64, .bytes])]] cSrhFin)]
theorem GEpkf_ok : GOk Tryz.prog GEpkf := .cons (enters_of Tryz.func96 (by kernel_rfl) rfl) sxGet_con <| .cons (enters_of Tryz.func115 (by kernel_rfl) rfl) wkWalk_con <| .cons (enters_of Tryz.func117 (by kernel_rfl) rfl) srhPar2_con <| .cons (enters_of Tryz.func172 (by kernel_rfl) rfl) tcpParse_con <| .cons (enters_of Tryz.func173 (by kernel_rfl) rfl) tcFine_con <| .cons (enters_of Tryz.func188 (by kernel_rfl) rfl) IParse_con <| .cons (enters_of Tryz.func121 (by kernel_rfl) rfl) Clone_con <| .cons (enters_of Tryz.func116 (by kernel_rfl) rfl) wkUpper_con <| .cons (enters_of Tryz.func119 (by kernel_rfl) rfl) srhActive_con <| .cons (enters_of Tryz.func118 (by kernel_rfl) rfl) srhFinal_con <| .nil
noncomputable def IEpkf : List (Nat × AF) := [(69, af_pkPars), (97, af_pkHead), (98, af_pkRoute), (99, af_pkUpper), (120, af_pkOf), (170, af_pkSegK), (171, af_pkSegR), (186, af_pkMsgK), (187, af_pkMsgR)]
theorem IEpkf_ok : IOk Tryz.prog IEpkf := .cons af_pkPars_ok <| .cons af_pkHead_ok <| .cons af_pkRoute_ok <| .cons af_pkUpper_ok <| .cons af_pkOf_ok <| .cons af_pkSegK_ok <| .cons af_pkSegR_ok <| .cons af_pkMsgK_ok <| .cons af_pkMsgR_ok <| .nil
noncomputable def CEpkf : List (Nat × (List Nat × (S → Option (Bool × Tr)))) := []
theorem CEpkf_ok : COk Tryz.prog CEpkf := .nil
noncomputable def XEpkf : List (Nat × (List Sh × (List V → PT))) := []
theorem XEpkf_ok : XOk Tryz.prog XEpkf := .nil
noncomputable def Epkf : Env := ⟨Tryz.prog, GEpkf, IEpkf, CEpkf, XEpkf, false⟩
theorem Epkf_ok : EnvOk Epkf := ⟨by kernel_rfl, GEpkf_ok, IEpkf_ok, CEpkf_ok, XEpkf_ok⟩
structure Pq where
 (h : H6)
 (r : Bool)
 (sn sl sf sg : Int)
 (ss sp : List V)
 (fin : List UInt8)
 (k : Int)
 (t : Tc)
 (mk_ mc mw : Int)
 (mb body : List UInt8)
def pqV (p : Pq) : V := .agg [p.h.v, .bool p.r, .agg [.int .i64 p.sn, .int .i64 p.sl, .int .i64 p.sf, .int .i64 p.sg, .rows (.barr 16) p.ss, .rows (.agg [.int .i64, .bytes]) p.sp], .barr 16 p.fin, .int .i64 p.k, p.t.v, .agg [.int .i64 p.mk_, .int .i64 p.mc, .int .u32 p.mw, .bytes p.mb], .bytes p.body]
def pq0 : Pq := ⟨⟨0, 0, 0, 0, 0, List.replicate 16 0, List.replicate 16 0⟩, false, 0, 0, 0, 0, [], [], List.replicate 16 0, 0, ⟨0, 0, 0, 0, 0, 0, 0, 0, [], []⟩, 0, 0, 0, [], []⟩
def pkR (e : Int) : V := .tup [pqV pq0, .int .i64 e]
theorem pkParse_t (b : List UInt8) : callV Epkf af_pkParse [.bytes b] =
 bif decide ((↑b.length : Int) > (1500 : Int)) then some (pkR (4 : Int))
 else
 bif gE b != (0 : Int) then bif gE b != (0 : Int) then some (pkR (gE b)) else some (pkR (0 : Int))
 else
 bif gLn b != IntKind.i64.wrap ((↑b.length : Int) - (40 : Int)) then some (pkR (5 : Int))
 else
 bif andT true (decide (b.length ≤ (140737488355328 : Nat))) then
 bif wkE b (gNx b) 40 != (0 : Int) then
 bif wkE b (gNx b) 40 != (0 : Int) then
 bif wkE b (gNx b) 40 != (0 : Int) then some (pkR (wkE b (gNx b) 40))
 else
 some
 (V.tup
 [pqV
 { h := { c := gC b, la := gLa b, ln := gLn b, nx := gNx b, hp := gHp b, s := gS b, d := gD b }, r := false, sn := (0 : Int), sl := (0 : Int), sf := (0 : Int), sg := (0 : Int), ss := [], sp := [], fin := List.replicate (16 : Nat) (0 : UInt8), k := (0 : Int), t := { sp := (0 : Int), dp := (0 : Int), sq := (0 : Int), ak := (0 : Int), fl := (0 : Int), wn := (0 : Int), sm := (0 : Int), ug := (0 : Int), op := [], pl := [] }, mk_ := (0 : Int), mc := (0 : Int), mw := (0 : Int), mb := [], body := [] },
 V.int IntKind.i64 0])
 else some (pkR (7 : Int))
 else
 bif
 okG
 (hrS { c := gC b, la := gLa b, ln := gLn b, nx := gNx b, hp := gHp b, s := gS b, d := gD b } false
 (wkV b (gNx b) 40) (0 : Int) =
 hrS { c := gC b, la := gLa b, ln := gLn b, nx := gNx b, hp := gHp b, s := gS b, d := gD b } false
 (wkV b (gNx b) 40) (0 : Int) ∧
 (0 : Int) ≤ (0 : Int) ∧
 (0 : Int) ≤ (↑(wkV b (gNx b) 40).length : Int) ∧
 (wkV b (gNx b) 40).length ≤ (1000 : Nat)) then
 bif hrBad (wkV b (gNx b) 40) (0 : Nat) then some (pkR (7 : Int))
 else
 bif andT true (decide ((wkV b (gNx b) 40).length ≤ (1000 : Nat))) then
 bif !hrRt false (wkV b (gNx b) 40) (0 : Nat) then
 bif andT true (Am.inC (luA (wkV b (gNx b) 40)) b.length) && true then
 bif (6 : Int) == luK (wkV b (gNx b) 40) then
 bif
 andT true
 (decide
 ((cutL b (luA (wkV b (gNx b) 40)).toNat b.length).length ≤
 (140737488355328 : Nat))) then
 bif tpE (cutL b (luA (wkV b (gNx b) 40)).toNat b.length) != (0 : Int) then
 bif tpE (cutL b (luA (wkV b (gNx b) 40)).toNat b.length) != (0 : Int) then
 bif tpE (cutL b (luA (wkV b (gNx b) 40)).toNat b.length) != (0 : Int) then
 some (pkR (tpE (cutL b (luA (wkV b (gNx b) 40)).toNat b.length)))
 else
 some
 (V.tup
 [pqV
 { h := { c := gC b, la := gLa b, ln := gLn b, nx := gNx b, hp := gHp b, s := gS b, d := gD b }, r := hrRt false (wkV b (gNx b) 40) (0 : Nat), sn := (0 : Int), sl := (0 : Int), sf := (0 : Int), sg := (0 : Int), ss := [], sp := [], fin := gD b, k := (0 : Int), t := { sp := (0 : Int), dp := (0 : Int), sq := (0 : Int), ak := (0 : Int), fl := (0 : Int), wn := (0 : Int), sm := (0 : Int), ug := (0 : Int), op := [], pl := [] }, mk_ := (0 : Int), mc := (0 : Int), mw := (0 : Int), mb := [], body := [] },
 V.int IntKind.i64 0])
 else
 bif
 andT true
 (decide
 ((cutL b (luA (wkV b (gNx b) 40)).toNat b.length).length ≤
 (140737488355328 : Nat))) then
 some
 (V.tup
 [pqV
 { h := { c := gC b, la := gLa b, ln := gLn b, nx := gNx b, hp := gHp b, s := gS b, d := gD b }, r := hrRt false (wkV b (gNx b) 40) (0 : Nat), sn := (0 : Int), sl := (0 : Int), sf := (0 : Int), sg := (0 : Int), ss := [], sp := [], fin := gD b, k := luK (wkV b (gNx b) 40), t := { sp := (0 : Int), dp := (0 : Int), sq := (0 : Int), ak := (0 : Int), fl := (0 : Int), wn := (0 : Int), sm := (0 : Int), ug := (0 : Int), op := [], pl := [] }, mk_ := (0 : Int), mc := (0 : Int), mw := (0 : Int), mb := [], body := cutL b (luA (wkV b (gNx b) 40)).toNat b.length },
 V.int IntKind.i64 0])
 else none
 else
 bif
 andT true
 (decide
 ((cutL b (luA (wkV b (gNx b) 40)).toNat b.length).length ≤
 (140737488355327 : Nat))) then
 bif
 !both (gS b) (gD b) (6 : Int)
 (cutL b (luA (wkV b (gNx b) 40)).toNat b.length) ==
 (65535 : Int) then
 some (pkR (6 : Int))
 else
 bif
 andT true
 (decide
 ((cutL b (luA (wkV b (gNx b) 40)).toNat b.length).length ≤
 (140737488355328 : Nat))) then
 some
 (V.tup
 [pqV
 { h := { c := gC b, la := gLa b, ln := gLn b, nx := gNx b, hp := gHp b, s := gS b, d := gD b }, r := hrRt false (wkV b (gNx b) 40) (0 : Nat), sn := (0 : Int), sl := (0 : Int), sf := (0 : Int), sg := (0 : Int), ss := [], sp := [], fin := gD b, k := luK (wkV b (gNx b) 40), t := tpXX (cutL b (luA (wkV b (gNx b) 40)).toNat b.length), mk_ := (0 : Int), mc := (0 : Int), mw := (0 : Int), mb := [], body := cutL b (luA (wkV b (gNx b) 40)).toNat b.length },
 V.int IntKind.i64 0])
 else none
 else none
 else none
 else
 bif (58 : Int) == luK (wkV b (gNx b) 40) then
 bif
 andT true
 (decide
 ((cutL b (luA (wkV b (gNx b) 40)).toNat b.length).length ≤
 (1048576 : Nat))) then
 bif
 ipE (gS b) (gD b) (cutL b (luA (wkV b (gNx b) 40)).toNat b.length) !=
 (0 : Int) then
 bif
 ipE (gS b) (gD b) (cutL b (luA (wkV b (gNx b) 40)).toNat b.length) !=
 (0 : Int) then
 some (pkR (ipE (gS b) (gD b) (cutL b (luA (wkV b (gNx b) 40)).toNat b.length)))
 else
 some
 (V.tup
 [pqV
 { h := { c := gC b, la := gLa b, ln := gLn b, nx := gNx b, hp := gHp b, s := gS b, d := gD b }, r := hrRt false (wkV b (gNx b) 40) (0 : Nat), sn := (0 : Int), sl := (0 : Int), sf := (0 : Int), sg := (0 : Int), ss := [], sp := [], fin := gD b, k := (0 : Int), t := { sp := (0 : Int), dp := (0 : Int), sq := (0 : Int), ak := (0 : Int), fl := (0 : Int), wn := (0 : Int), sm := (0 : Int), ug := (0 : Int), op := [], pl := [] }, mk_ := (0 : Int), mc := (0 : Int), mw := (0 : Int), mb := [], body := [] },
 V.int IntKind.i64 0])
 else
 bif
 andT true
 (decide
 ((cutL b (luA (wkV b (gNx b) 40)).toNat b.length).length ≤
 (140737488355328 : Nat))) then
 some
 (V.tup
 [pqV
 { h := { c := gC b, la := gLa b, ln := gLn b, nx := gNx b, hp := gHp b, s := gS b, d := gD b }, r := hrRt false (wkV b (gNx b) 40) (0 : Nat), sn := (0 : Int), sl := (0 : Int), sf := (0 : Int), sg := (0 : Int), ss := [], sp := [], fin := gD b, k := luK (wkV b (gNx b) 40), t := { sp := (0 : Int), dp := (0 : Int), sq := (0 : Int), ak := (0 : Int), fl := (0 : Int), wn := (0 : Int), sm := (0 : Int), ug := (0 : Int), op := [], pl := [] }, mk_ := parI (ipE (gS b) (gD b) (cutL b (luA (wkV b (gNx b) 40)).toNat b.length)) (gt (cutL b (luA (wkV b (gNx b) 40)).toNat b.length) (0 : Nat)), mc := parI (ipE (gS b) (gD b) (cutL b (luA (wkV b (gNx b) 40)).toNat b.length)) (gt (cutL b (luA (wkV b (gNx b) 40)).toNat b.length) (1 : Nat)), mw := parI (ipE (gS b) (gD b) (cutL b (luA (wkV b (gNx b) 40)).toNat b.length)) (be32 (cutL b (luA (wkV b (gNx b) 40)).toNat b.length) (4 : Nat)), mb := parL (ipE (gS b) (gD b) (cutL b (luA (wkV b (gNx b) 40)).toNat b.length)) (List.drop (8 : Nat) (cutL b (luA (wkV b (gNx b) 40)).toNat b.length)), body := cutL b (luA (wkV b (gNx b) 40)).toNat b.length },
 V.int IntKind.i64 0])
 else none
 else none
 else some (pkR (7 : Int))
 else none
 else
 bif
 andT (andT true (Am.inC (40 : Int) b.length))
 (decide ((cutL b (40 : Nat) b.length).length ≤ (140737488355328 : Nat))) then
 bif shE (cutL b (40 : Nat) b.length) != (0 : Int) then
 bif shE (cutL b (40 : Nat) b.length) != (0 : Int) then
 bif shE (cutL b (40 : Nat) b.length) != (0 : Int) then
 some (pkR (shE (cutL b (40 : Nat) b.length)))
 else
 some
 (V.tup
 [pqV
 { h := { c := gC b, la := gLa b, ln := gLn b, nx := gNx b, hp := gHp b, s := gS b, d := gD b }, r := hrRt false (wkV b (gNx b) 40) (0 : Nat), sn := (0 : Int), sl := (0 : Int), sf := (0 : Int), sg := (0 : Int), ss := [], sp := [], fin := gD b, k := (0 : Int), t := { sp := (0 : Int), dp := (0 : Int), sq := (0 : Int), ak := (0 : Int), fl := (0 : Int), wn := (0 : Int), sm := (0 : Int), ug := (0 : Int), op := [], pl := [] }, mk_ := (0 : Int), mc := (0 : Int), mw := (0 : Int), mb := [], body := [] },
 V.int IntKind.i64 0])
 else
 bif andT true (Am.inC (luA (wkV b (gNx b) 40)) b.length) && true then
 bif (6 : Int) == luK (wkV b (gNx b) 40) then
 bif
 andT true
 (decide
 ((cutL b (luA (wkV b (gNx b) 40)).toNat b.length).length ≤
 (140737488355328 : Nat))) then
 bif tpE (cutL b (luA (wkV b (gNx b) 40)).toNat b.length) != (0 : Int) then
 bif tpE (cutL b (luA (wkV b (gNx b) 40)).toNat b.length) != (0 : Int) then
 bif tpE (cutL b (luA (wkV b (gNx b) 40)).toNat b.length) != (0 : Int) then
 some (pkR (tpE (cutL b (luA (wkV b (gNx b) 40)).toNat b.length)))
 else
 some
 (V.tup
 [pqV
 { h := { c := gC b, la := gLa b, ln := gLn b, nx := gNx b, hp := gHp b, s := gS b, d := gD b }, r := hrRt false (wkV b (gNx b) 40) (0 : Nat), sn := (0 : Int), sl := (0 : Int), sf := (0 : Int), sg := (0 : Int), ss := [], sp := [], fin := gD b, k := (0 : Int), t := { sp := (0 : Int), dp := (0 : Int), sq := (0 : Int), ak := (0 : Int), fl := (0 : Int), wn := (0 : Int), sm := (0 : Int), ug := (0 : Int), op := [], pl := [] }, mk_ := (0 : Int), mc := (0 : Int), mw := (0 : Int), mb := [], body := [] },
 V.int IntKind.i64 0])
 else
 bif
 andT true
 (decide
 ((cutL b (luA (wkV b (gNx b) 40)).toNat b.length).length ≤
 (140737488355328 : Nat))) then
 some
 (V.tup
 [pqV
 { h := { c := gC b, la := gLa b, ln := gLn b, nx := gNx b, hp := gHp b, s := gS b, d := gD b }, r := hrRt false (wkV b (gNx b) 40) (0 : Nat), sn := (0 : Int), sl := (0 : Int), sf := (0 : Int), sg := (0 : Int), ss := [], sp := [], fin := gD b, k := luK (wkV b (gNx b) 40), t := { sp := (0 : Int), dp := (0 : Int), sq := (0 : Int), ak := (0 : Int), fl := (0 : Int), wn := (0 : Int), sm := (0 : Int), ug := (0 : Int), op := [], pl := [] }, mk_ := (0 : Int), mc := (0 : Int), mw := (0 : Int), mb := [], body := cutL b (luA (wkV b (gNx b) 40)).toNat b.length },
 V.int IntKind.i64 0])
 else none
 else
 bif
 andT true
 (decide
 ((cutL b (luA (wkV b (gNx b) 40)).toNat b.length).length ≤
 (140737488355327 : Nat))) then
 bif
 !both (gS b) (gD b) (6 : Int)
 (cutL b (luA (wkV b (gNx b) 40)).toNat b.length) ==
 (65535 : Int) then
 some (pkR (6 : Int))
 else
 bif
 andT true
 (decide
 ((cutL b (luA (wkV b (gNx b) 40)).toNat b.length).length ≤
 (140737488355328 : Nat))) then
 some
 (V.tup
 [pqV
 { h := { c := gC b, la := gLa b, ln := gLn b, nx := gNx b, hp := gHp b, s := gS b, d := gD b }, r := hrRt false (wkV b (gNx b) 40) (0 : Nat), sn := (0 : Int), sl := (0 : Int), sf := (0 : Int), sg := (0 : Int), ss := [], sp := [], fin := gD b, k := luK (wkV b (gNx b) 40), t := tpXX (cutL b (luA (wkV b (gNx b) 40)).toNat b.length), mk_ := (0 : Int), mc := (0 : Int), mw := (0 : Int), mb := [], body := cutL b (luA (wkV b (gNx b) 40)).toNat b.length },
 V.int IntKind.i64 0])
 else none
 else none
 else none
 else
 bif (58 : Int) == luK (wkV b (gNx b) 40) then
 bif
 andT true
 (decide
 ((cutL b (luA (wkV b (gNx b) 40)).toNat b.length).length ≤
 (1048576 : Nat))) then
 bif
 ipE (gS b) (gD b) (cutL b (luA (wkV b (gNx b) 40)).toNat b.length) !=
 (0 : Int) then
 bif
 ipE (gS b) (gD b) (cutL b (luA (wkV b (gNx b) 40)).toNat b.length) !=
 (0 : Int) then
 some
 (pkR
 (ipE (gS b) (gD b) (cutL b (luA (wkV b (gNx b) 40)).toNat b.length)))
 else
 some
 (V.tup
 [pqV
 { h := { c := gC b, la := gLa b, ln := gLn b, nx := gNx b, hp := gHp b, s := gS b, d := gD b }, r := hrRt false (wkV b (gNx b) 40) (0 : Nat), sn := (0 : Int), sl := (0 : Int), sf := (0 : Int), sg := (0 : Int), ss := [], sp := [], fin := gD b, k := (0 : Int), t := { sp := (0 : Int), dp := (0 : Int), sq := (0 : Int), ak := (0 : Int), fl := (0 : Int), wn := (0 : Int), sm := (0 : Int), ug := (0 : Int), op := [], pl := [] }, mk_ := (0 : Int), mc := (0 : Int), mw := (0 : Int), mb := [], body := [] },
 V.int IntKind.i64 0])
 else
 bif
 andT true
 (decide
 ((cutL b (luA (wkV b (gNx b) 40)).toNat b.length).length ≤
 (140737488355328 : Nat))) then
 some
 (V.tup
 [pqV
 { h := { c := gC b, la := gLa b, ln := gLn b, nx := gNx b, hp := gHp b, s := gS b, d := gD b }, r := hrRt false (wkV b (gNx b) 40) (0 : Nat), sn := (0 : Int), sl := (0 : Int), sf := (0 : Int), sg := (0 : Int), ss := [], sp := [], fin := gD b, k := luK (wkV b (gNx b) 40), t := { sp := (0 : Int), dp := (0 : Int), sq := (0 : Int), ak := (0 : Int), fl := (0 : Int), wn := (0 : Int), sm := (0 : Int), ug := (0 : Int), op := [], pl := [] }, mk_ := parI (ipE (gS b) (gD b) (cutL b (luA (wkV b (gNx b) 40)).toNat b.length)) (gt (cutL b (luA (wkV b (gNx b) 40)).toNat b.length) (0 : Nat)), mc := parI (ipE (gS b) (gD b) (cutL b (luA (wkV b (gNx b) 40)).toNat b.length)) (gt (cutL b (luA (wkV b (gNx b) 40)).toNat b.length) (1 : Nat)), mw := parI (ipE (gS b) (gD b) (cutL b (luA (wkV b (gNx b) 40)).toNat b.length)) (be32 (cutL b (luA (wkV b (gNx b) 40)).toNat b.length) (4 : Nat)), mb := parL (ipE (gS b) (gD b) (cutL b (luA (wkV b (gNx b) 40)).toNat b.length)) (List.drop (8 : Nat) (cutL b (luA (wkV b (gNx b) 40)).toNat b.length)), body := cutL b (luA (wkV b (gNx b) 40)).toNat b.length },
 V.int IntKind.i64 0])
 else none
 else none
 else some (pkR (7 : Int))
 else none
 else
 bif !sgAt (sS (cutL b (40 : Nat) b.length)) (sL (cutL b (40 : Nat) b.length)) == gD b then
 some (pkR (5 : Int))
 else
 bif andT true (Am.inC (luA (wkV b (gNx b) 40)) b.length) && true then
 bif (6 : Int) == luK (wkV b (gNx b) 40) then
 bif
 andT true
 (decide
 ((cutL b (luA (wkV b (gNx b) 40)).toNat b.length).length ≤
 (140737488355328 : Nat))) then
 bif tpE (cutL b (luA (wkV b (gNx b) 40)).toNat b.length) != (0 : Int) then
 bif tpE (cutL b (luA (wkV b (gNx b) 40)).toNat b.length) != (0 : Int) then
 bif tpE (cutL b (luA (wkV b (gNx b) 40)).toNat b.length) != (0 : Int) then
 some (pkR (tpE (cutL b (luA (wkV b (gNx b) 40)).toNat b.length)))
 else
 some
 (V.tup
 [pqV
 { h := { c := gC b, la := gLa b, ln := gLn b, nx := gNx b, hp := gHp b, s := gS b, d := gD b }, r := hrRt false (wkV b (gNx b) 40) (0 : Nat), sn := sN (cutL b (40 : Nat) b.length), sl := sL (cutL b (40 : Nat) b.length), sf := sF (cutL b (40 : Nat) b.length), sg := sT (cutL b (40 : Nat) b.length), ss := sS (cutL b (40 : Nat) b.length), sp := sP (cutL b (40 : Nat) b.length), fin := sgAt (sS (cutL b (40 : Nat) b.length)) (0 : Int), k := (0 : Int), t := { sp := (0 : Int), dp := (0 : Int), sq := (0 : Int), ak := (0 : Int), fl := (0 : Int), wn := (0 : Int), sm := (0 : Int), ug := (0 : Int), op := [], pl := [] }, mk_ := (0 : Int), mc := (0 : Int), mw := (0 : Int), mb := [], body := [] },
 V.int IntKind.i64 0])
 else
 bif
 andT true
 (decide
 ((cutL b (luA (wkV b (gNx b) 40)).toNat b.length).length ≤
 (140737488355328 : Nat))) then
 some
 (V.tup
 [pqV
 { h := { c := gC b, la := gLa b, ln := gLn b, nx := gNx b, hp := gHp b, s := gS b, d := gD b }, r := hrRt false (wkV b (gNx b) 40) (0 : Nat), sn := sN (cutL b (40 : Nat) b.length), sl := sL (cutL b (40 : Nat) b.length), sf := sF (cutL b (40 : Nat) b.length), sg := sT (cutL b (40 : Nat) b.length), ss := sS (cutL b (40 : Nat) b.length), sp := sP (cutL b (40 : Nat) b.length), fin := sgAt (sS (cutL b (40 : Nat) b.length)) (0 : Int), k := luK (wkV b (gNx b) 40), t := { sp := (0 : Int), dp := (0 : Int), sq := (0 : Int), ak := (0 : Int), fl := (0 : Int), wn := (0 : Int), sm := (0 : Int), ug := (0 : Int), op := [], pl := [] }, mk_ := (0 : Int), mc := (0 : Int), mw := (0 : Int), mb := [], body := cutL b (luA (wkV b (gNx b) 40)).toNat b.length },
 V.int IntKind.i64 0])
 else none
 else
 bif
 andT true
 (decide
 ((cutL b (luA (wkV b (gNx b) 40)).toNat b.length).length ≤
 (140737488355327 : Nat))) then
 bif
 !both (gS b) (sgAt (sS (cutL b (40 : Nat) b.length)) (0 : Int)) (6 : Int)
 (cutL b (luA (wkV b (gNx b) 40)).toNat b.length) ==
 (65535 : Int) then
 some (pkR (6 : Int))
 else
 bif
 andT true
 (decide
 ((cutL b (luA (wkV b (gNx b) 40)).toNat b.length).length ≤
 (140737488355328 : Nat))) then
 some
 (V.tup
 [pqV
 { h := { c := gC b, la := gLa b, ln := gLn b, nx := gNx b, hp := gHp b, s := gS b, d := gD b }, r := hrRt false (wkV b (gNx b) 40) (0 : Nat), sn := sN (cutL b (40 : Nat) b.length), sl := sL (cutL b (40 : Nat) b.length), sf := sF (cutL b (40 : Nat) b.length), sg := sT (cutL b (40 : Nat) b.length), ss := sS (cutL b (40 : Nat) b.length), sp := sP (cutL b (40 : Nat) b.length), fin := sgAt (sS (cutL b (40 : Nat) b.length)) (0 : Int), k := luK (wkV b (gNx b) 40), t := tpXX (cutL b (luA (wkV b (gNx b) 40)).toNat b.length), mk_ := (0 : Int), mc := (0 : Int), mw := (0 : Int), mb := [], body := cutL b (luA (wkV b (gNx b) 40)).toNat b.length },
 V.int IntKind.i64 0])
 else none
 else none
 else none
 else
 bif (58 : Int) == luK (wkV b (gNx b) 40) then
 bif
 andT true
 (decide
 ((cutL b (luA (wkV b (gNx b) 40)).toNat b.length).length ≤
 (1048576 : Nat))) then
 bif
 ipE (gS b) (sgAt (sS (cutL b (40 : Nat) b.length)) (0 : Int))
 (cutL b (luA (wkV b (gNx b) 40)).toNat b.length) !=
 (0 : Int) then
 bif
 ipE (gS b) (sgAt (sS (cutL b (40 : Nat) b.length)) (0 : Int))
 (cutL b (luA (wkV b (gNx b) 40)).toNat b.length) !=
 (0 : Int) then
 some
 (pkR
 (ipE (gS b) (sgAt (sS (cutL b (40 : Nat) b.length)) (0 : Int))
 (cutL b (luA (wkV b (gNx b) 40)).toNat b.length)))
 else
 some
 (V.tup
 [pqV
 { h := { c := gC b, la := gLa b, ln := gLn b, nx := gNx b, hp := gHp b, s := gS b, d := gD b }, r := hrRt false (wkV b (gNx b) 40) (0 : Nat), sn := sN (cutL b (40 : Nat) b.length), sl := sL (cutL b (40 : Nat) b.length), sf := sF (cutL b (40 : Nat) b.length), sg := sT (cutL b (40 : Nat) b.length), ss := sS (cutL b (40 : Nat) b.length), sp := sP (cutL b (40 : Nat) b.length), fin := sgAt (sS (cutL b (40 : Nat) b.length)) (0 : Int), k := (0 : Int), t := { sp := (0 : Int), dp := (0 : Int), sq := (0 : Int), ak := (0 : Int), fl := (0 : Int), wn := (0 : Int), sm := (0 : Int), ug := (0 : Int), op := [], pl := [] }, mk_ := (0 : Int), mc := (0 : Int), mw := (0 : Int), mb := [], body := [] },
 V.int IntKind.i64 0])
 else
 bif
 andT true
 (decide
 ((cutL b (luA (wkV b (gNx b) 40)).toNat b.length).length ≤
 (140737488355328 : Nat))) then
 some
 (V.tup
 [pqV
 { h := { c := gC b, la := gLa b, ln := gLn b, nx := gNx b, hp := gHp b, s := gS b, d := gD b }, r := hrRt false (wkV b (gNx b) 40) (0 : Nat), sn := sN (cutL b (40 : Nat) b.length), sl := sL (cutL b (40 : Nat) b.length), sf := sF (cutL b (40 : Nat) b.length), sg := sT (cutL b (40 : Nat) b.length), ss := sS (cutL b (40 : Nat) b.length), sp := sP (cutL b (40 : Nat) b.length), fin := sgAt (sS (cutL b (40 : Nat) b.length)) (0 : Int), k := luK (wkV b (gNx b) 40), t := { sp := (0 : Int), dp := (0 : Int), sq := (0 : Int), ak := (0 : Int), fl := (0 : Int), wn := (0 : Int), sm := (0 : Int), ug := (0 : Int), op := [], pl := [] }, mk_ := parI (ipE (gS b) (sgAt (sS (cutL b (40 : Nat) b.length)) (0 : Int)) (cutL b (luA (wkV b (gNx b) 40)).toNat b.length)) (gt (cutL b (luA (wkV b (gNx b) 40)).toNat b.length) (0 : Nat)), mc := parI (ipE (gS b) (sgAt (sS (cutL b (40 : Nat) b.length)) (0 : Int)) (cutL b (luA (wkV b (gNx b) 40)).toNat b.length)) (gt (cutL b (luA (wkV b (gNx b) 40)).toNat b.length) (1 : Nat)), mw := parI (ipE (gS b) (sgAt (sS (cutL b (40 : Nat) b.length)) (0 : Int)) (cutL b (luA (wkV b (gNx b) 40)).toNat b.length)) (be32 (cutL b (luA (wkV b (gNx b) 40)).toNat b.length) (4 : Nat)), mb := parL (ipE (gS b) (sgAt (sS (cutL b (40 : Nat) b.length)) (0 : Int)) (cutL b (luA (wkV b (gNx b) 40)).toNat b.length)) (List.drop (8 : Nat) (cutL b (luA (wkV b (gNx b) 40)).toNat b.length)), body := cutL b (luA (wkV b (gNx b) 40)).toNat b.length },
 V.int IntKind.i64 0])
 else none
 else none
 else some (pkR (7 : Int))
 else none
 else none
 else none
 else none
 else none := by kernel_rfl
def pqL (b : List UInt8) : List V := wkV b (gNx b) 40
def pqU (b : List UInt8) : List UInt8 := b.drop (luA (pqL b)).toNat
def pqTl (b : List UInt8) : List UInt8 := b.drop 40
def pqRt (b : List UInt8) : Bool := hrRt false (pqL b) 0
def pqF (b : List UInt8) : List UInt8 := if pqRt b = true then sgAt (sS (pqTl b)) 0 else gD b
def pqE1 (b : List UInt8) : Int :=
 if 1500 < b.length then 4 else if gE b ≠ 0 then gE b else if gLn b ≠ (b.length : Int) - 40 then 5 else if wkE b (gNx b) 40 ≠ 0 then wkE b (gNx b) 40 else
 if hrBad (pqL b) 0 = true then 7 else if pqRt b = true then (if shE (pqTl b) ≠ 0 then shE (pqTl b) else if sgAt (sS (pqTl b)) (sL (pqTl b)) ≠ gD b then 5 else 0) else 0
def upE (s d : List UInt8) (k : Int) (u : List UInt8) : Int := if k = 6 then (if tpE u ≠ 0 then tpE u else if both s d 6 u = 65535 then 0 else 6) else if k = 58 then ipE s d u else 7
def pqE (b : List UInt8) : Int := if pqE1 b ≠ 0 then pqE1 b else upE (gS b) (pqF b) (luK (pqL b)) (pqU b)
def rI (r : Bool) (x : Int) : Int := if r = true then x else 0
def rV (r : Bool) (x : List V) : List V := if r = true then x else []
def kI (k j : Int) (x : Int) : Int := if k = j then x else 0
def kL (k j : Int) (x : List UInt8) : List UInt8 := if k = j then x else []
def kT (k : Int) (t : Tc) : Tc := if k = 6 then t else tc0
def pqY (b : List UInt8) : Pq :=
 ⟨⟨gC b, gLa b, gLn b, gNx b, gHp b, gS b, gD b⟩, pqRt b, rI (pqRt b) (sN (pqTl b)), rI (pqRt b) (sL (pqTl b)), rI (pqRt b) (sF (pqTl b)), rI (pqRt b) (sT (pqTl b)), rV (pqRt b) (sS (pqTl b)), rV (pqRt b) (sP (pqTl b)), pqF b, luK (pqL b), kT (luK (pqL b)) (tpXX (pqU b)),
  kI (luK (pqL b)) 58 (gt (pqU b) 0), kI (luK (pqL b)) 58 (gt (pqU b) 1), kI (luK (pqL b)) 58 (be32 (pqU b) 4), kL (luK (pqL b)) 58 ((pqU b).drop 8), pqU b⟩
def pqX (b : List UInt8) : Pq := if pqE b = 0 then pqY b else pq0
theorem wkR_last : ∀ (k : Nat) (b : List UInt8) (nx a j : Int), 0 ≤ a → a ≤ b.length → (wkR k b nx a j).1 = 0 → 0 < (wkR k b nx a j).2.length ∧ a ≤ luA (wkR k b nx a j).2 ∧ luA (wkR k b nx a j).2 ≤ b.length
 | 0, _, _, _, _, _, _, h => by cases h
 | k + 1, b, nx, a, j, h0, h1, h => by
  have ih := wkR_last k b (gt b a.toNat) (a + wkN b a) (j + 1)
  have e : wkR (k + 1) b nx a j = if wkM nx j = 0 then (if wkX nx then (if wkS b a then (3, []) else (if (wkR k b (gt b a.toNat) (a + wkN b a) (j + 1)).1 = 0 then (0, pt nx a (wkN b a) :: (wkR k b (gt b a.toNat) (a + wkN b a) (j + 1)).2) else ((wkR k b (gt b a.toNat) (a + wkN b a) (j + 1)).1, []))) else (0, [pt nx a (b.length - a)])) else (wkM nx j, []) := rfl
  rw [e] at h ⊢
  by_cases c1 : wkM nx j = 0
  ·rw [if_pos c1] at h ⊢
   by_cases c2 : wkX nx = true
   ·rw [if_pos c2] at h ⊢
    by_cases c3 : wkS b a = true
    ·rw [if_pos c3] at h; cases h
    ·rw [if_neg c3] at h ⊢
     by_cases c4 : (wkR k b (gt b a.toNat) (a + wkN b a) (j + 1)).1 = 0
     ·rw [if_pos c4] at h ⊢
      obtain ⟨n1, n2⟩ := wkS_n h0 (by simpa using c3)
      obtain ⟨i1, i2, i3⟩ := ih (by omega) n2 c4
      generalize (wkR k b (gt b a.toNat) (a + wkN b a) (j + 1)).2 = l at *
      cases l with
      | nil => cases i1
      | cons v l =>
       have e2 : luA (pt nx a (wkN b a) :: v :: l) = luA (v :: l) := by
        unfold luA
        rw [show (pt nx a (wkN b a) :: v :: l).length - 1 = (v :: l).length - 1 + 1 by simp, List.getD_cons_succ]
       rw [e2]
       exact ⟨by simp, by omega, i3⟩
     ·rw [if_neg c4] at h; exact absurd h c4
   ·rw [if_neg c2] at h ⊢
    exact ⟨by simp, Int.le_refl _, h1⟩
  ·rw [if_neg c1] at h
   exact absurd h c1
theorem pqL_len (b : List UInt8) : (pqL b).length ≤ 10 := by
 unfold pqL wkV
 split
 ·exact wkR_len _ _ _ _ _
 ·exact Nat.zero_le _
theorem pqL_last {b : List UInt8} (h : wkE b (gNx b) 40 = 0) : 0 < (pqL b).length ∧ 40 ≤ luA (pqL b) ∧ luA (pqL b) ≤ b.length := by
 unfold wkE at h
 by_cases c : (0 : Int) ≤ 40 ∧ (40 : Int) ≤ b.length
 ·rw [if_pos c] at h
  have := wkR_last 10 b (gNx b) 40 0 c.1 c.2 h
  unfold pqL wkV
  rw [if_pos ⟨c.1, c.2, h⟩]
  exact this
 ·rw [if_neg c] at h; cases h
def pkY (h : H6) (fin : List UInt8) : V := .agg [h.v, .bool false, .agg [.int .i64 0, .int .i64 0, .int .i64 0, .int .i64 0, .nils, .nils], .barr 16 fin, .int .i64 0, .agg [.int .i64 0, .int .i64 0, .int .u32 0, .int .u32 0, .int .i64 0, .int .i64 0, .int .i64 0, .int .i64 0, .nils, .nils], .agg [.int .i64 0, .int .i64 0, .int .u32 0, .nils], .nils]
def h60 : H6 := ⟨0, 0, 0, 0, 0, List.replicate 16 0, List.replicate 16 0⟩
def rrW (h : H6) (fin : List UInt8) (l : List V) : List (Nat × Option Blk) := [(0, some (.row 101 shP (.rows shP l))), (1, some (.var shPk (pkY h fin))), (2, some (.var shPk (pkY h60 (List.replicate 16 0))))]
def rrS (h : H6) (fin : List UInt8) (l : List V) (b : List UInt8) (i : Int) : S := ⟨[(2, .own 0 l.length shP), (8, .int .i64 i), (3, .ref 1 [] 0 shPk), (6, .ref 2 [] 0 shPk), (1, .bytes b)], rrW h fin l, 3, true, 66⟩
def rrX (h : H6) (fin : List UInt8) (l : List V) (b : List UInt8) : S := ⟨[(2, .own 0 l.length shP), (3, .ref 1 [] 0 shPk), (6, .ref 2 [] 0 shPk), (1, .bytes b)], rrW h fin l, 3, true, 66⟩
def rrR (h : H6) (fin : List UInt8) (l : List V) : S := ⟨[(2, .own 0 l.length shP), (6, .ref 1 [] 0 shPk), (7, .int .i64 7)], [(0, some (.row 101 shP (.rows shP l))), (1, some (.var shPk (pkY h fin)))], 2, true, 66⟩
structure RrI where
 (h : H6)
 (fin : List UInt8)
 (l : List V)
 (b : List UInt8)
 (i : Int)
def rrGet (s : S) : RrI := ⟨h6Of (aG (bkD s 1) 0), toA (aG (bkD s 1) 3), toR (bkD s 0), toL (lkD s 1), toI (lkD s 8)⟩
def rrI (x : RrI) : Prop := 1 ≤ x.i ∧ x.l.length ≤ 1000 ∧ x.i ≤ 1000
def rrO (x : RrI) : Tr := .br (hrBad x.l x.i.toNat) (.leaf .ret (rrR x.h x.fin x.l)) (.leaf (.exit 0) (rrX x.h x.fin x.l x.b))
noncomputable def rrG : S → Option (Bool × Tr) := gX rrGet (fun x => rrS x.h x.fin x.l x.b x.i) rrI rrO
noncomputable def af_rPkRout : AF := afOf Tryz.prog Tryz.f36 [.sum [2, 8, 3, 6, 1] [0] rrG]
noncomputable def rrC : AC := (af_rPkRout.ac.sums.headD (.skip, [], [], fun _ => none)).1
theorem rr_b (h : H6) (fin : List UInt8) (l : List V) (b : List UInt8) (i : Int) : aev Epke (inlN Epke 6) rrC (bodyF (Am.ways [2, 8, 3, 6, 1] [2, 3, 6, 1] [2, 6, 7]) [0]) (rrS h fin l b i) =
 bif decide (i < (l.length : Int)) then bif andT true (Am.inB i l.length) then
 bif kdP (l.getD i.toNat .undef) == 43 then some (.ret, rrR h fin l) else some (.normal, rrS h fin l b (IntKind.i64.wrap (i + 1)))
 else none else some (.exit 0, rrX h fin l b) := by kernel_rfl
theorem rr_loop : LoopOk Tryz.prog rrC.erase [0] rrG := by
 refine loopX_ok Epke_ok (d := 6) (AC.flat_ok (by kernel_rfl)) (Am.ways [2, 8, 3, 6, 1] [2, 3, 6, 1] [2, 6, 7]) [0] rrGet _ rrO rrI (fun x => (1001 - x.i).toNat) (fun _ => rfl) ?_
 rintro ⟨h, fin, l, b, i⟩ ⟨h0, hM, h1⟩
 simp only at h0 h1 hM ⊢
 rw [rr_b]
 by_cases hi : i < l.length
 ·have hk : i.toNat < l.length := by omega
  have hn := hrBad_n hk
  rw [show decide (0 < i.toNat) = true from decide_eq_true (by omega), Bool.true_and] at hn
  by_cases h43 : kdP (l.getD i.toNat .undef) = 43
  ·rw [h43] at hn
   refine .inr ⟨.ret, rrR h fin l, ?_, nofun, leaf_t (by rw [hn]; rfl) .leaf⟩
   rw [h43]
   simp (disch := omega) only [tre]
  ·rw [ieq_f h43, Bool.false_or] at hn
   refine .inl ⟨⟨h, fin, l, b, i + 1⟩, ?_, ⟨by dsimp only; omega, hM, by dsimp only; omega⟩, by dsimp only; omega, leaf_eq ?_⟩
   ·rw [w64 (x := i + 1) (by omega) (by omega)]
    simp (disch := omega) only [tre]
   ·unfold rrO
    dsimp only
    rw [hn, show (i + 1).toNat = i.toNat + 1 by omega]
 ·refine .inr ⟨.exit 0, rrX h fin l b, ?_, nofun, leaf_f (hrBad_e (by dsimp only; omega)) .leaf⟩
  simp (disch := omega) only [tre]
theorem af_rPkRout_ok : AllOk Tryz.prog 36 af_rPkRout := .sums Tryz.func36 (by kernel_rfl) (by kernel_rfl) (by kernel_rfl) (by kernel_rfl) (sums_one (c := rrC) (ts := [2, 8, 3, 6, 1]) (by kernel_rfl) (by kernel_rfl) rr_loop)
def ptA (v : V) : Int := toI ((toG v).tail.headD .undef)
def bdX (b : List UInt8) (n : Int) : List UInt8 := List.replicate 0 0 ++ cutL b n.toNat b.length
def lsI (l : List V) : Nat := (IntKind.i64.wrap ((l.length : Int) - 1)).toNat
noncomputable def af_rPkParse : AF := afOf Tryz.prog Tryz.f15 []
theorem af_rPkParse_ok : AllOk Tryz.prog 15 af_rPkParse := .flat Tryz.func15 (by kernel_rfl) (by kernel_rfl) (by kernel_rfl) (by kernel_rfl) (by kernel_rfl)
noncomputable def GEpkg : List (Nat × Con) := [(34, .val [.bytes] cSxGet), (35, .val [.bytes, .int .i64, .int .i64, .int .i64] cRWk9), (61, .val [.bytes] cSrhPar2), (37, .val [.bytes] cTcpPar), (38, .val [.barr 16, .barr 16, .int .i64, .bytes] cFine), (39, .val [.barr 16, .barr 16, .bytes] cIParse)]
theorem GEpkg_ok : GOk Tryz.prog GEpkg := .cons (enters_of Tryz.func34 (by kernel_rfl) rfl) rSxGet_con <| .cons (enters_of Tryz.func35 (by kernel_rfl) rfl) rWk9_con <| .cons (enters_of Tryz.func61 (by kernel_rfl) rfl) rSrhPar2_con <| .cons (enters_of Tryz.func37 (by kernel_rfl) rfl) rTcpParse_con <| .cons (enters_of Tryz.func38 (by kernel_rfl) rfl) rFine_con <| .cons (enters_of Tryz.func39 (by kernel_rfl) rfl) rIParse_con <| .nil
noncomputable def IEpkg : List (Nat × AF) := [(36, af_rPkRout)]
theorem IEpkg_ok : IOk Tryz.prog IEpkg := .cons af_rPkRout_ok <| .nil
noncomputable def CEpkg : List (Nat × (List Nat × (S → Option (Bool × Tr)))) := []
theorem CEpkg_ok : COk Tryz.prog CEpkg := .nil
noncomputable def XEpkg : List (Nat × (List Sh × (List V → PT))) := []
theorem XEpkg_ok : XOk Tryz.prog XEpkg := .nil
noncomputable def Epkg : Env := ⟨Tryz.prog, GEpkg, IEpkg, CEpkg, XEpkg, false⟩
theorem Epkg_ok : EnvOk Epkg := ⟨by kernel_rfl, GEpkg_ok, IEpkg_ok, CEpkg_ok, XEpkg_ok⟩
theorem rPkParse_t (b : List UInt8) : callV Epkg af_rPkParse [.bytes b] =
 bif decide ((↑b.length : Int) > (1500 : Int)) then some (pkR (4 : Int))
 else
 bif gE b != (0 : Int) then some (pkR (gE b))
 else
 bif gLn b != IntKind.i64.wrap ((↑b.length : Int) - (40 : Int)) then some (pkR (5 : Int))
 else
 bif andT true (decide (b.length ≤ (140737488355328 : Nat) ∧ (0 : Int) ≤ (0 : Int) ∧ (0 : Int) ≤ (8 : Int))) then
 bif rwE b (gNx b) 40 0 != (0 : Int) then some (pkR (rwE b (gNx b) 40 0))
 else
 bif
 okG
 (rrS { c := gC b, la := gLa b, ln := gLn b, nx := gNx b, hp := gHp b, s := gS b, d := gD b } (gD b)
 (rwV b (gNx b) 40 0) b (1 : Int) =
 rrS { c := gC b, la := gLa b, ln := gLn b, nx := gNx b, hp := gHp b, s := gS b, d := gD b } (gD b)
 (rwV b (gNx b) 40 0) b (1 : Int) ∧
 (1 : Int) ≤ (1 : Int) ∧
 (rwV b (gNx b) 40 0).length ≤ (1000 : Nat) ∧ (1 : Int) ≤ (1000 : Int)) then
 bif hrBad (rwV b (gNx b) 40 0) (1 : Nat) then some (pkR (7 : Int))
 else
 bif andT true (Am.inB (0 : Int) (rwV b (gNx b) 40 0).length) then
 bif kdP ((rwV b (gNx b) 40 0).getD (0 : Nat) V.undef) != (43 : Int) then
 bif
 andT true
 (Am.inB (IntKind.i64.wrap ((↑(rwV b (gNx b) 40 0).length : Int) - (1 : Int)))
 (rwV b (gNx b) 40 0).length) then
 bif
 andT
 (andT true
 (Am.inC
 (ptA
 ((rwV b (gNx b) 40 0).getD
 (lsI (rwV b (gNx b) 40 0)) V.undef))
 b.length))
 (((bdX b
 (ptA
 ((rwV b (gNx b) 40 0).getD
 (lsI (rwV b (gNx b) 40 0)) V.undef))).length *
 (1 : Nat)).ble
 (140737488355328 : Nat)) &&
 true then
 bif
 kdP
 ((rwV b (gNx b) 40 0).getD (lsI (rwV b (gNx b) 40 0))
 V.undef) ==
 (6 : Int) then
 bif
 andT true
 (decide
 ((bdX b
 (ptA
 ((rwV b (gNx b) 40 0).getD
 (lsI (rwV b (gNx b) 40 0)) V.undef))).length ≤
 (140737488355328 : Nat))) then
 bif
 tpE
 (bdX b
 (ptA
 ((rwV b (gNx b) 40 0).getD
 (lsI (rwV b (gNx b) 40 0)) V.undef))) ==
 (0 : Int) then
 bif
 andT true
 (decide
 ((bdX b
 (ptA
 ((rwV b (gNx b) 40 0).getD
 (lsI (rwV b (gNx b) 40 0)) V.undef))).length ≤
 (140737488355327 : Nat))) then
 bif
 !both (gS b) (gD b) (6 : Int)
 (bdX b
 (ptA
 ((rwV b (gNx b) 40 0).getD
 (lsI (rwV b (gNx b) 40 0)) V.undef))) ==
 (65535 : Int) then
 some (pkR (6 : Int))
 else
 bif
 tpE
 (bdX b
 (ptA
 ((rwV b (gNx b) 40 0).getD
 (lsI (rwV b (gNx b) 40 0)) V.undef))) !=
 (0 : Int) then
 some
 (pkR
 (tpE
 (bdX b
 (ptA
 ((rwV b (gNx b) 40 0).getD
 (lsI (rwV b (gNx b) 40 0)) V.undef)))))
 else
 some
 (V.tup
 [pqV
 { h := { c := gC b, la := gLa b, ln := gLn b, nx := gNx b, hp := gHp b, s := gS b, d := gD b }, r := false, sn := (0 : Int), sl := (0 : Int), sf := (0 : Int), sg := (0 : Int), ss := [], sp := [], fin := gD b, k := kdP ((rwV b (gNx b) 40 0).getD (lsI (rwV b (gNx b) 40 0)) V.undef), t := tpXX (bdX b (ptA ((rwV b (gNx b) 40 0).getD (lsI (rwV b (gNx b) 40 0)) V.undef))), mk_ := (0 : Int), mc := (0 : Int), mw := (0 : Int), mb := [], body := bdX b (ptA ((rwV b (gNx b) 40 0).getD (lsI (rwV b (gNx b) 40 0)) V.undef)) },
 V.int IntKind.i64 0])
 else none
 else
 bif
 tpE
 (bdX b
 (ptA
 ((rwV b (gNx b) 40 0).getD
 (lsI (rwV b (gNx b) 40 0)) V.undef))) !=
 (0 : Int) then
 some
 (pkR
 (tpE
 (bdX b
 (ptA
 ((rwV b (gNx b) 40 0).getD
 (lsI (rwV b (gNx b) 40 0)) V.undef)))))
 else
 some
 (V.tup
 [pqV
 { h := { c := gC b, la := gLa b, ln := gLn b, nx := gNx b, hp := gHp b, s := gS b, d := gD b }, r := false, sn := (0 : Int), sl := (0 : Int), sf := (0 : Int), sg := (0 : Int), ss := [], sp := [], fin := gD b, k := kdP ((rwV b (gNx b) 40 0).getD (lsI (rwV b (gNx b) 40 0)) V.undef), t := tpXX (bdX b (ptA ((rwV b (gNx b) 40 0).getD (lsI (rwV b (gNx b) 40 0)) V.undef))), mk_ := (0 : Int), mc := (0 : Int), mw := (0 : Int), mb := [], body := bdX b (ptA ((rwV b (gNx b) 40 0).getD (lsI (rwV b (gNx b) 40 0)) V.undef)) },
 V.int IntKind.i64 0])
 else none
 else
 bif
 kdP
 ((rwV b (gNx b) 40 0).getD (lsI (rwV b (gNx b) 40 0))
 V.undef) ==
 (58 : Int) then
 bif
 andT true
 (decide
 ((bdX b
 (ptA
 ((rwV b (gNx b) 40 0).getD
 (lsI (rwV b (gNx b) 40 0)) V.undef))).length ≤
 (1048576 : Nat))) then
 bif
 ipE (gS b) (gD b)
 (bdX b
 (ptA
 ((rwV b (gNx b) 40 0).getD
 (lsI (rwV b (gNx b) 40 0)) V.undef))) !=
 (0 : Int) then
 some
 (pkR
 (ipE (gS b) (gD b)
 (bdX b
 (ptA
 ((rwV b (gNx b) 40 0).getD
 (lsI (rwV b (gNx b) 40 0)) V.undef)))))
 else
 some
 (V.tup
 [pqV
 { h := { c := gC b, la := gLa b, ln := gLn b, nx := gNx b, hp := gHp b, s := gS b, d := gD b }, r := false, sn := (0 : Int), sl := (0 : Int), sf := (0 : Int), sg := (0 : Int), ss := [], sp := [], fin := gD b, k := kdP ((rwV b (gNx b) 40 0).getD (lsI (rwV b (gNx b) 40 0)) V.undef), t := { sp := (0 : Int), dp := (0 : Int), sq := (0 : Int), ak := (0 : Int), fl := (0 : Int), wn := (0 : Int), sm := (0 : Int), ug := (0 : Int), op := [], pl := [] }, mk_ := parI (ipE (gS b) (gD b) (bdX b (ptA ((rwV b (gNx b) 40 0).getD (lsI (rwV b (gNx b) 40 0)) V.undef)))) (gt (bdX b (ptA ((rwV b (gNx b) 40 0).getD (lsI (rwV b (gNx b) 40 0)) V.undef))) (0 : Nat)), mc := parI (ipE (gS b) (gD b) (bdX b (ptA ((rwV b (gNx b) 40 0).getD (lsI (rwV b (gNx b) 40 0)) V.undef)))) (gt (bdX b (ptA ((rwV b (gNx b) 40 0).getD (lsI (rwV b (gNx b) 40 0)) V.undef))) (1 : Nat)), mw := parI (ipE (gS b) (gD b) (bdX b (ptA ((rwV b (gNx b) 40 0).getD (lsI (rwV b (gNx b) 40 0)) V.undef)))) (be32 (bdX b (ptA ((rwV b (gNx b) 40 0).getD (lsI (rwV b (gNx b) 40 0)) V.undef))) (4 : Nat)), mb := parL (ipE (gS b) (gD b) (bdX b (ptA ((rwV b (gNx b) 40 0).getD (lsI (rwV b (gNx b) 40 0)) V.undef)))) (List.drop (8 : Nat) (bdX b (ptA ((rwV b (gNx b) 40 0).getD (lsI (rwV b (gNx b) 40 0)) V.undef)))), body := bdX b (ptA ((rwV b (gNx b) 40 0).getD (lsI (rwV b (gNx b) 40 0)) V.undef)) },
 V.int IntKind.i64 0])
 else none
 else some (pkR (7 : Int))
 else none
 else none
 else
 bif
 andT (andT true (Am.inC (40 : Int) b.length))
 (decide ((cutL b (40 : Nat) b.length).length ≤ (140737488355328 : Nat))) then
 bif shE (cutL b (40 : Nat) b.length) != (0 : Int) then
 bif shE (cutL b (40 : Nat) b.length) != (0 : Int) then
 some (pkR (shE (cutL b (40 : Nat) b.length)))
 else
 bif
 andT true
 (Am.inB
 (IntKind.i64.wrap ((↑(rwV b (gNx b) 40 0).length : Int) - (1 : Int)))
 (rwV b (gNx b) 40 0).length) then
 bif
 andT
 (andT true
 (Am.inC
 (ptA
 ((rwV b (gNx b) 40 0).getD
 (lsI (rwV b (gNx b) 40 0)) V.undef))
 b.length))
 (((bdX b
 (ptA
 ((rwV b (gNx b) 40 0).getD
 (lsI (rwV b (gNx b) 40 0)) V.undef))).length *
 (1 : Nat)).ble
 (140737488355328 : Nat)) &&
 true then
 bif
 kdP
 ((rwV b (gNx b) 40 0).getD
 (lsI (rwV b (gNx b) 40 0)) V.undef) ==
 (6 : Int) then
 bif
 andT true
 (decide
 ((bdX b
 (ptA
 ((rwV b (gNx b) 40 0).getD
 (lsI (rwV b (gNx b) 40 0)) V.undef))).length ≤
 (140737488355328 : Nat))) then
 bif
 tpE
 (bdX b
 (ptA
 ((rwV b (gNx b) 40 0).getD
 (lsI (rwV b (gNx b) 40 0)) V.undef))) ==
 (0 : Int) then
 bif
 andT true
 (decide
 ((bdX b
 (ptA
 ((rwV b (gNx b) 40 0).getD
 (lsI (rwV b (gNx b) 40 0)) V.undef))).length ≤
 (140737488355327 : Nat))) then
 bif
 !both (gS b) (gD b) (6 : Int)
 (bdX b
 (ptA
 ((rwV b (gNx b) 40 0).getD
 (lsI (rwV b (gNx b) 40 0)) V.undef))) ==
 (65535 : Int) then
 some (pkR (6 : Int))
 else
 bif
 tpE
 (bdX b
 (ptA
 ((rwV b (gNx b) 40 0).getD
 (lsI (rwV b (gNx b) 40 0)) V.undef))) !=
 (0 : Int) then
 some
 (pkR
 (tpE
 (bdX b
 (ptA
 ((rwV b (gNx b) 40 0).getD
 (lsI (rwV b (gNx b) 40 0)) V.undef)))))
 else
 some
 (V.tup
 [pqV
 { h := { c := gC b, la := gLa b, ln := gLn b, nx := gNx b, hp := gHp b, s := gS b, d := gD b }, r := false, sn := (0 : Int), sl := (0 : Int), sf := (0 : Int), sg := (0 : Int), ss := [], sp := [], fin := gD b, k := kdP ((rwV b (gNx b) 40 0).getD (lsI (rwV b (gNx b) 40 0)) V.undef), t := tpXX (bdX b (ptA ((rwV b (gNx b) 40 0).getD (lsI (rwV b (gNx b) 40 0)) V.undef))), mk_ := (0 : Int), mc := (0 : Int), mw := (0 : Int), mb := [], body := bdX b (ptA ((rwV b (gNx b) 40 0).getD (lsI (rwV b (gNx b) 40 0)) V.undef)) },
 V.int IntKind.i64 0])
 else none
 else
 bif
 tpE
 (bdX b
 (ptA
 ((rwV b (gNx b) 40 0).getD
 (lsI (rwV b (gNx b) 40 0)) V.undef))) !=
 (0 : Int) then
 some
 (pkR
 (tpE
 (bdX b
 (ptA
 ((rwV b (gNx b) 40 0).getD
 (lsI (rwV b (gNx b) 40 0)) V.undef)))))
 else
 some
 (V.tup
 [pqV
 { h := { c := gC b, la := gLa b, ln := gLn b, nx := gNx b, hp := gHp b, s := gS b, d := gD b }, r := false, sn := (0 : Int), sl := (0 : Int), sf := (0 : Int), sg := (0 : Int), ss := [], sp := [], fin := gD b, k := kdP ((rwV b (gNx b) 40 0).getD (lsI (rwV b (gNx b) 40 0)) V.undef), t := tpXX (bdX b (ptA ((rwV b (gNx b) 40 0).getD (lsI (rwV b (gNx b) 40 0)) V.undef))), mk_ := (0 : Int), mc := (0 : Int), mw := (0 : Int), mb := [], body := bdX b (ptA ((rwV b (gNx b) 40 0).getD (lsI (rwV b (gNx b) 40 0)) V.undef)) },
 V.int IntKind.i64 0])
 else none
 else
 bif
 kdP
 ((rwV b (gNx b) 40 0).getD
 (lsI (rwV b (gNx b) 40 0)) V.undef) ==
 (58 : Int) then
 bif
 andT true
 (decide
 ((bdX b
 (ptA
 ((rwV b (gNx b) 40 0).getD
 (lsI (rwV b (gNx b) 40 0)) V.undef))).length ≤
 (1048576 : Nat))) then
 bif
 ipE (gS b) (gD b)
 (bdX b
 (ptA
 ((rwV b (gNx b) 40 0).getD
 (lsI (rwV b (gNx b) 40 0)) V.undef))) !=
 (0 : Int) then
 some
 (pkR
 (ipE (gS b) (gD b)
 (bdX b
 (ptA
 ((rwV b (gNx b) 40 0).getD
 (lsI (rwV b (gNx b) 40 0)) V.undef)))))
 else
 some
 (V.tup
 [pqV
 { h := { c := gC b, la := gLa b, ln := gLn b, nx := gNx b, hp := gHp b, s := gS b, d := gD b }, r := false, sn := (0 : Int), sl := (0 : Int), sf := (0 : Int), sg := (0 : Int), ss := [], sp := [], fin := gD b, k := kdP ((rwV b (gNx b) 40 0).getD (lsI (rwV b (gNx b) 40 0)) V.undef), t := { sp := (0 : Int), dp := (0 : Int), sq := (0 : Int), ak := (0 : Int), fl := (0 : Int), wn := (0 : Int), sm := (0 : Int), ug := (0 : Int), op := [], pl := [] }, mk_ := parI (ipE (gS b) (gD b) (bdX b (ptA ((rwV b (gNx b) 40 0).getD (lsI (rwV b (gNx b) 40 0)) V.undef)))) (gt (bdX b (ptA ((rwV b (gNx b) 40 0).getD (lsI (rwV b (gNx b) 40 0)) V.undef))) (0 : Nat)), mc := parI (ipE (gS b) (gD b) (bdX b (ptA ((rwV b (gNx b) 40 0).getD (lsI (rwV b (gNx b) 40 0)) V.undef)))) (gt (bdX b (ptA ((rwV b (gNx b) 40 0).getD (lsI (rwV b (gNx b) 40 0)) V.undef))) (1 : Nat)), mw := parI (ipE (gS b) (gD b) (bdX b (ptA ((rwV b (gNx b) 40 0).getD (lsI (rwV b (gNx b) 40 0)) V.undef)))) (be32 (bdX b (ptA ((rwV b (gNx b) 40 0).getD (lsI (rwV b (gNx b) 40 0)) V.undef))) (4 : Nat)), mb := parL (ipE (gS b) (gD b) (bdX b (ptA ((rwV b (gNx b) 40 0).getD (lsI (rwV b (gNx b) 40 0)) V.undef)))) (List.drop (8 : Nat) (bdX b (ptA ((rwV b (gNx b) 40 0).getD (lsI (rwV b (gNx b) 40 0)) V.undef)))), body := bdX b (ptA ((rwV b (gNx b) 40 0).getD (lsI (rwV b (gNx b) 40 0)) V.undef)) },
 V.int IntKind.i64 0])
 else none
 else some (pkR (7 : Int))
 else none
 else none
 else
 bif andT true (Am.inB (0 : Int) (sS (cutL b (40 : Nat) b.length)).length) && true then
 bif
 andT true
 (Am.inB (sL (cutL b (40 : Nat) b.length)) (sS (cutL b (40 : Nat) b.length)).length) &&
 true then
 bif
 !toA
 ((sS (cutL b (40 : Nat) b.length)).getD (sL (cutL b (40 : Nat) b.length)).toNat
 V.undef) ==
 gD b then
 some (pkR (5 : Int))
 else
 bif
 andT true
 (Am.inB
 (IntKind.i64.wrap
 ((↑(rwV b (gNx b) 40 0).length : Int) - (1 : Int)))
 (rwV b (gNx b) 40 0).length) then
 bif
 andT
 (andT true
 (Am.inC
 (ptA
 ((rwV b (gNx b) 40 0).getD
 (lsI (rwV b (gNx b) 40 0)) V.undef))
 b.length))
 (((bdX b
 (ptA
 ((rwV b (gNx b) 40 0).getD
 (lsI (rwV b (gNx b) 40 0)) V.undef))).length *
 (1 : Nat)).ble
 (140737488355328 : Nat)) &&
 true then
 bif
 kdP
 ((rwV b (gNx b) 40 0).getD
 (lsI (rwV b (gNx b) 40 0)) V.undef) ==
 (6 : Int) then
 bif
 andT true
 (decide
 ((bdX b
 (ptA
 ((rwV b (gNx b) 40 0).getD
 (lsI (rwV b (gNx b) 40 0)) V.undef))).length ≤
 (140737488355328 : Nat))) then
 bif
 tpE
 (bdX b
 (ptA
 ((rwV b (gNx b) 40 0).getD
 (lsI (rwV b (gNx b) 40 0)) V.undef))) ==
 (0 : Int) then
 bif
 andT true
 (decide
 ((bdX b
 (ptA
 ((rwV b (gNx b) 40 0).getD
 (lsI (rwV b (gNx b) 40 0)) V.undef))).length ≤
 (140737488355327 : Nat))) then
 bif
 !both (gS b)
 (toA ((sS (cutL b (40 : Nat) b.length)).getD (0 : Nat) V.undef))
 (6 : Int)
 (bdX b
 (ptA
 ((rwV b (gNx b) 40 0).getD
 (lsI (rwV b (gNx b) 40 0)) V.undef))) ==
 (65535 : Int) then
 some (pkR (6 : Int))
 else
 bif
 tpE
 (bdX b
 (ptA
 ((rwV b (gNx b) 40 0).getD
 (lsI (rwV b (gNx b) 40 0)) V.undef))) !=
 (0 : Int) then
 some
 (pkR
 (tpE
 (bdX b
 (ptA
 ((rwV b (gNx b) 40 0).getD
 (lsI (rwV b (gNx b) 40 0)) V.undef)))))
 else
 some
 (V.tup
 [pqV
 { h := { c := gC b, la := gLa b, ln := gLn b, nx := gNx b, hp := gHp b, s := gS b, d := gD b }, r := true, sn := sN (cutL b (40 : Nat) b.length), sl := sL (cutL b (40 : Nat) b.length), sf := sF (cutL b (40 : Nat) b.length), sg := sT (cutL b (40 : Nat) b.length), ss := sS (cutL b (40 : Nat) b.length), sp := sP (cutL b (40 : Nat) b.length), fin := toA ((sS (cutL b (40 : Nat) b.length)).getD (0 : Nat) V.undef), k := kdP ((rwV b (gNx b) 40 0).getD (lsI (rwV b (gNx b) 40 0)) V.undef), t := tpXX (bdX b (ptA ((rwV b (gNx b) 40 0).getD (lsI (rwV b (gNx b) 40 0)) V.undef))), mk_ := (0 : Int), mc := (0 : Int), mw := (0 : Int), mb := [], body := bdX b (ptA ((rwV b (gNx b) 40 0).getD (lsI (rwV b (gNx b) 40 0)) V.undef)) },
 V.int IntKind.i64 0])
 else none
 else
 bif
 tpE
 (bdX b
 (ptA
 ((rwV b (gNx b) 40 0).getD
 (lsI (rwV b (gNx b) 40 0)) V.undef))) !=
 (0 : Int) then
 some
 (pkR
 (tpE
 (bdX b
 (ptA
 ((rwV b (gNx b) 40 0).getD
 (lsI (rwV b (gNx b) 40 0)) V.undef)))))
 else
 some
 (V.tup
 [pqV
 { h := { c := gC b, la := gLa b, ln := gLn b, nx := gNx b, hp := gHp b, s := gS b, d := gD b }, r := true, sn := sN (cutL b (40 : Nat) b.length), sl := sL (cutL b (40 : Nat) b.length), sf := sF (cutL b (40 : Nat) b.length), sg := sT (cutL b (40 : Nat) b.length), ss := sS (cutL b (40 : Nat) b.length), sp := sP (cutL b (40 : Nat) b.length), fin := toA ((sS (cutL b (40 : Nat) b.length)).getD (0 : Nat) V.undef), k := kdP ((rwV b (gNx b) 40 0).getD (lsI (rwV b (gNx b) 40 0)) V.undef), t := tpXX (bdX b (ptA ((rwV b (gNx b) 40 0).getD (lsI (rwV b (gNx b) 40 0)) V.undef))), mk_ := (0 : Int), mc := (0 : Int), mw := (0 : Int), mb := [], body := bdX b (ptA ((rwV b (gNx b) 40 0).getD (lsI (rwV b (gNx b) 40 0)) V.undef)) },
 V.int IntKind.i64 0])
 else none
 else
 bif
 kdP
 ((rwV b (gNx b) 40 0).getD
 (lsI (rwV b (gNx b) 40 0)) V.undef) ==
 (58 : Int) then
 bif
 andT true
 (decide
 ((bdX b
 (ptA
 ((rwV b (gNx b) 40 0).getD
 (lsI (rwV b (gNx b) 40 0)) V.undef))).length ≤
 (1048576 : Nat))) then
 bif
 ipE (gS b) (toA ((sS (cutL b (40 : Nat) b.length)).getD (0 : Nat) V.undef))
 (bdX b
 (ptA
 ((rwV b (gNx b) 40 0).getD
 (lsI (rwV b (gNx b) 40 0)) V.undef))) !=
 (0 : Int) then
 some
 (pkR
 (ipE (gS b)
 (toA ((sS (cutL b (40 : Nat) b.length)).getD (0 : Nat) V.undef))
 (bdX b
 (ptA
 ((rwV b (gNx b) 40 0).getD
 (lsI (rwV b (gNx b) 40 0)) V.undef)))))
 else
 some
 (V.tup
 [pqV
 { h := { c := gC b, la := gLa b, ln := gLn b, nx := gNx b, hp := gHp b, s := gS b, d := gD b }, r := true, sn := sN (cutL b (40 : Nat) b.length), sl := sL (cutL b (40 : Nat) b.length), sf := sF (cutL b (40 : Nat) b.length), sg := sT (cutL b (40 : Nat) b.length), ss := sS (cutL b (40 : Nat) b.length), sp := sP (cutL b (40 : Nat) b.length), fin := toA ((sS (cutL b (40 : Nat) b.length)).getD (0 : Nat) V.undef), k := kdP ((rwV b (gNx b) 40 0).getD (lsI (rwV b (gNx b) 40 0)) V.undef), t := { sp := (0 : Int), dp := (0 : Int), sq := (0 : Int), ak := (0 : Int), fl := (0 : Int), wn := (0 : Int), sm := (0 : Int), ug := (0 : Int), op := [], pl := [] }, mk_ := parI (ipE (gS b) (toA ((sS (cutL b (40 : Nat) b.length)).getD (0 : Nat) V.undef)) (bdX b (ptA ((rwV b (gNx b) 40 0).getD (lsI (rwV b (gNx b) 40 0)) V.undef)))) (gt (bdX b (ptA ((rwV b (gNx b) 40 0).getD (lsI (rwV b (gNx b) 40 0)) V.undef))) (0 : Nat)), mc := parI (ipE (gS b) (toA ((sS (cutL b (40 : Nat) b.length)).getD (0 : Nat) V.undef)) (bdX b (ptA ((rwV b (gNx b) 40 0).getD (lsI (rwV b (gNx b) 40 0)) V.undef)))) (gt (bdX b (ptA ((rwV b (gNx b) 40 0).getD (lsI (rwV b (gNx b) 40 0)) V.undef))) (1 : Nat)), mw := parI (ipE (gS b) (toA ((sS (cutL b (40 : Nat) b.length)).getD (0 : Nat) V.undef)) (bdX b (ptA ((rwV b (gNx b) 40 0).getD (lsI (rwV b (gNx b) 40 0)) V.undef)))) (be32 (bdX b (ptA ((rwV b (gNx b) 40 0).getD (lsI (rwV b (gNx b) 40 0)) V.undef))) (4 : Nat)), mb := parL (ipE (gS b) (toA ((sS (cutL b (40 : Nat) b.length)).getD (0 : Nat) V.undef)) (bdX b (ptA ((rwV b (gNx b) 40 0).getD (lsI (rwV b (gNx b) 40 0)) V.undef)))) (List.drop (8 : Nat) (bdX b (ptA ((rwV b (gNx b) 40 0).getD (lsI (rwV b (gNx b) 40 0)) V.undef)))), body := bdX b (ptA ((rwV b (gNx b) 40 0).getD (lsI (rwV b (gNx b) 40 0)) V.undef)) },
 V.int IntKind.i64 0])
 else none
 else some (pkR (7 : Int))
 else none
 else none
 else none
 else none
 else none
 else none
 else none
 else none := by kernel_rfl
theorem pq_err {b : List UInt8} {v : Int} (h : pqE1 b = v) (hv : v ≠ 0) : pqE b = v ∧ pqX b = pq0 := by
 have e : pqE b = v := by unfold pqE; rw [h, if_pos hv]
 exact ⟨e, by unfold pqX; rw [e, if_neg hv]⟩
theorem pq_up {b : List UInt8} (h : pqE1 b = 0) : pqE b = upE (gS b) (pqF b) (luK (pqL b)) (pqU b) := by
 unfold pqE; rw [h, if_neg (by decide)]
theorem pq_no {b : List UInt8} {v : Int} (h : pqE b = v) (hv : v ≠ 0) : pqX b = pq0 := by
 unfold pqX; rw [h, if_neg hv]
theorem pq_ok {b : List UInt8} (h : pqE b = 0) : pqX b = pqY b := by
 unfold pqX; rw [if_pos h]
set_option maxRecDepth 8000 in
set_option maxHeartbeats 4000000 in
theorem pkParse_v (b : List UInt8) : callV Epkf af_pkParse [.bytes b] = some (.tup [pqV (pqX b), .int .i64 (pqE b)]) := by
 rw [pkParse_t, show wkV b (gNx b) 40 = pqL b from rfl]
 simp only [cutL_all]
 rw [show b.drop (luA (pqL b)).toNat = pqU b from rfl, show b.drop 40 = pqTl b from rfl, show hrRt false (pqL b) 0 = pqRt b from rfl]
 have hlen := pqL_len b
 by_cases c1 : 1500 < b.length
 ·obtain ⟨e1, e2⟩ := pq_err (b := b) (v := 4) (by unfold pqE1; rw [if_pos c1]) (by decide)
  rw [e1, e2]
  simp (disch := omega) only [tre, okG_t]
  rfl
 by_cases c2 : gE b = 0
 rotate_left
 ·obtain ⟨e1, e2⟩ := pq_err (b := b) (v := gE b) (by unfold pqE1; rw [if_neg c1, if_pos c2]) c2
  rw [e1, e2]
  simp (disch := omega) only [tre, okG_t]
  rfl
 have h40 := gE_40 c2
 rw [w64 (x := (b.length : Int) - 40) (by omega) (by omega)]
 by_cases c3 : gLn b = (b.length : Int) - 40
 rotate_left
 ·obtain ⟨e1, e2⟩ := pq_err (b := b) (v := 5) (by unfold pqE1; rw [if_neg c1, if_neg (by simpa using c2), if_pos c3]) (by decide)
  rw [e1, e2]
  simp (disch := omega) only [tre, okG_t]
  rfl
 by_cases c4 : wkE b (gNx b) 40 = 0
 rotate_left
 ·obtain ⟨e1, e2⟩ := pq_err (b := b) (v := wkE b (gNx b) 40) (by unfold pqE1; rw [if_neg c1, if_neg (by simpa using c2), if_neg (by simpa using c3), if_pos c4]) c4
  rw [e1, e2]
  simp (disch := omega) only [tre, okG_t]
  rfl
 obtain ⟨l1, l2, l3⟩ := pqL_last c4
 have hu : (pqU b).length ≤ 1500 := by unfold pqU; rw [List.length_drop]; omega
 have ht : (pqTl b).length ≤ 1500 := by unfold pqTl; rw [List.length_drop]; omega
 cases c5 : hrBad (pqL b) 0 with
 | true =>
  obtain ⟨e1, e2⟩ := pq_err (b := b) (v := 7) (by unfold pqE1; rw [if_neg c1, if_neg (by simpa using c2), if_neg (by simpa using c3), if_neg (by simpa using c4), if_pos c5]) (by decide)
  rw [e1, e2]
  simp (disch := omega) only [tre, okG_t]
  rfl
 | false =>
 have e0 : pqE1 b = if pqRt b = true then (if shE (pqTl b) ≠ 0 then shE (pqTl b) else if sgAt (sS (pqTl b)) (sL (pqTl b)) ≠ gD b then 5 else 0) else 0 := by
  unfold pqE1; rw [if_neg c1, if_neg (by simpa using c2), if_neg (by simpa using c3), if_neg (by simpa using c4), if_neg (by rw [c5]; simp)]
 cases c6 : pqRt b with
 | false =>
  have e1 : pqE1 b = 0 := by rw [e0, c6]; rfl
  have eF : pqF b = gD b := by unfold pqF; rw [c6]; rfl
  have eu := pq_up e1
  rw [eF] at eu
  by_cases k6 : luK (pqL b) = 6
  ·rw [k6] at eu ⊢
   by_cases k1 : tpE (pqU b) = 0
   ·by_cases k2 : both (gS b) (gD b) 6 (pqU b) = 65535
    ·have e : pqE b = 0 := by rw [eu]; unfold upE; rw [if_pos rfl, if_neg (by simpa using k1), if_pos k2]
     rw [e, pq_ok e]
     unfold pqY
     rw [k6, c6, eF]
     simp (disch := omega) only [tre, okG_t]
     rfl
    ·have e : pqE b = 6 := by rw [eu]; unfold upE; rw [if_pos rfl, if_neg (by simpa using k1), if_neg k2]
     rw [e, pq_no e (by decide)]
     simp (disch := omega) only [tre, okG_t]
     rfl
   ·have e : pqE b = tpE (pqU b) := by rw [eu]; unfold upE; rw [if_pos rfl, if_pos k1]
    rw [e, pq_no e k1]
    simp (disch := omega) only [tre, okG_t]
    rfl
  ·by_cases k58 : luK (pqL b) = 58
   ·rw [k58] at eu ⊢
    have eu : pqE b = ipE (gS b) (gD b) (pqU b) := by rw [eu]; rfl
    by_cases k1 : ipE (gS b) (gD b) (pqU b) = 0
    ·have e : pqE b = 0 := by rw [eu, k1]
     rw [e, pq_ok e]
     unfold pqY
     rw [k58, c6, eF, k1]
     simp (disch := omega) only [tre, okG_t]
     rfl
    ·rw [eu, pq_no eu k1]
     simp (disch := omega) only [tre, okG_t]
     rfl
   ·have e : pqE b = 7 := by rw [eu]; unfold upE; rw [if_neg k6, if_neg k58]
    rw [e, pq_no e (by decide)]
    simp (disch := omega) only [tre, okG_t]
    rfl
 | true =>
  by_cases r1 : shE (pqTl b) = 0
  rotate_left
  ·obtain ⟨e1, e2⟩ := pq_err (b := b) (v := shE (pqTl b)) (by rw [e0, c6, if_pos rfl, if_pos r1]) r1
   rw [e1, e2]
   simp (disch := omega) only [tre, okG_t]
   rfl
  by_cases r2 : sgAt (sS (pqTl b)) (sL (pqTl b)) = gD b
  rotate_left
  ·obtain ⟨e1, e2⟩ := pq_err (b := b) (v := 5) (by rw [e0, c6, if_pos rfl, if_neg (by simpa using r1), if_pos r2]) (by decide)
   rw [e1, e2]
   have r3 : (sgAt (sS (pqTl b)) (sL (pqTl b)) == gD b) = false := by simpa using r2
   rw [r3]
   simp (disch := omega) only [tre, okG_t]
   rfl
  have r3 : (sgAt (sS (pqTl b)) (sL (pqTl b)) == gD b) = true := by simpa using r2
  rw [r3]
  have e1 : pqE1 b = 0 := by rw [e0, c6, if_pos rfl, if_neg (by simpa using r1), if_neg (by simpa using r2)]
  have eF : pqF b = sgAt (sS (pqTl b)) 0 := by unfold pqF; rw [c6]; rfl
  have eu := pq_up e1
  rw [eF] at eu
  by_cases k6 : luK (pqL b) = 6
  ·rw [k6] at eu ⊢
   by_cases k1 : tpE (pqU b) = 0
   ·by_cases k2 : both (gS b) (sgAt (sS (pqTl b)) 0) 6 (pqU b) = 65535
    ·have e : pqE b = 0 := by rw [eu]; unfold upE; rw [if_pos rfl, if_neg (by simpa using k1), if_pos k2]
     rw [e, pq_ok e]
     unfold pqY
     rw [k6, c6, eF]
     simp (disch := omega) only [tre, okG_t]
     rfl
    ·have e : pqE b = 6 := by rw [eu]; unfold upE; rw [if_pos rfl, if_neg (by simpa using k1), if_neg k2]
     rw [e, pq_no e (by decide)]
     simp (disch := omega) only [tre, okG_t]
     rfl
   ·have e : pqE b = tpE (pqU b) := by rw [eu]; unfold upE; rw [if_pos rfl, if_pos k1]
    rw [e, pq_no e k1]
    simp (disch := omega) only [tre, okG_t]
    rfl
  ·by_cases k58 : luK (pqL b) = 58
   ·rw [k58] at eu ⊢
    have eu : pqE b = ipE (gS b) (sgAt (sS (pqTl b)) 0) (pqU b) := by rw [eu]; rfl
    by_cases k1 : ipE (gS b) (sgAt (sS (pqTl b)) 0) (pqU b) = 0
    ·have e : pqE b = 0 := by rw [eu, k1]
     rw [e, pq_ok e]
     unfold pqY
     rw [k58, c6, eF, k1]
     simp (disch := omega) only [tre, okG_t]
     rfl
    ·rw [eu, pq_no eu k1]
     simp (disch := omega) only [tre, okG_t]
     rfl
   ·have e : pqE b = 7 := by rw [eu]; unfold upE; rw [if_neg k6, if_neg k58]
    rw [e, pq_no e (by decide)]
    simp (disch := omega) only [tre, okG_t]
    rfl
set_option maxRecDepth 8000 in
set_option maxHeartbeats 4000000 in
theorem rPkParse_v (b : List UInt8) : callV Epkg af_rPkParse [.bytes b] = some (.tup [pqV (pqX b), .int .i64 (pqE b)]) := by
 rw [rPkParse_t, show rwE b (gNx b) 40 0 = wkE b (gNx b) 40 from rfl, show rwV b (gNx b) 40 0 = pqL b from rfl]
 simp only [cutL_all, show hrBad (pqL b) 1 = hrBad (pqL b) 0 from rfl]
 rw [show b.drop 40 = pqTl b from rfl]
 have hlen := pqL_len b
 by_cases c1 : 1500 < b.length
 ·obtain ⟨e1, e2⟩ := pq_err (b := b) (v := 4) (by unfold pqE1; rw [if_pos c1]) (by decide)
  rw [e1, e2]
  simp (disch := omega) only [tre, okG_t]
  rfl
 by_cases c2 : gE b = 0
 rotate_left
 ·obtain ⟨e1, e2⟩ := pq_err (b := b) (v := gE b) (by unfold pqE1; rw [if_neg c1, if_pos c2]) c2
  rw [e1, e2]
  simp (disch := omega) only [tre, okG_t]
  rfl
 have h40 := gE_40 c2
 rw [w64 (x := (b.length : Int) - 40) (by omega) (by omega)]
 by_cases c3 : gLn b = (b.length : Int) - 40
 rotate_left
 ·obtain ⟨e1, e2⟩ := pq_err (b := b) (v := 5) (by unfold pqE1; rw [if_neg c1, if_neg (by simpa using c2), if_pos c3]) (by decide)
  rw [e1, e2]
  simp (disch := omega) only [tre, okG_t]
  rfl
 by_cases c4 : wkE b (gNx b) 40 = 0
 rotate_left
 ·obtain ⟨e1, e2⟩ := pq_err (b := b) (v := wkE b (gNx b) 40) (by unfold pqE1; rw [if_neg c1, if_neg (by simpa using c2), if_neg (by simpa using c3), if_pos c4]) c4
  rw [e1, e2]
  simp (disch := omega) only [tre, okG_t]
  rfl
 obtain ⟨l1, l2, l3⟩ := pqL_last c4
 have hu : (pqU b).length ≤ 1500 := by unfold pqU; rw [List.length_drop]; omega
 have hlw : IntKind.i64.wrap (((pqL b).length : Int) - 1) = ((pqL b).length : Int) - 1 := w64 (by omega) (by omega)
 have hls : lsI (pqL b) = (pqL b).length - 1 := by unfold lsI; rw [hlw]; omega
 have hbd : bdX b (luA (pqL b)) = pqU b := by unfold bdX pqU; rw [List.replicate_zero, List.nil_append, cutL_all]
 have hR : pqRt b = (kdP ((pqL b).getD 0 .undef) == 43) := by unfold pqRt; rw [hrRt_0 _ l1, Bool.false_or]
 rw [hls, hlw, show kdP ((pqL b).getD ((pqL b).length - 1) .undef) = luK (pqL b) from rfl, show ptA ((pqL b).getD ((pqL b).length - 1) .undef) = luA (pqL b) from rfl]
 simp only [hbd, Nat.mul_one]
 have ht : (pqTl b).length ≤ 1500 := by unfold pqTl; rw [List.length_drop]; omega
 cases c5 : hrBad (pqL b) 0 with
 | true =>
  obtain ⟨e1, e2⟩ := pq_err (b := b) (v := 7) (by unfold pqE1; rw [if_neg c1, if_neg (by simpa using c2), if_neg (by simpa using c3), if_neg (by simpa using c4), if_pos c5]) (by decide)
  rw [e1, e2]
  simp (disch := omega) only [tre, okG_t]
  rfl
 | false =>
 have e0 : pqE1 b = if pqRt b = true then (if shE (pqTl b) ≠ 0 then shE (pqTl b) else if sgAt (sS (pqTl b)) (sL (pqTl b)) ≠ gD b then 5 else 0) else 0 := by
  unfold pqE1; rw [if_neg c1, if_neg (by simpa using c2), if_neg (by simpa using c3), if_neg (by simpa using c4), if_neg (by rw [c5]; simp)]
 cases c6 : pqRt b with
 | false =>
  have c7 : kdP ((pqL b).getD 0 .undef) ≠ 43 := by rw [hR] at c6; simpa using c6
  have e1 : pqE1 b = 0 := by rw [e0, c6]; rfl
  have eF : pqF b = gD b := by unfold pqF; rw [c6]; rfl
  have eu := pq_up e1
  rw [eF] at eu
  by_cases k6 : luK (pqL b) = 6
  ·rw [k6] at eu ⊢
   by_cases k1 : tpE (pqU b) = 0
   ·by_cases k2 : both (gS b) (gD b) 6 (pqU b) = 65535
    ·have e : pqE b = 0 := by rw [eu]; unfold upE; rw [if_pos rfl, if_neg (by simpa using k1), if_pos k2]
     rw [e, pq_ok e]
     unfold pqY
     rw [k6, c6, eF]
     simp (disch := omega) only [tre, okG_t]
     rfl
    ·have e : pqE b = 6 := by rw [eu]; unfold upE; rw [if_pos rfl, if_neg (by simpa using k1), if_neg k2]
     rw [e, pq_no e (by decide)]
     simp (disch := omega) only [tre, okG_t]
     rfl
   ·have e : pqE b = tpE (pqU b) := by rw [eu]; unfold upE; rw [if_pos rfl, if_pos k1]
    rw [e, pq_no e k1]
    simp (disch := omega) only [tre, okG_t]
    rfl
  ·by_cases k58 : luK (pqL b) = 58
   ·rw [k58] at eu ⊢
    have eu : pqE b = ipE (gS b) (gD b) (pqU b) := by rw [eu]; rfl
    by_cases k1 : ipE (gS b) (gD b) (pqU b) = 0
    ·have e : pqE b = 0 := by rw [eu, k1]
     rw [e, pq_ok e]
     unfold pqY
     rw [k58, c6, eF, k1]
     simp (disch := omega) only [tre, okG_t]
     rfl
    ·rw [eu, pq_no eu k1]
     simp (disch := omega) only [tre, okG_t]
     rfl
   ·have e : pqE b = 7 := by rw [eu]; unfold upE; rw [if_neg k6, if_neg k58]
    rw [e, pq_no e (by decide)]
    simp (disch := omega) only [tre, okG_t]
    rfl
 | true =>
  have c7 : kdP ((pqL b).getD 0 .undef) = 43 := by rw [hR] at c6; simpa using c6
  by_cases r1 : shE (pqTl b) = 0
  rotate_left
  ·obtain ⟨e1, e2⟩ := pq_err (b := b) (v := shE (pqTl b)) (by rw [e0, c6, if_pos rfl, if_pos r1]) r1
   rw [e1, e2]
   simp (disch := omega) only [tre, okG_t]
   rfl
  obtain ⟨s1, s2, s3, s4, s5⟩ := shE_zero r1
  have s6 : (sS (pqTl b)).length = shN (pqTl b) := by unfold sS; rw [r1, zV, if_pos rfl, sgL_len]
  have s7 : sL (pqTl b) = gt (pqTl b) 3 := by unfold sL; rw [r1, zI, if_pos rfl]
  have s8 := (shN_hi (pqTl b)).1
  have s9 := gt_lo (pqTl b) 3
  have a0 : toA ((sS (pqTl b)).getD 0 .undef) = sgAt (sS (pqTl b)) 0 := by unfold sgAt; rw [if_pos ⟨by omega, by omega⟩]; rfl
  have aL : toA ((sS (pqTl b)).getD (sL (pqTl b)).toNat .undef) = sgAt (sS (pqTl b)) (sL (pqTl b)) := by unfold sgAt; rw [if_pos ⟨by omega, by omega⟩]
  rw [a0, aL]
  by_cases r2 : sgAt (sS (pqTl b)) (sL (pqTl b)) = gD b
  rotate_left
  ·obtain ⟨e1, e2⟩ := pq_err (b := b) (v := 5) (by rw [e0, c6, if_pos rfl, if_neg (by simpa using r1), if_pos r2]) (by decide)
   rw [e1, e2]
   have r3 : (sgAt (sS (pqTl b)) (sL (pqTl b)) == gD b) = false := by simpa using r2
   rw [r3]
   simp (disch := omega) only [tre, okG_t]
   rfl
  have r3 : (sgAt (sS (pqTl b)) (sL (pqTl b)) == gD b) = true := by simpa using r2
  rw [r3]
  have e1 : pqE1 b = 0 := by rw [e0, c6, if_pos rfl, if_neg (by simpa using r1), if_neg (by simpa using r2)]
  have eF : pqF b = sgAt (sS (pqTl b)) 0 := by unfold pqF; rw [c6]; rfl
  have eu := pq_up e1
  rw [eF] at eu
  by_cases k6 : luK (pqL b) = 6
  ·rw [k6] at eu ⊢
   by_cases k1 : tpE (pqU b) = 0
   ·by_cases k2 : both (gS b) (sgAt (sS (pqTl b)) 0) 6 (pqU b) = 65535
    ·have e : pqE b = 0 := by rw [eu]; unfold upE; rw [if_pos rfl, if_neg (by simpa using k1), if_pos k2]
     rw [e, pq_ok e]
     unfold pqY
     rw [k6, c6, eF]
     simp (disch := omega) only [tre, okG_t]
     rfl
    ·have e : pqE b = 6 := by rw [eu]; unfold upE; rw [if_pos rfl, if_neg (by simpa using k1), if_neg k2]
     rw [e, pq_no e (by decide)]
     simp (disch := omega) only [tre, okG_t]
     rfl
   ·have e : pqE b = tpE (pqU b) := by rw [eu]; unfold upE; rw [if_pos rfl, if_pos k1]
    rw [e, pq_no e k1]
    simp (disch := omega) only [tre, okG_t]
    rfl
  ·by_cases k58 : luK (pqL b) = 58
   ·rw [k58] at eu ⊢
    have eu : pqE b = ipE (gS b) (sgAt (sS (pqTl b)) 0) (pqU b) := by rw [eu]; rfl
    by_cases k1 : ipE (gS b) (sgAt (sS (pqTl b)) 0) (pqU b) = 0
    ·have e : pqE b = 0 := by rw [eu, k1]
     rw [e, pq_ok e]
     unfold pqY
     rw [k58, c6, eF, k1]
     simp (disch := omega) only [tre, okG_t]
     rfl
    ·rw [eu, pq_no eu k1]
     simp (disch := omega) only [tre, okG_t]
     rfl
   ·have e : pqE b = 7 := by rw [eu]; unfold upE; rw [if_neg k6, if_neg k58]
    rw [e, pq_no e (by decide)]
    simp (disch := omega) only [tre, okG_t]
    rfl
def cPkParse : List V → Option (V × Bool)
 | [.bytes b] => some (.tup [pqV (pqX b), .int .i64 (pqE b)], true)
 | _ => none
theorem pkParse_con : ∀ vs v, cPkParse vs = some (v, true) → SpecV Tryz.prog 41 vs v := by
 intro vs v h; unfold cPkParse at h; split at h
 ·rename_i b
  injection h with h; injection h with h hb; subst h
  exact callV_ok Epkf_ok af_pkParse_ok (pkParse_v b)
 ·cases h
theorem rPkParse_con : ∀ vs v, cPkParse vs = some (v, true) → SpecV Tryz.prog 15 vs v := by
 intro vs v h; unfold cPkParse at h; split at h
 ·rename_i b
  injection h with h; injection h with h hb; subst h
  exact callV_ok Epkg_ok af_rPkParse_ok (rPkParse_v b)
 ·cases h
end Go.Proofs.YtfhljcbbgckdiaaGreat