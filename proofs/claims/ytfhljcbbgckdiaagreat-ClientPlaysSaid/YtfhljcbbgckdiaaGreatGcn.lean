/- Part Gcn of the proof: laws used by the law of this claim. -/
import Derived.Test.YtfhljcbbgckdiaaGreatGcm
import Derived.Test.YtfhljcbbgckdiaaGreatGa
import Derived.Test.YtfhljcbbgckdiaaGreatGo
import Derived.Test.YtfhljcbbgckdiaaGreatGz
set_option linter.all false
namespace Go.Proofs.YtfhljcbbgckdiaaGreat
open Go Go.Am Go.RowKit Go.Bas
set_option maxRecDepth 100000
abbrev cRef : V := .ref 0 [] 0 shCl
def coN (x : CS) (n : Nat) (T : TypeId) (e : Sh) (out : List V) : List (Nat × Option Blk) :=
 [(0, some (.var shCl (.agg [.bool true, .barr 16 x.a, .int .i64 x.now, .own 2 n shCall]))), (1, some (.row T e (.rows e out))), (2, some (.row 39 shCall (.rows shCall x.l)))]
def coH (x : CS) (T : TypeId) (e : Sh) (out : List V) : List (Nat × Option Blk) := coN x x.l.length T e out
def up1 (l : List V) (i : Nat) (g : Cal → Cal) : List V := upC l i (g (atC l i))
theorem at_up1 {l : List V} {i : Nat} (h : i < l.length) (g : Cal → Cal) : atC (up1 l i g) i = g (atC l i) := atC_up h _
theorem up1_up1 {l : List V} {i : Nat} (h : i < l.length) (g k : Cal → Cal) : up1 (up1 l i g) i k = up1 l i (fun c => k (g c)) := by
 unfold up1
 rw [atC_up h, upC_up]
def pkC (c : Cal) (sq fl : Int) : Bool := decide ((fl = 2 ∨ fl = 16 ∨ fl = 17 ∨ fl = 24) ∧ u32ok sq ∧ u32ok c.nx)
def lsT {α : Type} (c : Cal) (k : List V → Option α) : Option α :=
 bif !(c.un != c.se) then k [] else bif !(decide (1 ≤ c.st) && decide (c.st ≤ 3)) then k []
 else bif c.st == 1 then (bif andT true (pkC c c.un 2) then k [.bytes (sgF c c.un 2 [])] else none)
 else bif decide (c.lo > 0) then (bif andT true (pkC c c.un 24) && true then k [.bytes (sgF c c.un 24 (stL (mx0 c.off) (mnS c.lo).toNat))] else none)
 else (bif andT true (pkC c c.un 17) then k [.bytes (sgF c c.un 17 [])] else none)
theorem lsT_v {α : Type} {c : Cal} (h : cOk c) (h1 : 1 ≤ c.st) (k : List V → Option α) : lsT c k = k (lsF c) := by
 obtain ⟨⟨a1, a2⟩, ⟨a3, a4⟩, a5, a6⟩ := h
 have p : ∀ fl : Int, (fl = 2 ∨ fl = 16 ∨ fl = 17 ∨ fl = 24) → pkC c c.un fl = true := fun fl hf => decide_eq_true ⟨hf, ⟨a3, a4⟩, a1, a2⟩
 unfold lsT lsF
 rw [p 2 (by omega), p 24 (by omega), p 17 (by omega)]
 by_cases c1 : c.un = c.se
 ·rw [if_pos c1]
  simp (disch := omega) only [tre]
 rw [if_neg c1]
 by_cases c2 : c.st > 3
 ·rw [if_pos c2]
  rw [show decide (c.st ≤ 3) = false from decide_eq_false (by omega)]
  simp only [Bool.and_false, Bool.not_false, cond_true]
  simp (disch := omega) only [tre]
 rw [if_neg c2]
 by_cases c3 : c.st = 1
 ·rw [if_pos c3]
  simp (disch := omega) only [tre]
 rw [if_neg c3]
 by_cases c4 : c.lo > 0
 ·rw [if_pos c4]
  simp (disch := omega) only [tre]
 rw [if_neg c4]
 simp (disch := omega) only [tre]
def rowT : TypeId := 34
def snS (x : CS) (i n : Int) : S := ⟨slots 0 [cRef, .int .i64 i, .int .i64 n], csH x, 2, true, 3⟩
def snN (x : CS) (k : Nat) (i n : Int) (out : List V) (e : Int) : S := ⟨[(1, cRef), (2, .int .i64 i), (3, .int .i64 n), (0, .tup [.own 1 out.length .bytes, .int .i64 e])], coN x k rowT .bytes out, 3, true, 4⟩
def snO (x : CS) (i n : Int) (out : List V) (e : Int) : S := snN x x.l.length i n out e
def snL (l : List V) (i : Nat) (n now : Int) : List V := up1 (up1 (up1 (up1 l i fun c => { c with lo := n }) i fun c => { c with si := now }) i fun c => { c with ag := 0 }) i fun c => { c with se := IntKind.u32.wrap (c.se + IntKind.u32.wrap n) }
theorem sn_t (x : CS) (i n : Int) : inlN Eclk 6 af_clSend [cRef, .int .i64 i, .int .i64 n] (snS x i n) (retB rowT .bytes [cRef, .int .i64 i, .int .i64 n] [0]) =
 bif decide (i < 0) then some (snO x i n [] 10) else bif decide (i ≥ (x.l.length : Int)) then some (snO x i n [] 10)
 else bif andT true (Am.inB i x.l.length) then
 bif (atC x.l i.toNat).st != 2 then some (snO x i n [] 11) else bif (atC x.l i.toNat).un != (atC x.l i.toNat).se then some (snO x i n [] 11)
 else bif decide (n < 1) then some (snO x i n [] 2) else bif decide (n > 100) then some (snO x i n [] 2)
 else lsT (atC (snL x.l i.toNat n x.now) i.toNat) fun out => some (snN ⟨x.a, x.now, snL x.l i.toNat n x.now⟩ x.l.length i n out 0)
 else none := by kernel_rfl
theorem snL_eq {l : List V} {i : Nat} (h : i < l.length) (n now : Int) : snL l i n now = upC l i (sndC (atC l i) n now) := by
 unfold snL
 rw [up1_up1 h, up1_up1 h, up1_up1 h]
 rfl
structure SnI where
 x : CS
 i : Int
 n : Int
def snGet (s : S) : SnI := ⟨csGet s, toI (lkD s 1), toI (lkD s 2)⟩
def snI (y : SnI) : Prop := lOk y.x.l
def CS.of (x : CS) (r : OpR) : CS := ⟨x.a, r.now, r.l⟩
def snR (y : SnI) : OpR := sndF y.x.now y.x.l y.i y.n
def vs_clSend : List Nat := [0]
noncomputable def rf_clSend : S → Option (Bool × Tr) := gN 3 (gW 0 3 39 shCall snGet (fun y => snS y.x y.i y.n) snI (fun y => .leaf .ret (snO (y.x.of (snR y)) y.i y.n (snR y).out (snR y).e)))
theorem clSend_ref : RefOk Tryz.prog 16 vs_clSend rf_clSend := by
 refine refN (refW (fun y _ => rfl) (refXB_ok Eclk_ok af_clSend_ok rowT .bytes [0] snGet (fun y => snS y.x y.i y.n) snI _ (fun y => [cRef, .int .i64 y.i, .int .i64 y.n]) (fun _ => rfl) ?_))
 rintro ⟨⟨a, now, l⟩, i, n⟩ h
 have h : lOk l := h
 refine ⟨_, ?_, .ret, .leaf⟩
 dsimp only [snR, CS.of]
 rw [sn_t]
 unfold sndF
 dsimp only
 by_cases c1 : mayF l i = 0
 ·obtain ⟨h0, h1, h2, h3⟩ := mayF_0 c1
  have hi : i.toNat < l.length := by omega
  have hok := (h.at hi).2
  rw [if_neg (by simpa using c1), snL_eq hi, atC_up hi]
  have hl : ∀ k : List V → Option S, lsT (sndC (atC l i.toNat) n now) k = k (lsF (sndC (atC l i.toNat) n now)) := lsT_v (sndC_ok hok.1 n now) (by show 1 ≤ (atC l i.toNat).st; omega)
  rw [hl]
  by_cases c2 : n < 1
  ·rw [if_pos c2]
   simp (disch := omega) only [tre]
  rw [if_neg c2]
  by_cases c3 : n > 100
  ·rw [if_pos c3]
   simp (disch := omega) only [tre]
  rw [if_neg c3]
  simp (disch := omega) only [tre]
  unfold snO
  dsimp only
  rw [upC_len]
 ·rw [if_pos c1]
  unfold mayF
  by_cases d1 : i < 0
  ·rw [if_pos d1]
   simp (disch := omega) only [tre]
  rw [if_neg d1]
  by_cases d2 : i ≥ (l.length : Int)
  ·rw [if_pos d2]
   simp (disch := omega) only [tre]
  rw [if_neg d2]
  by_cases d3 : (atC l i.toNat).st = 2
  ·rw [if_neg (by simpa using d3)]
   by_cases d4 : (atC l i.toNat).un = (atC l i.toNat).se
   ·exact absurd (by unfold mayF; rw [if_neg d1, if_neg d2, if_neg (by simpa using d3), if_neg (by simpa using d4)]) c1
   ·rw [if_pos d4]
    simp (disch := omega) only [tre]
  ·rw [if_pos d3]
   simp (disch := omega) only [tre]
def csS (x : CS) (i : Int) : S := ⟨slots 0 [cRef, .int .i64 i], csH x, 2, true, 2⟩
def csN (x : CS) (k : Nat) (i : Int) (out : List V) (e : Int) : S := ⟨[(1, cRef), (2, .int .i64 i), (0, .tup [.own 1 out.length .bytes, .int .i64 e])], coN x k rowT .bytes out, 3, true, 3⟩
def csO (x : CS) (i : Int) (out : List V) (e : Int) : S := csN x x.l.length i out e
def csL (l : List V) (i : Nat) (now : Int) : List V := up1 (up1 (up1 (up1 l i fun c => { c with st := 3 }) i fun c => { c with si := now }) i fun c => { c with ag := 0 }) i fun c => { c with se := IntKind.u32.wrap (c.se + 1) }
theorem cs_t (x : CS) (i : Int) : inlN Eclk 6 af_clClose [cRef, .int .i64 i] (csS x i) (retB rowT .bytes [cRef, .int .i64 i] [0]) =
 bif decide (i < 0) then some (csO x i [] 10) else bif decide (i ≥ (x.l.length : Int)) then some (csO x i [] 10)
 else bif andT true (Am.inB i x.l.length) then
 bif (atC x.l i.toNat).st != 2 then some (csO x i [] 11) else bif (atC x.l i.toNat).un != (atC x.l i.toNat).se then some (csO x i [] 11)
 else lsT (atC (csL x.l i.toNat x.now) i.toNat) fun out => some (csN ⟨x.a, x.now, csL x.l i.toNat x.now⟩ x.l.length i out 0)
 else none := by kernel_rfl
theorem csL_eq {l : List V} {i : Nat} (h : i < l.length) (now : Int) : csL l i now = upC l i (clsC (atC l i) now) := by
 unfold csL
 rw [up1_up1 h, up1_up1 h, up1_up1 h]
 rfl
structure CsI where
 x : CS
 i : Int
def csGt (s : S) : CsI := ⟨csGet s, toI (lkD s 1)⟩
def csI (y : CsI) : Prop := lOk y.x.l
def csR (y : CsI) : OpR := clsF y.x.now y.x.l y.i
def vs_clClose : List Nat := [0]
noncomputable def rf_clClose : S → Option (Bool × Tr) := gN 2 (gW 0 3 39 shCall csGt (fun y => csS y.x y.i) csI (fun y => .leaf .ret (csO (y.x.of (csR y)) y.i (csR y).out (csR y).e)))
theorem clClose_ref : RefOk Tryz.prog 17 vs_clClose rf_clClose := by
 refine refN (refW (fun y _ => rfl) (refXB_ok Eclk_ok af_clClose_ok rowT .bytes [0] csGt (fun y => csS y.x y.i) csI _ (fun y => [cRef, .int .i64 y.i]) (fun _ => rfl) ?_))
 rintro ⟨⟨a, now, l⟩, i⟩ h
 have h : lOk l := h
 refine ⟨_, ?_, .ret, .leaf⟩
 dsimp only [csR, CS.of]
 rw [cs_t]
 unfold clsF
 dsimp only
 by_cases c1 : mayF l i = 0
 ·obtain ⟨h0, h1, h2, h3⟩ := mayF_0 c1
  have hi : i.toNat < l.length := by omega
  have hok := (h.at hi).2
  rw [if_neg (by simpa using c1), csL_eq hi, atC_up hi]
  have hl : ∀ k : List V → Option S, lsT (clsC (atC l i.toNat) now) k = k (lsF (clsC (atC l i.toNat) now)) := lsT_v (clsC_ok hok.1 now) (by show (1 : Int) ≤ 3; omega)
  rw [hl]
  simp (disch := omega) only [tre]
  unfold csO
  dsimp only
  rw [upC_len]
 ·rw [if_pos c1]
  unfold mayF
  by_cases d1 : i < 0
  ·rw [if_pos d1]
   simp (disch := omega) only [tre]
  rw [if_neg d1]
  by_cases d2 : i ≥ (l.length : Int)
  ·rw [if_pos d2]
   simp (disch := omega) only [tre]
  rw [if_neg d2]
  by_cases d3 : (atC l i.toNat).st = 2
  ·rw [if_neg (by simpa using d3)]
   by_cases d4 : (atC l i.toNat).un = (atC l i.toNat).se
   ·exact absurd (by unfold mayF; rw [if_neg d1, if_neg d2, if_neg (by simpa using d3), if_neg (by simpa using d4)]) c1
   ·rw [if_pos d4]
    simp (disch := omega) only [tre]
  ·rw [if_pos d3]
   simp (disch := omega) only [tre]
def reO (x : CS) (i : Int) (out : List V) : S := ⟨[(1, cRef), (2, .int .i64 i), (0, .own 1 out.length .bytes)], coH x rowT .bytes out, 3, true, 3⟩
theorem re_t (x : CS) (i : Int) : inlN Eclk 6 af_clResend [cRef, .int .i64 i] (csS x i) (retB rowT .bytes [cRef, .int .i64 i] [0]) =
 bif decide (i < 0) then some (reO x i []) else bif decide (i ≥ (x.l.length : Int)) then some (reO x i [])
 else bif andT true (Am.inB i x.l.length) then bif andT true (Am.inB i x.l.length) then lsT (atC x.l i.toNat) fun out => some (reO x i out) else none else none := by kernel_rfl
def vs_clResend : List Nat := [0]
noncomputable def rf_clResend : S → Option (Bool × Tr) := gN 2 (gW 0 3 39 shCall csGt (fun y => csS y.x y.i) csI (fun y => .leaf .ret (reO y.x y.i (rsnF y.x.l y.i))))
theorem clResend_ref : RefOk Tryz.prog 19 vs_clResend rf_clResend := by
 refine refN (refW (fun y _ => rfl) (refXB_ok Eclk_ok af_clResend_ok rowT .bytes [0] csGt (fun y => csS y.x y.i) csI _ (fun y => [cRef, .int .i64 y.i]) (fun _ => rfl) ?_))
 rintro ⟨⟨a, now, l⟩, i⟩ h
 have h : lOk l := h
 refine ⟨_, ?_, .ret, .leaf⟩
 dsimp only
 rw [re_t]
 unfold rsnF
 dsimp only
 by_cases d1 : i < 0
 ·rw [if_pos d1]
  simp (disch := omega) only [tre]
 rw [if_neg d1]
 by_cases d2 : i ≥ (l.length : Int)
 ·rw [if_pos d2]
  simp (disch := omega) only [tre]
 rw [if_neg d2]
 obtain ⟨_, hok, ⟨g1, _⟩, _⟩ := h.at (i := i.toNat) (by omega)
 rw [lsT_v hok g1]
 simp (disch := omega) only [tre]
def caS (x : CS) : S := ⟨slots 0 [cRef], csH x, 2, true, 1⟩
def caO (x : CS) : S := ⟨[(1, cRef), (0, .own 1 x.l.length shCall)], coH x 39 shCall x.l, 3, true, 2⟩
theorem ca_t (x : CS) : inlN Eclk 6 af_clCalls [cRef] (caS x) (retB rowT .bytes [cRef] [0]) = bif andT true (decide (x.l.length ≤ 1000)) then some (caO x) else none := by kernel_rfl
def vs_clCalls : List Nat := [0]
noncomputable def rf_clCalls : S → Option (Bool × Tr) := gN 1 (gW 0 3 39 shCall csGet caS (fun x => lOk x.l) (fun x => .leaf .ret (caO x)))
theorem clCalls_ref : RefOk Tryz.prog 11 vs_clCalls rf_clCalls := by
 refine refN (refW (fun y _ => rfl) (refXB_ok Eclk_ok af_clCalls_ok rowT .bytes [0] csGet caS (fun x => lOk x.l) _ (fun _ => [cRef]) (fun _ => rfl) ?_))
 rintro ⟨a, now, l⟩ h
 have h : lOk l := h
 have hM := h.1
 refine ⟨_, ?_, .ret, .leaf⟩
 rw [ca_t]
 dsimp only
 simp (disch := omega) only [tre]
noncomputable def af_clConn : AF := afOf Tryz.prog Tryz.f8 []
theorem af_clConn_ok : AllOk Tryz.prog 8 af_clConn := .flat Tryz.func8 (by kernel_rfl) (by kernel_rfl) (by kernel_rfl) (by kernel_rfl) (by kernel_rfl)
noncomputable def GEcll : List (Nat × Con) := [(49, .val [.other .ptr] cClOut), (50, .val [.other .ptr] cClLives), (51, .val [.other .ptr, .int .u32, .int .i64, .bytes] cClPacket), (20, .val [.int .i64, .int .i64] cStream), (23, .val [.agg [.int .u64, .int .u64], .agg [.barr 16, .int .i64, .barr 16, .int .i64]] cKyFlowS)]
theorem GEcll_ok : GOk Tryz.prog GEcll := .cons (enters_of Tryz.func49 (by kernel_rfl) rfl) clOut_con <| .cons (enters_of Tryz.func50 (by kernel_rfl) rfl) clLives_con <| .cons (enters_of Tryz.func51 (by kernel_rfl) rfl) clPacket_con <| .cons (enters_of Tryz.func20 (by kernel_rfl) rfl) clStream_con <| .cons (enters_of Tryz.func23 (by kernel_rfl) rfl) kyFlowS_con <| .nil
noncomputable def IEcll : List (Nat × AF) := [(22, af_clIs), (24, af_clLast)]
theorem IEcll_ok : IOk Tryz.prog IEcll := .cons af_clIs_ok <| .cons af_clLast_ok <| .nil
noncomputable def CEcll : List (Nat × (List Nat × (S → Option (Bool × Tr)))) := []
theorem CEcll_ok : COk Tryz.prog CEcll := .nil
noncomputable def XEcll : List (Nat × (List Sh × (List V → PT))) := []
theorem XEcll_ok : XOk Tryz.prog XEcll := .nil
noncomputable def Ecll : Env := ⟨Tryz.prog, GEcll, IEcll, CEcll, XEcll, false⟩
theorem Ecll_ok : EnvOk Ecll := ⟨by kernel_rfl, GEcll_ok, IEcll_ok, CEcll_ok, XEcll_ok⟩
def cnS (x : CS) (d : List UInt8) (p : Int) : S := ⟨slots 0 [cRef, .barr 16 d, .int .i64 p], csH x, 2, true, 3⟩
def cnN (x : CS) (k : Nat) (d : List UInt8) (p n : Int) (out : List V) (e : Int) : S := ⟨[(1, cRef), (2, .barr 16 d), (3, .int .i64 p), (0, .tup [.int .i64 n, .own 1 out.length .bytes, .int .i64 e])], coN x k rowT .bytes out, 3, true, 4⟩
def cnO (x : CS) (d : List UInt8) (p n : Int) (out : List V) (e : Int) : S := cnN x x.l.length d p n out e
theorem cn_t (x : CS) (d : List UInt8) (p : Int) : inlN Ecll 6 af_clConn [cRef, .barr 16 d, .int .i64 p] (cnS x d p) (retB rowT .bytes [cRef, .barr 16 d, .int .i64 p] [0]) =
 bif decide (p < 1) then some (cnO x d p 0 [] 2) else bif decide (p > 65535) then some (cnO x d p 0 [] 2) else bif decide ((x.l.length : Int) ≥ 8) then some (cnO x d p 0 [] 8)
 else bif andT true (decide (x.a.length = 16 ∧ d.length = 16)) then
 bif andT true (Nat.ble ((x.l ++ [(cnnC x.a x.now x.l.length d p).v]).length * 104) 140737488355328) && true then
 lsT (cnnC x.a x.now x.l.length d p) fun out => some (cnO ⟨x.a, x.now, x.l ++ [(cnnC x.a x.now x.l.length d p).v]⟩ d p x.l.length out 0)
 else none else none := by kernel_rfl
structure CnI where
 x : CS
 d : List UInt8
 p : Int
def cnGet (s : S) : CnI := ⟨csGet s, toA (lkD s 1), toI (lkD s 2)⟩
def cnI (y : CnI) : Prop := lOk y.x.l ∧ y.x.a.length = 16 ∧ y.d.length = 16
noncomputable def cnR (y : CnI) : OpR := cnnF y.x.a y.x.now y.x.l y.d y.p
def vs_clConn : List Nat := [0]
noncomputable def rf_clConn : S → Option (Bool × Tr) := gN 3 (gW 0 3 39 shCall cnGet (fun y => cnS y.x y.d y.p) cnI (fun y => .leaf .ret (cnO (y.x.of (cnR y)) y.d y.p (cnR y).n (cnR y).out (cnR y).e)))
theorem clConn_ref : RefOk Tryz.prog 8 vs_clConn rf_clConn := by
 refine refN (refW (fun y _ => rfl) (refXB_ok Ecll_ok af_clConn_ok rowT .bytes [0] cnGet (fun y => cnS y.x y.d y.p) cnI _ (fun y => [cRef, .barr 16 y.d, .int .i64 y.p]) (fun _ => rfl) ?_))
 rintro ⟨⟨a, now, l⟩, d, p⟩ ⟨h, ha, hd⟩
 have h : lOk l := h
 have ha : a.length = 16 := ha
 have hd : d.length = 16 := hd
 have hM := h.1
 refine ⟨_, ?_, .ret, .leaf⟩
 dsimp only [cnR, CS.of]
 rw [cn_t]
 unfold cnnF
 dsimp only
 have hc := cnnC_ok a now l.length d p
 have hlen : ((l ++ [(cnnC a now l.length d p).v]).length * 104) ≤ 140737488355328 := by rw [List.length_append]; simp; omega
 have hl : ∀ k : List V → Option S, lsT (cnnC a now l.length d p) k = k (lsF (cnnC a now l.length d p)) := lsT_v hc (by show (1 : Int) ≤ 1; omega)
 rw [hl]
 by_cases c1 : p < 1
 ·rw [if_pos c1]
  simp (disch := omega) only [tre]
 rw [if_neg c1]
 by_cases c2 : p > 65535
 ·rw [if_pos c2]
  simp (disch := omega) only [tre]
 rw [if_neg c2]
 by_cases c3 : (l.length : Int) ≥ 8
 ·rw [if_pos c3]
  simp (disch := omega) only [tre]
 rw [if_neg c3]
 simp (disch := omega) only [tre]
def agL (l : List V) (i : Nat) (now : Int) : List V := up1 (up1 l i fun c => { c with ag := IntKind.i64.wrap (c.ag + 1) }) i fun c => { c with si := now }
def agT {α : Type} (l : List V) (i : Nat) (now : Int) (k : List V → List V → Option α) : Option α :=
 bif !(decide (1 ≤ (atC l i).st) && decide ((atC l i).st ≤ 3)) then k l [] else bif !((atC l i).un != (atC l i).se) then k l []
 else bif andT true (decide (0 ≤ (atC l i).ag)) && true then
  bif decide (IntKind.i64.wrap (now - (atC l i).si) < IntKind.i64.wrap (1 * 2 ^ (min (atC l i).ag.toNat 64))) then k l []
  else bif decide ((atC l i).ag ≥ 3) then k (up1 l i fun c => { c with st := 5 }) []
  else lsT (atC (agL l i now) i) fun o => k (agL l i now) o
 else none
theorem shl_eq {k : Int} (h0 : 0 ≤ k) (h1 : k ≤ 3) : IntKind.i64.wrap (1 * 2 ^ (min k.toNat 64)) = waF k := by
 have : k = 0 ∨ k = 1 ∨ k = 2 ∨ k = 3 := by omega
 rcases this with rfl | rfl | rfl | rfl <;> rfl
theorem agL_eq {l : List V} {i : Nat} (h : i < l.length) (now : Int) : agL l i now = upC l i (agC (atC l i) now) := by
 unfold agL
 rw [up1_up1 h]
 rfl
theorem agT_v {α : Type} {l : List V} {i : Nat} {now : Int} (h : lOk l) (hi : i < l.length) (k : List V → List V → Option α) : agT l i now k = match tk1 (atC l i) now with | none => k l [] | some (c, o) => k (upC l i c) o := by
 obtain ⟨_, hok, ⟨g1, g2⟩, ⟨g3, g4⟩, g5, g6⟩ := h.at hi
 have hok2 : cOk (agC (atC l i) now) := hok
 unfold agT tk1
 rw [agL_eq hi, atC_up hi]
 have hl := lsT_v hok2 g1 fun o => k (upC l i (agC (atC l i) now)) o
 rw [hl]
 simp only [shl_eq g3 g4]
 by_cases c1 : (atC l i).st > 3
 ·rw [if_pos c1, show decide ((atC l i).st ≤ 3) = false from decide_eq_false (by omega)]
  simp only [Bool.and_false, Bool.not_false, cond_true]
 rw [if_neg c1]
 by_cases c2 : (atC l i).un = (atC l i).se
 ·rw [if_pos c2]
  simp (disch := omega) only [tre]
 rw [if_neg c2]
 by_cases c3 : IntKind.i64.wrap (now - (atC l i).si) < waF (atC l i).ag
 ·rw [if_pos c3]
  simp (disch := omega) only [tre]
 rw [if_neg c3]
 by_cases c4 : (atC l i).ag = 3
 ·rw [if_pos c4]
  simp (disch := omega) only [tre]
  rfl
 ·rw [if_neg c4]
  simp (disch := omega) only [tre]
structure TpyI where
 x : CS
 out : List V
 i : Int
def tpyN (x : CS) (k : Nat) (out : List V) (m : Nat) (i : Int) : S := ⟨[(0, cRef), (18, .own 1 k shCall), (19, .int .i64 k), (20, .int .i64 i), (3, .own 2 m .bytes)],
 [(0, some (.var shCl (.agg [.bool true, .barr 16 x.a, .int .i64 x.now, .own 1 k shCall]))), (1, some (.row 39 shCall (.rows shCall x.l))), (2, some (.row rowT .bytes (.rows .bytes out)))], 3, true, 35⟩
def tpyS (y : TpyI) : S := tpyN y.x y.x.l.length y.out y.out.length y.i
def tpyX (y : TpyI) : S := ⟨[(0, cRef), (18, .own 1 y.x.l.length shCall), (3, .own 2 y.out.length .bytes)],
 [(0, some (.var shCl (.agg [.bool true, .barr 16 y.x.a, .int .i64 y.x.now, .own 1 y.x.l.length shCall]))), (1, some (.row 39 shCall (.rows shCall y.x.l))), (2, some (.row rowT .bytes (.rows .bytes y.out)))], 3, true, 35⟩
def tpyGet (s : S) : TpyI := ⟨csGet s, toR (bkD s 2), toI (lkD s 20)⟩
def tpyI (y : TpyI) : Prop := 0 ≤ y.i ∧ y.i ≤ y.x.l.length ∧ lOk y.x.l ∧ y.out.length ≤ y.i
def tpyE (y : TpyI) : TpyI := { y with x := ⟨y.x.a, y.x.now, (tkN y.x.now (y.x.l.length - y.i.toNat) y.x.l y.i.toNat y.out).1⟩, out := (tkN y.x.now (y.x.l.length - y.i.toNat) y.x.l y.i.toNat y.out).2 }
noncomputable def tpyG : S → Option (Bool × Tr) := gK tpyGet tpyS tpyI (fun y => .leaf (.exit 0) (tpyX (tpyE y)))
noncomputable def af_clAgain : AF := afOf Tryz.prog Tryz.f26 []
theorem af_clAgain_ok : AllOk Tryz.prog 26 af_clAgain := .flat Tryz.func26 (by kernel_rfl) (by kernel_rfl) (by kernel_rfl) (by kernel_rfl) (by kernel_rfl)
noncomputable def af_clTick : AF := afOf Tryz.prog Tryz.f10 [.sum [0, 18, 19, 20, 3] [0] tpyG]
noncomputable def GEclm : List (Nat × Con) := [(49, .val [.other .ptr] cClOut), (50, .val [.other .ptr] cClLives), (51, .val [.other .ptr, .int .u32, .int .i64, .bytes] cClPacket), (20, .val [.int .i64, .int .i64] cStream)]
theorem GEclm_ok : GOk Tryz.prog GEclm := .cons (enters_of Tryz.func49 (by kernel_rfl) rfl) clOut_con <| .cons (enters_of Tryz.func50 (by kernel_rfl) rfl) clLives_con <| .cons (enters_of Tryz.func51 (by kernel_rfl) rfl) clPacket_con <| .cons (enters_of Tryz.func20 (by kernel_rfl) rfl) clStream_con <| .nil
noncomputable def IEclm : List (Nat × AF) := [(22, af_clIs), (24, af_clLast), (26, af_clAgain)]
theorem IEclm_ok : IOk Tryz.prog IEclm := .cons af_clIs_ok <| .cons af_clLast_ok <| .cons af_clAgain_ok <| .nil
noncomputable def CEclm : List (Nat × (List Nat × (S → Option (Bool × Tr)))) := []
theorem CEclm_ok : COk Tryz.prog CEclm := .nil
noncomputable def XEclm : List (Nat × (List Sh × (List V → PT))) := []
theorem XEclm_ok : XOk Tryz.prog XEclm := .nil
noncomputable def Eclm : Env := ⟨Tryz.prog, GEclm, IEclm, CEclm, XEclm, false⟩
theorem Eclm_ok : EnvOk Eclm := ⟨by kernel_rfl, GEclm_ok, IEclm_ok, CEclm_ok, XEclm_ok⟩
noncomputable def tpyC : AC := (af_clTick.ac.sums.headD (.skip, [], [], fun _ => none)).1
def apO (out o : List V) : List V := match o with | [] => out | x :: r => out ++ x :: r
theorem tpy_b (x : CS) (out : List V) (i : Int) : aev Eclm (inlN Eclm 6) tpyC (bodyF (Am.ways [0, 18, 19, 20, 3] [0, 18, 3] []) [0]) (tpyS ⟨x, out, i⟩) =
 bif decide (i < (x.l.length : Int)) then bif andT true (Am.inB i x.l.length) then bif andT true (Am.inB i x.l.length) then
 agT x.l i.toNat x.now fun l o => bif andT true (Nat.ble ((apO out o).length * 24) 140737488355328) then some (.normal, tpyN ⟨x.a, x.now, l⟩ x.l.length (apO out o) (apO out o).length (IntKind.i64.wrap (i + 1))) else none
 else none else none else some (.exit 0, tpyX ⟨x, out, i⟩) := by kernel_rfl
theorem apO_eq (out o : List V) : apO out o = out ++ o := by
 cases o with
 | nil => rw [List.append_nil]; rfl
 | cons x r => rfl
theorem tpy_loop : LoopOk Tryz.prog tpyC.erase [0] tpyG := by
 refine loopK (fun _ => rfl) (fun x _ => rfl) (loopX_ok Eclm_ok (d := 6) (AC.flat_ok (by kernel_rfl)) (Am.ways [0, 18, 19, 20, 3] [0, 18, 3] []) [0] tpyGet _ _ tpyI (fun y => (y.x.l.length - y.i).toNat) (fun _ => rfl) ?_)
 rintro ⟨⟨a, now, l⟩, out, i⟩ ⟨h0, h1, hl, ho⟩
 rw [tpy_b]
 simp only at h0 h1 hl ho ⊢
 have hM := hl.1
 obtain ⟨k, rfl⟩ := Int.eq_ofNat_of_zero_le h0
 simp only [Int.toNat_natCast]
 by_cases hi : k < l.length
 ·obtain ⟨hv, hok, ⟨g1, g2⟩, ⟨g3, g4⟩, g5, g6⟩ := hl.at hi
  have e1 : l.length - k = (l.length - (k + 1)) + 1 := by omega
  have ek : ((k : Int) + 1).toNat = k + 1 := by omega
  rw [agT_v hl hi]
  cases ht : tk1 (atC l k) now with
  | none =>
   refine .inl ⟨⟨⟨a, now, l⟩, out, k + 1⟩, ?_, ⟨by dsimp only; omega, by dsimp only; omega, hl, by dsimp only; omega⟩, by dsimp only; omega, leaf_eq ?_⟩
   ·dsimp only [apO]
    simp (disch := omega) only [tre]
    rfl
   ·dsimp only [tpyE]
    rw [ek, Int.toNat_natCast, e1, tkN, ht]
    rfl
  | some co =>
   obtain ⟨c, o⟩ := co
   have hc : cGd c ∧ o.length ≤ 1 := by
    unfold tk1 at ht
    split at ht
    ·cases ht
    split at ht
    ·cases ht
    split at ht
    ·cases ht
    split at ht
    ·injection ht with ht; injection ht with e1 e2; subst e1; subst e2
     exact ⟨⟨hok, ⟨by show (1 : Int) ≤ 5; omega, by show (5 : Int) ≤ 5; omega⟩, ⟨g3, g4⟩, g5, g6⟩, by simp⟩
    ·rename_i hn3
     injection ht with ht; injection ht with e1 e2; subst e1; subst e2
     have hw : IntKind.i64.wrap ((atC l k).ag + 1) = (atC l k).ag + 1 := w64 (by omega) (by omega)
     exact ⟨⟨hok, ⟨g1, g2⟩, ⟨by show 0 ≤ IntKind.i64.wrap ((atC l k).ag + 1); omega, by show IntKind.i64.wrap ((atC l k).ag + 1) ≤ 3; omega⟩, g5, g6⟩, lsF_len _⟩
   refine .inl ⟨⟨⟨a, now, upC l k c⟩, out ++ o, k + 1⟩, ?_, ⟨by dsimp only; omega, by dsimp only; rw [upC_len]; omega, hl.up hc.1 k, by dsimp only; rw [List.length_append]; omega⟩, by dsimp only; rw [upC_len]; omega, leaf_eq ?_⟩
   ·have hb : (out ++ o).length * 24 ≤ 140737488355328 := by rw [List.length_append]; omega
    dsimp only
    rw [apO_eq]
    simp (disch := omega) only [tre]
    unfold tpyS
    dsimp only
    rw [upC_len]
   ·dsimp only [tpyE]
    rw [ek, Int.toNat_natCast, upC_len, e1, tkN, ht]
    rfl
 ·refine .inr ⟨.exit 0, tpyX ⟨⟨a, now, l⟩, out, k⟩, ?_, nofun, ?_⟩
  ·simp (disch := omega) only [tre]
  ·unfold tpyE
   dsimp only
   rw [Int.toNat_natCast, show l.length - k = 0 by omega]
   exact .leaf
theorem af_clTick_ok : AllOk Tryz.prog 10 af_clTick := .sums Tryz.func10 (by kernel_rfl) (by kernel_rfl) (by kernel_rfl) (by kernel_rfl) (sums_one (c := tpyC) (ts := [0, 18, 19, 20, 3]) (by kernel_rfl) (by kernel_rfl) tpy_loop)
def tpyS0 (x : CS) : S := ⟨[(0, cRef), (18, .own 1 x.l.length shCall), (19, .int .i64 x.l.length), (20, .int .i64 0), (3, .nils)], csH x, 2, true, 35⟩
theorem tpyW (x : CS) : Weak (tpyS0 x) (tpyS ⟨x, [], 0⟩) := by
 refine .slot (t := 3) (T := rowT) (sh := .bytes) ⟨rfl, rfl, rfl, rfl, fun u hu => ?_, rfl, fun i hi => ?_⟩
 ·have hb : Nat.beq 3 u = false := Bool.eq_false_iff.2 fun e => hu (Nat.eq_of_beq_eq_true e).symm
  simp only [tpyS, tpyN, tpyS0, Am.look, hb, cond_false]
 ·have hi : i ≠ 2 := hi
  have hb : Nat.beq 2 i = false := Bool.eq_false_iff.2 fun e => hi (Nat.eq_of_beq_eq_true e).symm
  simp only [tpyS, tpyN, tpyS0, csH, Am.lookH, hb, cond_false]
noncomputable def tpyOk (x : CS) : Bool := okG (Weak (tpyS0 x) (tpyS ⟨x, [], 0⟩) ∧ tpyI ⟨x, [], 0⟩)
def tiO (x : CS) (out : List V) : S := ⟨[(1, cRef), (0, .own 1 out.length .bytes)], coH x rowT .bytes out, 3, true, 2⟩
theorem ti_t (x : CS) : inlN Eclm 6 af_clTick [cRef] (caS x) (retB rowT .bytes [cRef] [0]) =
 bif tpyOk ⟨x.a, IntKind.i64.wrap (x.now + 1), x.l⟩ then some (tiO (x.of (tckF x.now x.l)) (tckF x.now x.l).out) else none := by kernel_rfl
def vs_clTick : List Nat := [0]
noncomputable def rf_clTick : S → Option (Bool × Tr) := gN 1 (gW 0 3 39 shCall csGet caS (fun x => lOk x.l) (fun x => .leaf .ret (tiO (x.of (tckF x.now x.l)) (tckF x.now x.l).out)))
theorem clTick_ref : RefOk Tryz.prog 10 vs_clTick rf_clTick := by
 refine refN (refW (fun y _ => rfl) (refXB_ok Eclm_ok af_clTick_ok rowT .bytes [0] csGet caS (fun x => lOk x.l) _ (fun _ => [cRef]) (fun _ => rfl) ?_))
 rintro ⟨a, now, l⟩ h
 have h : lOk l := h
 refine ⟨_, ?_, .ret, .leaf⟩
 rw [ti_t, show tpyOk ⟨a, IntKind.i64.wrap (now + 1), l⟩ = true from okG_t ⟨tpyW _, Int.le_refl 0, by show (0 : Int) ≤ (l.length : Int); omega, h, by show (([] : List V).length : Int) ≤ 0; simp⟩]
 rfl
end Go.Proofs.YtfhljcbbgckdiaaGreat
namespace Go.Proofs.YtfhljcbbgckdiaaGreat
open Go Go.Am Go.RowKit Go.Mix Go.Bas
set_option maxRecDepth 100000
noncomputable def af_clFlBack : AF := afOf Tryz.prog Tryz.f45 []
theorem af_clFlBack_ok : AllOk Tryz.prog 45 af_clFlBack := .flat Tryz.func45 (by kernel_rfl) (by kernel_rfl) (by kernel_rfl) (by kernel_rfl) (by kernel_rfl)
noncomputable def GEcln0 : List (Nat × Con) := []
theorem GEcln0_ok : GOk Tryz.prog GEcln0 := .nil
noncomputable def IEcln0 : List (Nat × AF) := []
theorem IEcln0_ok : IOk Tryz.prog IEcln0 := .nil
noncomputable def CEcln0 : List (Nat × (List Nat × (S → Option (Bool × Tr)))) := []
theorem CEcln0_ok : COk Tryz.prog CEcln0 := .nil
noncomputable def XEcln0 : List (Nat × (List Sh × (List V → PT))) := []
theorem XEcln0_ok : XOk Tryz.prog XEcln0 := .nil
noncomputable def Ecln0 : Env := ⟨Tryz.prog, GEcln0, IEcln0, CEcln0, XEcln0, false⟩
theorem Ecln0_ok : EnvOk Ecln0 := ⟨by kernel_rfl, GEcln0_ok, IEcln0_ok, CEcln0_ok, XEcln0_ok⟩
theorem clFlBack_t (s d : List UInt8) (sp dp : Int) : callV Ecln0 af_clFlBack [.agg [.barr 16 s, .int .i64 sp, .barr 16 d, .int .i64 dp]] = some (.agg [.barr 16 d, .int .i64 dp, .barr 16 s, .int .i64 sp]) := by kernel_rfl
def cClFlBack : List V → Option (V × Bool)
 | [.agg [.barr 16 s, .int .i64 sp, .barr 16 d, .int .i64 dp]] => some (.agg [.barr 16 d, .int .i64 dp, .barr 16 s, .int .i64 sp], true)
 | _ => none
theorem clFlBack_con : ∀ vs v, cClFlBack vs = some (v, true) → SpecV Tryz.prog 45 vs v := by
 intro vs v h; unfold cClFlBack at h; split at h
 ·rename_i s sp d dp
  injection h with h; injection h with h hb; subst h
  exact callV_ok Ecln0_ok af_clFlBack_ok (clFlBack_t s d sp dp)
 ·cases h
def Fw.back (f : Fw) : Fw := ⟨f.d, f.dp, f.s, f.sp⟩
structure HxI where
 l : List V
 f : Fw
 i : Int
def hxS (x : HxI) : S := ⟨[(0, .own 0 x.l.length shCall), (1, .fn 44 [] [.ref 1 [] 0 shFlw]), (7, .int .i64 x.l.length), (8, .int .i64 x.i)],
 [(0, some (.row 39 shCall (.rows shCall x.l))), (1, some (.var shFlw x.f.v))], 2, true, 19⟩
def hxX (x : HxI) : S := ⟨[(0, .own 0 x.l.length shCall), (1, .fn 44 [] [.ref 1 [] 0 shFlw])],
 [(0, some (.row 39 shCall (.rows shCall x.l))), (1, some (.var shFlw x.f.v))], 2, true, 19⟩
def hxR (x : HxI) (k : Int) : S := ⟨[(0, .own 0 x.l.length shCall), (1, .fn 44 [] [.ref 1 [] 0 shFlw]), (4, .int .i64 k)],
 [(0, some (.row 39 shCall (.rows shCall x.l))), (1, some (.var shFlw x.f.v))], 2, true, 19⟩
def hxGet (s : S) : HxI := ⟨toR (bkD s 0), ⟨toA (aG (bkD s 1) 0), toI (aG (bkD s 1) 1), toA (aG (bkD s 1) 2), toI (aG (bkD s 1) 3)⟩, toI (lkD s 8)⟩
def hxI (x : HxI) : Prop := 0 ≤ x.i ∧ x.i ≤ x.l.length ∧ x.l.length ≤ 1000 ∧ ∀ j : Nat, (j : Int) < x.i → isF x.f.back (x.l.getD j .undef) = false
noncomputable def hxG : S → Option (Bool × Tr) := gX hxGet hxS hxI (fun x => .br (decide (ixF x.l x.f.back < x.l.length)) (.leaf .ret (hxR x (ixF x.l x.f.back))) (.leaf (.exit 0) (hxX x)))
noncomputable def af_clIdx : AF := afOf Tryz.prog Tryz.f43 [.sum [0, 1, 7, 8] [0, 1] hxG]
noncomputable def af_clHan1 : AF := afOf Tryz.prog Tryz.f44 []
theorem af_clHan1_ok : AllOk Tryz.prog 44 af_clHan1 := .flat Tryz.func44 (by kernel_rfl) (by kernel_rfl) (by kernel_rfl) (by kernel_rfl) (by kernel_rfl)
noncomputable def GEcln1 : List (Nat × Con) := [(45, .val [.agg [.barr 16, .int .i64, .barr 16, .int .i64]] cClFlBack)]
theorem GEcln1_ok : GOk Tryz.prog GEcln1 := .cons (enters_of Tryz.func45 (by kernel_rfl) rfl) clFlBack_con <| .nil
noncomputable def IEcln1 : List (Nat × AF) := [(44, af_clHan1)]
theorem IEcln1_ok : IOk Tryz.prog IEcln1 := .cons af_clHan1_ok <| .nil
noncomputable def CEcln1 : List (Nat × (List Nat × (S → Option (Bool × Tr)))) := []
theorem CEcln1_ok : COk Tryz.prog CEcln1 := .nil
noncomputable def XEcln1 : List (Nat × (List Sh × (List V → PT))) := []
theorem XEcln1_ok : XOk Tryz.prog XEcln1 := .nil
noncomputable def Ecln1 : Env := ⟨Tryz.prog, GEcln1, IEcln1, CEcln1, XEcln1, false⟩
theorem Ecln1_ok : EnvOk Ecln1 := ⟨by kernel_rfl, GEcln1_ok, IEcln1_ok, CEcln1_ok, XEcln1_ok⟩
noncomputable def hxC : AC := (af_clIdx.ac.sums.headD (.skip, [], [], fun _ => none)).1
theorem hx_b (x : HxI) : aev Ecln1 (inlN Ecln1 6) hxC (bodyF (Am.ways [0, 1, 7, 8] [0, 1] [0, 1, 4]) [0, 1]) (hxS x) =
 bif decide (x.i < (x.l.length : Int)) then bif andT true (Am.inB x.i x.l.length) then bif andT true (Am.inB x.i x.l.length) then
 bif isF x.f.back (x.l.getD x.i.toNat .undef) then some (.ret, hxR x x.i) else some (.normal, hxS ⟨x.l, x.f, IntKind.i64.wrap (x.i + 1)⟩)
 else none else none else some (.exit 0, hxX x) := by kernel_rfl
theorem hx_loop : LoopOk Tryz.prog hxC.erase [0, 1] hxG := by
 refine loopX_ok Ecln1_ok (d := 6) (AC.flat_ok (by kernel_rfl)) (Am.ways [0, 1, 7, 8] [0, 1] [0, 1, 4]) [0, 1] hxGet _ _ hxI (fun x => (x.l.length - x.i).toNat) (fun _ => rfl) ?_
 rintro x ⟨h0, h1, hM, hn⟩
 rw [hx_b]
 obtain ⟨l, f, i⟩ := x
 simp only at h0 h1 hM hn ⊢
 obtain ⟨k, rfl⟩ := Int.eq_ofNat_of_zero_le h0
 simp only [Int.toNat_natCast]
 by_cases hi : k < l.length
 ·cases hp : isF f.back (l.getD k .undef) with
  | true =>
   have e := ixF_at hi hp (fun j hj => hn j (by omega))
   refine .inr ⟨.ret, hxR ⟨l, f, k⟩ k, ?_, nofun, leaf_t (decide_eq_true (by rw [e]; exact hi)) ?_⟩
   ·simp (disch := omega) only [tre]
   ·rw [e]
    exact .leaf
  | false =>
   refine .inl ⟨⟨l, f, k + 1⟩, ?_, ⟨by dsimp only; omega, by dsimp only; omega, hM, fun j hj => ?_⟩, by dsimp only; omega, leaf_eq rfl⟩
   ·simp (disch := omega) only [tre]
   ·dsimp only at hj ⊢
    rcases Nat.lt_or_ge j k with hjk | hjk
    ·exact hn j (by omega)
    ·obtain rfl : j = k := by omega
     exact hp
 ·refine .inr ⟨.exit 0, hxX ⟨l, f, k⟩, ?_, nofun, leaf_f (decide_eq_false (ixF_no (l := l) (f := f.back) fun j hj => hn j (by omega))) .leaf⟩
  simp (disch := omega) only [tre]
theorem af_clIdx_ok : AllOk Tryz.prog 43 af_clIdx := .sums Tryz.func43 (by kernel_rfl) (by kernel_rfl) (by kernel_rfl) (by kernel_rfl) (sums_one (c := hxC) (ts := [0, 1, 7, 8]) (by kernel_rfl) (by kernel_rfl) hx_loop)
theorem way_calls (s : Int) (w : World) : Calls Tryz.prog 46 #[.int .i64 s] w fun e w' => e = .returned (.func (.func (wayF s)) #[] #[]) ∧ w = w' := by
 by_cases h1 : s = 1
 ·subst h1
  go_enter Tryz.func46, Tryz.ntmps46
  go_wp2
  go_ret
  exact ⟨rfl, rfl⟩
 have e1 : (s == 1) = false := ieq_f h1
 by_cases h2 : s = 2
 ·subst h2
  go_enter Tryz.func46, Tryz.ntmps46
  go_wp2
  go_ret
  exact ⟨rfl, rfl⟩
 have e2 : (s == 2) = false := ieq_f h2
 by_cases h3 : s = 3
 ·subst h3
  go_enter Tryz.func46, Tryz.ntmps46
  go_wp2
  go_ret
  exact ⟨rfl, rfl⟩
 have e3 : (s == 3) = false := ieq_f h3
 by_cases h4 : s = 4
 ·subst h4
  go_enter Tryz.func46, Tryz.ntmps46
  go_wp2
  go_ret
  exact ⟨rfl, rfl⟩
 have e4 : (s == 4) = false := ieq_f h4
 have e : wayF s = 73 := by unfold wayF; rw [e1, e2, e3, e4]; rfl
 rw [e]
 go_enter Tryz.func46, Tryz.ntmps46
 go_wp2
 go_ret
 exact ⟨rfl, rfl⟩
def cWay (k : Nat) : List V → Option (V × Bool)
 | [.int .i64 s] => some (.fn k [] [], Nat.beq (wayF s) k)
 | _ => none
theorem cWay_con (k : Nat) : ∀ vs v, cWay k vs = some (v, true) → SpecV Tryz.prog 46 vs v := by
 intro vs v h; unfold cWay at h; split at h
 ·rename_i s
  injection h with h; injection h with h hb; subst h
  have hb := Nat.eq_of_beq_eq_true hb
  subst hb
  intro O w cs hO hv
  obtain ⟨c, rfl, hr⟩ := hv.one_inv
  obtain ⟨rfl, _⟩ := hr.int_inv
  exact kSame (way_calls s w) fun w' => .val (.one (.fn .nil .nil) rfl)
 ·cases h
end Go.Proofs.YtfhljcbbgckdiaaGreat
namespace Go.Proofs.YtfhljcbbgckdiaaGreat
open Go Go.Am Go.RowKit Go.Bas
set_option maxRecDepth 100000
noncomputable def af_clFlOf : AF := afOf Tryz.prog Tryz.f42 []
theorem af_clFlOf_ok : AllOk Tryz.prog 42 af_clFlOf := .flat Tryz.func42 (by kernel_rfl) (by kernel_rfl) (by kernel_rfl) (by kernel_rfl) (by kernel_rfl)
noncomputable def af_clGreet : AF := afOf Tryz.prog Tryz.f70 []
theorem af_clGreet_ok : AllOk Tryz.prog 70 af_clGreet := .flat Tryz.func70 (by kernel_rfl) (by kernel_rfl) (by kernel_rfl) (by kernel_rfl) (by kernel_rfl)
noncomputable def af_clTalk : AF := afOf Tryz.prog Tryz.f71 []
theorem af_clTalk_ok : AllOk Tryz.prog 71 af_clTalk := .flat Tryz.func71 (by kernel_rfl) (by kernel_rfl) (by kernel_rfl) (by kernel_rfl) (by kernel_rfl)
noncomputable def af_clEnd : AF := afOf Tryz.prog Tryz.f72 []
theorem af_clEnd_ok : AllOk Tryz.prog 72 af_clEnd := .flat Tryz.func72 (by kernel_rfl) (by kernel_rfl) (by kernel_rfl) (by kernel_rfl) (by kernel_rfl)
noncomputable def af_clNoth : AF := afOf Tryz.prog Tryz.f73 []
theorem af_clNoth_ok : AllOk Tryz.prog 73 af_clNoth := .flat Tryz.func73 (by kernel_rfl) (by kernel_rfl) (by kernel_rfl) (by kernel_rfl) (by kernel_rfl)
noncomputable def af_clHandle : AF := afOf Tryz.prog Tryz.f18 []
theorem af_clHandle_ok : AllOk Tryz.prog 18 af_clHandle := .flat Tryz.func18 (by kernel_rfl) (by kernel_rfl) (by kernel_rfl) (by kernel_rfl) (by kernel_rfl)
noncomputable def GEcln : List (Nat × Con) := [(41, .val [.bytes] cPkParse), (49, .val [.other .ptr] cClOut), (51, .val [.other .ptr, .int .u32, .int .i64, .bytes] cClPacket), (79, .val [.agg [.int .i64, .int .i64, .int .u32, .int .u32, .int .i64, .int .i64, .int .i64, .int .i64, .rows (.agg [.int .i64, .bytes]), .bytes], .int .i64] cTcHas), (45, .val [.agg [.barr 16, .int .i64, .barr 16, .int .i64]] cClFlBack)]
theorem GEcln_ok : GOk Tryz.prog GEcln := .cons (enters_of Tryz.func41 (by kernel_rfl) rfl) pkParse_con <| .cons (enters_of Tryz.func49 (by kernel_rfl) rfl) clOut_con <| .cons (enters_of Tryz.func51 (by kernel_rfl) rfl) clPacket_con <| .cons (enters_of Tryz.func79 (by kernel_rfl) rfl) tcHas_con <| .cons (enters_of Tryz.func45 (by kernel_rfl) rfl) clFlBack_con <| .nil
noncomputable def IEcln : List (Nat × AF) := [(70, af_clGreet), (71, af_clTalk), (72, af_clEnd), (73, af_clNoth), (100, af_clAck), (22, af_clIs), (42, af_clFlOf), (43, af_clIdx), (44, af_clHan1)]
theorem IEcln_ok : IOk Tryz.prog IEcln := .cons af_clGreet_ok <| .cons af_clTalk_ok <| .cons af_clEnd_ok <| .cons af_clNoth_ok <| .cons af_clAck_ok <| .cons af_clIs_ok <| .cons af_clFlOf_ok <| .cons af_clIdx_ok <| .cons af_clHan1_ok <| .nil
noncomputable def CEcln : List (Nat × (List Nat × (S → Option (Bool × Tr)))) := []
theorem CEcln_ok : COk Tryz.prog CEcln := .nil
noncomputable def XEcln : List (Nat × (List Sh × (List V → PT))) := []
theorem XEcln_ok : XOk Tryz.prog XEcln := .nil
noncomputable def EnH (k : Nat) : Env := ⟨Tryz.prog, (46, .val [.int .i64] (cWay k)) :: GEcln, IEcln, [], [], true⟩
theorem EnH_ok (k : Nat) : EnvOk (EnH k) := ⟨by kernel_rfl, .cons (enters_of Tryz.func46 (by kernel_rfl) rfl) (cWay_con k) GEcln_ok, IEcln_ok, CEcln_ok, XEcln_ok⟩
def haS (x : CS) (b : List UInt8) : S := ⟨slots 0 [cRef, .bytes b], csH x, 2, true, 2⟩
def haN (x : CS) (k : Nat) (b : List UInt8) (out : List V) : S := ⟨[(1, cRef), (2, .bytes b), (0, .own 1 out.length .bytes)], coN x k rowT .bytes out, 3, true, 3⟩
def haO (x : CS) (b : List UInt8) (out : List V) : S := haN x x.l.length b out
def flP (q : Pq) : Fw := ⟨q.h.s, q.t.sp, q.fin, q.t.dp⟩
noncomputable def hxOk (x : HxI) : Bool := okG (hxS x = hxS x ∧ hxI x)
def hasF (fl k : Int) : Bool := bits .and .i64 fl k == k
def akT {α : Type} (c : Cal) (k : List V → Option α) : Option α := bif andT true (pkC c c.se 16) then k [.bytes (sgF c c.se 16 [])] else none
def grT {α : Type} (l : List V) (i : Nat) (t : Tc) (k : List V → List V → Option α) : Option α :=
 bif !(hasF t.fl 16) then k l [] else bif t.ak != (atC l i).se then k l []
 else bif hasF t.fl 4 then k (up1 l i fun c => { c with st := 5 }) []
 else bif !(hasF t.fl 2) then k l []
 else akT (atC (up1 (up1 (up1 l i fun c => { c with nx := IntKind.u32.wrap (t.sq + 1) }) i fun c => { c with un := (atC l i).se }) i fun c => { c with st := 2 }) i)
  fun o => k (up1 (up1 (up1 l i fun c => { c with nx := IntKind.u32.wrap (t.sq + 1) }) i fun c => { c with un := (atC l i).se }) i fun c => { c with st := 2 }) o
def enT {α : Type} (l : List V) (i : Nat) (t : Tc) (k : List V → List V → Option α) : Option α :=
 bif !(hasF t.fl 17) then k l [] else bif hasF t.fl 2 then k l [] else bif hasF t.fl 4 then k l []
 else bif t.sq != IntKind.u32.wrap ((atC l i).nx - 1) then k l [] else akT (atC l i) fun o => k l o
def taA {α : Type} (l : List V) (i : Nat) (t : Tc) (k : List V → List V → Option α) : Option α :=
 bif hasF t.fl 1 then
  bif t.sq == (atC l i).nx then enT (up1 (up1 l i fun c => { c with nx := IntKind.u32.wrap (c.nx + 1) }) i fun c => { c with st := 4 }) i t k
  else enT l i t k
 else enT l i t k
def taT {α : Type} (l : List V) (i : Nat) (t : Tc) (k : List V → List V → Option α) : Option α :=
 bif hasF t.fl 4 then (bif t.sq == (atC l i).nx then k (up1 l i fun c => { c with st := 5 }) [] else k l [])
 else bif hasF t.fl 18 then akT (atC l i) fun o => k l o
 else bif !(hasF t.fl 16) then k l []
 else bif (atC l i).un != (atC l i).se then
  bif t.ak == (atC l i).se then taA (up1 (up1 (up1 l i fun c => { c with un := c.se }) i fun c => { c with off := IntKind.i64.wrap (c.off + c.lo) }) i fun c => { c with lo := 0 }) i t k
  else taA l i t k
 else taA l i t k
noncomputable def haT (x : CS) (b : List UInt8) (f : Nat) (body : (l : List V) → (i : Nat) → (t : Tc) → (k : List V → List V → Option S) → Option S) : Option S :=
  bif (pqX b).k != 6 then (bif pqE b != 0 then some (haO x b []) else some (haO x b []))
  else bif pqE b != 0 then some (haO x b []) else bif (pqX b).r then some (haO x b [])
  else bif hxOk ⟨x.l, flP (pqX b), 0⟩ then
   bif decide (ixF x.l (flP (pqX b)).back < x.l.length) then
    bif decide (((ixF x.l (flP (pqX b)).back : Nat) : Int) < 0) then some (haO x b [])
    else bif andT true (Am.inB ((ixF x.l (flP (pqX b)).back : Nat) : Int) x.l.length) then
     bif andT true (Nat.beq (wayF (atC x.l (ixF x.l (flP (pqX b)).back)).st) f) && true then
      body x.l (ixF x.l (flP (pqX b)).back) (pqX b).t fun l o => some (haN ⟨x.a, x.now, l⟩ x.l.length b o)
     else none
    else none
   else some (haO x b [])
  else none
theorem hg_t (x : CS) (b : List UInt8) : inlN (EnH 70) 6 af_clHandle [cRef, .bytes b] (haS x b) (retB rowT .bytes [cRef, .bytes b] [0]) = haT x b 70 grT := by kernel_rfl
theorem he_t (x : CS) (b : List UInt8) : inlN (EnH 72) 6 af_clHandle [cRef, .bytes b] (haS x b) (retB rowT .bytes [cRef, .bytes b] [0]) = haT x b 72 enT := by kernel_rfl
theorem hn_t (x : CS) (b : List UInt8) : inlN (EnH 73) 6 af_clHandle [cRef, .bytes b] (haS x b) (retB rowT .bytes [cRef, .bytes b] [0]) = haT x b 73 fun l _ _ k => k l [] := by kernel_rfl
theorem ht_t (x : CS) (b : List UInt8) : inlN (EnH 71) 6 af_clHandle [cRef, .bytes b] (haS x b) (retB rowT .bytes [cRef, .bytes b] [0]) = haT x b 71 taT := by kernel_rfl
theorem bit18 : ∀ i : Nat, i < 64 → Nat.testBit 18 i = (i == 1 || i == 4) := by decide
theorem bit17 : ∀ i : Nat, i < 64 → Nat.testBit 17 i = (i == 0 || i == 4) := by decide
theorem and_two (a : Int) (k : Nat) (hk : k < 64) (u v : Nat) (hu : u < 64) (hv : v < 64) (hb : ∀ i : Nat, i < 64 → Nat.testBit k i = (i == u || i == v)) : (bits .and .i64 a (k : Int) == (k : Int)) = (fb a u && fb a v) := by
 rw [Bool.eq_iff_iff, beq_iff_eq, bits_and]
 have h2 : IntKind.i64.wrap ((BitVec.ofInt 64 (k : Int)).toNat : Int) = (k : Int) := wrap_ofInt (by omega) (by omega)
 have g2 : ∀ i, i < 64 → (BitVec.ofInt 64 (k : Int)).getLsbD i = (i == u || i == v) := fun i hi => by
  rw [← hb i hi, BitVec.ofInt_natCast, BitVec.getLsbD_ofNat]
  simp [hi]
 constructor
 ·intro h
  have h := wrap_inj (h.trans h2.symm)
  have q : ∀ i, i < 64 → (fb a i && (i == u || i == v)) = (i == u || i == v) := fun i hi => by
   have := congrArg (fun x => x.getLsbD i) h
   simp only [BitVec.getLsbD_and] at this
   rw [g2 i hi] at this
   exact this
  have k0 := q u hu
  have k1 := q v hv
  simp at k0 k1
  simp [k0, k1]
 ·intro h
  obtain ⟨b1, b2⟩ := (Bool.and_eq_true _ _).mp h
  refine Eq.trans ?_ h2
  refine congrArg (fun X : BitVec 64 => IntKind.i64.wrap (X.toNat : Int)) ?_
  apply BitVec.eq_of_getLsbD_eq
  intro i hi
  rw [BitVec.getLsbD_and, g2 i hi]
  by_cases e0 : i = u
  ·subst e0; simp [fb] at b1; simp [b1]
  by_cases e1 : i = v
  ·subst e1; simp [fb] at b2; simp [b2]
  simp [e0, e1]
theorem has16 (fl : Int) : hasF fl 16 = fb fl 4 := by unfold hasF; rw [and_16]; cases fb fl 4 <;> rfl
theorem has4 (fl : Int) : hasF fl 4 = fb fl 2 := by unfold hasF; rw [and_4]; cases fb fl 2 <;> rfl
theorem has2 (fl : Int) : hasF fl 2 = fb fl 1 := by unfold hasF; rw [and_2]; cases fb fl 1 <;> rfl
theorem has1 (fl : Int) : hasF fl 1 = fb fl 0 := by unfold hasF; rw [and_1]; cases fb fl 0 <;> rfl
theorem has18 (fl : Int) : hasF fl 18 = (fb fl 1 && fb fl 4) := and_two fl 18 (by omega) 1 4 (by omega) (by omega) bit18
theorem has17 (fl : Int) : hasF fl 17 = (fb fl 0 && fb fl 4) := and_two fl 17 (by omega) 0 4 (by omega) (by omega) bit17
theorem bitF16 (fl : Int) : bitF fl 16 = fb fl 4 := by unfold bitF; rw [and_16]; cases fb fl 4 <;> rfl
theorem bitF4 (fl : Int) : bitF fl 4 = fb fl 2 := by unfold bitF; rw [and_4]; cases fb fl 2 <;> rfl
theorem bitF2 (fl : Int) : bitF fl 2 = fb fl 1 := by unfold bitF; rw [and_2]; cases fb fl 1 <;> rfl
theorem bitF1 (fl : Int) : bitF fl 1 = fb fl 0 := by unfold bitF; rw [and_1]; cases fb fl 0 <;> rfl
theorem upC_self {l : List V} (h : lOk l) {i : Nat} (hi : i < l.length) : upC l i (atC l i) = l := by
 unfold upC
 rw [← (h.at hi).1, List.getD_eq_getElem?_getD, List.getElem?_eq_getElem hi]
 exact List.set_getElem_self hi
theorem akT_v {α : Type} {c : Cal} (h : cOk c) (k : List V → Option α) : akT c k = k (akF c) := by
 obtain ⟨⟨a1, a2⟩, ⟨a3, a4⟩, a5, a6⟩ := h
 unfold akT akF
 rw [show pkC c c.se 16 = true from decide_eq_true ⟨by omega, ⟨a5, a6⟩, a1, a2⟩]
 rfl
def takR {α : Type} (l : List V) (i : Nat) (t : Tc) (k : List V → List V → Option α) : Option α := k (upC l i (rhT l i t).1) (rhT l i t).2
theorem enT_v {α : Type} {l : List V} {i : Nat} (hi : i < l.length) (hself : upC l i (atC l i) = l) (hc : cOk (atC l i)) (t : Tc) (k : List V → List V → Option α) : enT l i t k =
  if fb t.fl 0 = true then if fb t.fl 4 = true then if fb t.fl 1 = true then k l [] else if fb t.fl 2 = true then k l [] else if t.sq = IntKind.u32.wrap ((atC l i).nx - 1) then k l (akF (atC l i)) else k l [] else k l [] else k l [] := by
 unfold enT
 rw [has17, has2, has4, akT_v hc]
 cases fb t.fl 0 <;> cases fb t.fl 4 <;> cases fb t.fl 1 <;> cases fb t.fl 2
 all_goals
  simp only [Bool.and_true, Bool.and_false, Bool.not_true, Bool.not_false, cond_true, cond_false, if_true, reduceCtorEq, if_false]
 by_cases h : t.sq = IntKind.u32.wrap ((atC l i).nx - 1)
 ·rw [if_pos h]
  simp (disch := omega) only [tre]
 ·rw [if_neg h]
  simp (disch := omega) only [tre]
theorem grT_v {α : Type} {l : List V} {i : Nat} (h : lOk l) (hi : i < l.length) (h1 : (atC l i).st = 1) (t : Tc) (k : List V → List V → Option α) : grT l i t k = takR l i t k := by
 obtain ⟨_, hok, _⟩ := h.at hi
 have hok2 : cOk { atC l i with nx := IntKind.u32.wrap (t.sq + 1), un := (atC l i).se, st := 2 } := ⟨u32w _, hok.2.2, hok.2.2⟩
 have hs := upC_self h hi
 unfold grT takR rhT takF
 rw [up1_up1 hi, up1_up1 hi, at_up1 hi, has16, has4, has2, bitF16, bitF4, bitF2, bitF1]
 unfold takB
 rw [if_pos h1]
 have hk := akT_v hok2 fun o => k (up1 l i fun c => { c with nx := IntKind.u32.wrap (t.sq + 1), un := (atC l i).se, st := 2 }) o
 rw [hk]
 cases fb t.fl 4 <;> cases fb t.fl 2 <;> cases fb t.fl 1
 all_goals
  simp only [Bool.not_true, Bool.not_false, cond_true, cond_false, if_true, reduceCtorEq, if_false, hs]
 all_goals
  by_cases c1 : t.ak = (atC l i).se
  ·simp only [if_pos c1, ine_f c1, cond_false, hs]
   try rfl
  ·simp only [if_neg c1, ine_t c1, cond_true, hs]
theorem enU {α : Type} {l : List V} {i : Nat} (hi : i < l.length) {c : Cal} (hc : cOk c) (t : Tc) (h4 : fb t.fl 4 = true) (h1 : fb t.fl 1 = false) (h2 : fb t.fl 2 = false) (k : List V → List V → Option α) :
  enT (upC l i c) i t k = k (upC l i (tkD3 c (fb t.fl 0) t.sq).1) (tkD3 c (fb t.fl 0) t.sq).2 := by
 rw [enT_v (by rw [upC_len]; exact hi) (by rw [atC_up hi, upC_up]) (by rw [atC_up hi]; exact hc), atC_up hi, h4, h1, h2]
 unfold tkD3
 cases fb t.fl 0
 ·rfl
 ·simp only [if_true, reduceCtorEq, if_false]
  split <;> rfl
theorem taU {α : Type} {l : List V} {i : Nat} (hi : i < l.length) {c : Cal} (hc : cOk c) (t : Tc) (h4 : fb t.fl 4 = true) (h1 : fb t.fl 1 = false) (h2 : fb t.fl 2 = false) (k : List V → List V → Option α) :
  taA (upC l i c) i t k = k (upC l i (tkD3 (tkD2 c (fb t.fl 0) t.sq) (fb t.fl 0) t.sq).1) (tkD3 (tkD2 c (fb t.fl 0) t.sq) (fb t.fl 0) t.sq).2 := by
 have hi2 : i < (upC l i c).length := by rw [upC_len]; exact hi
 have e2 : up1 (up1 (upC l i c) i fun c => { c with nx := IntKind.u32.wrap (c.nx + 1) }) i (fun c => { c with st := 4 }) = upC l i { c with nx := IntKind.u32.wrap (c.nx + 1), st := 4 } := by
  rw [up1_up1 hi2]
  unfold up1
  rw [atC_up hi, upC_up]
 unfold taA
 rw [has1, e2, enU hi hc t h4 h1 h2, enU (c := { c with nx := IntKind.u32.wrap (c.nx + 1), st := 4 }) hi ⟨u32w _, hc.2⟩ t h4 h1 h2, atC_up hi]
 unfold tkD2
 cases hb : fb t.fl 0 with
 | false => simp only [cond_false, reduceCtorEq, if_false]
 | true =>
  simp only [cond_true, if_true]
  by_cases c1 : t.sq = c.nx
  ·simp only [if_pos c1, ieq_t c1, cond_true]
  ·simp only [if_neg c1, ieq_f c1, cond_false]
theorem taT_v {α : Type} {l : List V} {i : Nat} (h : lOk l) (hi : i < l.length) (h1 : (atC l i).st = 2 ∨ (atC l i).st = 3) (t : Tc) (k : List V → List V → Option α) : taT l i t k = takR l i t k := by
 obtain ⟨_, hok, _⟩ := h.at hi
 have hs := upC_self h hi
 have e1 : up1 (up1 (up1 l i fun c => { c with un := c.se }) i fun c => { c with off := IntKind.i64.wrap (c.off + c.lo) }) i (fun c => { c with lo := 0 }) = upC l i { atC l i with un := (atC l i).se, off := IntKind.i64.wrap ((atC l i).off + (atC l i).lo), lo := 0 } := by
  rw [up1_up1 hi, up1_up1 hi]
  rfl
 unfold taT takR rhT takF
 rw [e1, has16, has4, has18, bitF16, bitF4, bitF2, bitF1, akT_v hok]
 unfold takB
 rw [if_neg (by omega), if_pos h1]
 cases h2 : fb t.fl 2 with
 | true =>
  simp only [cond_true, if_true]
  by_cases c1 : t.sq = (atC l i).nx
  ·simp only [if_pos c1, ieq_t c1, cond_true]
   rfl
  ·simp only [if_neg c1, ieq_f c1, cond_false, hs]
 | false =>
  simp only [cond_false, reduceCtorEq, if_false]
  cases h4 : fb t.fl 4 with
  | false => simp only [Bool.and_false, cond_false, Bool.not_false, cond_true, reduceCtorEq, if_false, hs]
  | true =>
   cases h5 : fb t.fl 1 with
   | true => simp only [Bool.and_true, cond_true, if_true, hs]
   | false =>
    simp only [Bool.and_true, Bool.false_and, cond_false, Bool.not_true, if_true, reduceCtorEq, if_false]
    have ta0 := taU hi hok t h4 h5 h2 k
    rw [hs] at ta0
    rw [taU (c := { atC l i with un := (atC l i).se, off := IntKind.i64.wrap ((atC l i).off + (atC l i).lo), lo := 0 }) hi ⟨hok.1, hok.2.2, hok.2.2⟩ t h4 h5 h2]
    unfold tkD1
    by_cases c1 : (atC l i).un = (atC l i).se
    ·rw [if_pos c1, ine_f c1, cond_false, ta0]
    ·rw [if_neg c1, ine_t c1, cond_true]
     by_cases c2 : t.ak = (atC l i).se
     ·rw [if_pos c2, ieq_t c2, cond_true]
     ·rw [if_neg c2, ieq_f c2, cond_false, ta0]
theorem haT_v {x : CS} {b : List UInt8} {f : Nat} {body : (l : List V) → (i : Nat) → (t : Tc) → (k : List V → List V → Option S) → Option S} (h : lOk x.l) (hf : Nat.beq (wayF (atC x.l (ixF x.l (bkP (pqX b)))).st) f = true)
  (hb : ixF x.l (bkP (pqX b)) < x.l.length → ∀ k, body x.l (ixF x.l (bkP (pqX b))) (pqX b).t k = takR x.l (ixF x.l (bkP (pqX b))) (pqX b).t k) : haT x b f body = some (haO (x.of (hanR x.now x.l b)) b (hanR x.now x.l b).out) := by
 obtain ⟨a, now, l⟩ := x
 simp only at h hf hb
 have hM := h.1
 unfold haT hanR hanB CS.of
 dsimp only
 rw [show (flP (pqX b)).back = bkP (pqX b) from rfl, hf, show hxOk ⟨l, flP (pqX b), 0⟩ = true from okG_t ⟨rfl, Int.le_refl 0, by show (0 : Int) ≤ (l.length : Int); omega, by show l.length ≤ 1000; omega, fun j hj => by exact absurd hj (by show ¬ ((j : Int) < 0); omega)⟩]
 by_cases c1 : pqE b = 0
 ·rw [if_neg (by simpa using c1), c1]
  by_cases c2 : (pqX b).k = 6
  ·rw [if_neg (by simpa using c2), c2]
   cases c3 : (pqX b).r with
   | true => rfl
   | false =>
    rw [if_neg (by simp)]
    unfold hanF
    by_cases c4 : ixF l (bkP (pqX b)) < l.length
    ·rw [if_pos c4, hb c4]
     unfold takR
     simp (disch := omega) only [tre]
     unfold haO
     dsimp only
     rw [upC_len]
    ·rw [if_neg c4]
     simp (disch := omega) only [tre]
  ·rw [if_pos c2]
   simp (disch := omega) only [tre]
 ·rw [if_pos c1]
  cases ((pqX b).k != 6)
  ·simp (disch := omega) only [tre]
  ·simp (disch := omega) only [tre]
structure HaI where
 x : CS
 b : List UInt8
def haGet (s : S) : HaI := ⟨csGet s, toL (lkD s 1)⟩
def haI (y : HaI) : Prop := lOk y.x.l
def haR (y : HaI) : OpR := hanR y.x.now y.x.l y.b
def vs_clHandle : List Nat := [0]
noncomputable def rf_clHandle : S → Option (Bool × Tr) := gN 2 (gW 0 3 39 shCall haGet (fun y => haS y.x y.b) haI (fun y => .leaf .ret (haO (y.x.of (haR y)) y.b (haR y).out)))
theorem clHandle_ref : RefOk Tryz.prog 18 vs_clHandle rf_clHandle := by
 refine refN (refW (fun y _ => rfl) (refXE_ok rowT .bytes [0] haGet (fun y => haS y.x y.b) haI _ (fun y => [cRef, .bytes y.b]) (fun _ => rfl) ?_))
 rintro ⟨x, b⟩ h
 have h : lOk x.l := h
 have hs : (atC x.l (ixF x.l (bkP (pqX b)))).st = 1 ∨ ((atC x.l (ixF x.l (bkP (pqX b)))).st = 2 ∨ (atC x.l (ixF x.l (bkP (pqX b)))).st = 3) ∨ (atC x.l (ixF x.l (bkP (pqX b)))).st = 4 ∨ ((atC x.l (ixF x.l (bkP (pqX b)))).st ≠ 1 ∧ (atC x.l (ixF x.l (bkP (pqX b)))).st ≠ 2 ∧ (atC x.l (ixF x.l (bkP (pqX b)))).st ≠ 3 ∧ (atC x.l (ixF x.l (bkP (pqX b)))).st ≠ 4) := by omega
 generalize hst : (atC x.l (ixF x.l (bkP (pqX b)))).st = st at hs
 rcases hs with rfl | hs | rfl | ⟨g1, g2, g3, g4⟩
 ·exact ⟨EnH 70, af_clHandle, EnH_ok _, rfl, af_clHandle_ok, _, (hg_t x b).trans (haT_v h (by rw [hst]; rfl) fun hi k => grT_v h hi hst _ k), .ret, .leaf⟩
 ·exact ⟨EnH 71, af_clHandle, EnH_ok _, rfl, af_clHandle_ok, _, (ht_t x b).trans (haT_v h (by rw [hst]; rcases hs with rfl | rfl <;> rfl) fun hi k => taT_v h hi (by rw [hst]; exact hs) _ k), .ret, .leaf⟩
 ·refine ⟨EnH 72, af_clHandle, EnH_ok _, rfl, af_clHandle_ok, _, (he_t x b).trans (haT_v h (by rw [hst]; rfl) fun hi k => ?_), .ret, .leaf⟩
  have hself := upC_self h hi
  have e : ∀ b16 b4 b2 b1 sq ak, takB (atC x.l (ixF x.l (bkP (pqX b)))) b16 b4 b2 b1 sq ak = if b1 = true then if b16 = true then if b2 = true then ((atC x.l (ixF x.l (bkP (pqX b)))), []) else if b4 = true then ((atC x.l (ixF x.l (bkP (pqX b)))), []) else if sq = IntKind.u32.wrap ((atC x.l (ixF x.l (bkP (pqX b)))).nx - 1) then ((atC x.l (ixF x.l (bkP (pqX b)))), akF (atC x.l (ixF x.l (bkP (pqX b))))) else ((atC x.l (ixF x.l (bkP (pqX b)))), []) else ((atC x.l (ixF x.l (bkP (pqX b)))), []) else ((atC x.l (ixF x.l (bkP (pqX b)))), []) := by
   intro b16 b4 b2 b1 sq ak
   unfold takB
   rw [if_neg (by omega), if_neg (by omega), if_pos hst]
  rw [enT_v hi hself (h.at hi).2.1]
  unfold takR rhT takF
  rw [e, bitF16, bitF4, bitF2, bitF1]
  repeat' split
  all_goals first | (dsimp only; rw [hself]) | rfl
 ·refine ⟨EnH 73, af_clHandle, EnH_ok _, rfl, af_clHandle_ok, _, (hn_t x b).trans (haT_v h (by rw [hst]; unfold wayF; rw [ieq_f g1, ieq_f g2, ieq_f g3, ieq_f g4]; rfl) fun hi k => ?_), .ret, .leaf⟩
  have hself := upC_self h hi
  unfold takR rhT takF takB
  rw [if_neg (by omega), if_neg (by omega), if_neg (by omega)]
  dsimp only
  rw [hself]
noncomputable def af_clDo : AF := afOf Tryz.prog Tryz.f13 []
theorem af_clDo_ok : AllOk Tryz.prog 13 af_clDo := .flat Tryz.func13 (by kernel_rfl) (by kernel_rfl) (by kernel_rfl) (by kernel_rfl) (by kernel_rfl)
noncomputable def GEclp : List (Nat × Con) := []
theorem GEclp_ok : GOk Tryz.prog GEclp := .nil
noncomputable def IEclp : List (Nat × AF) := []
theorem IEclp_ok : IOk Tryz.prog IEclp := .nil
noncomputable def CEclp : List (Nat × (List Nat × (S → Option (Bool × Tr)))) := [(8, (vs_clConn, rf_clConn)), (16, (vs_clSend, rf_clSend)), (17, (vs_clClose, rf_clClose)), (10, (vs_clTick, rf_clTick)), (19, (vs_clResend, rf_clResend)), (18, (vs_clHandle, rf_clHandle))]
theorem CEclp_ok : COk Tryz.prog CEclp := .cons (enters_of Tryz.func8 (by kernel_rfl) rfl) clConn_ref <| .cons (enters_of Tryz.func16 (by kernel_rfl) rfl) clSend_ref <| .cons (enters_of Tryz.func17 (by kernel_rfl) rfl) clClose_ref <| .cons (enters_of Tryz.func10 (by kernel_rfl) rfl) clTick_ref <| .cons (enters_of Tryz.func19 (by kernel_rfl) rfl) clResend_ref <| .cons (enters_of Tryz.func18 (by kernel_rfl) rfl) clHandle_ref <| .nil
noncomputable def XEclp : List (Nat × (List Sh × (List V → PT))) := []
theorem XEclp_ok : XOk Tryz.prog XEclp := .nil
noncomputable def Eclp : Env := ⟨Tryz.prog, GEclp, IEclp, CEclp, XEclp, false⟩
theorem Eclp_ok : EnvOk Eclp := ⟨by kernel_rfl, GEclp_ok, IEclp_ok, CEclp_ok, XEclp_ok⟩
structure Op4 where
 k : Int
 d : List UInt8
 n : Int
 m : Int
 b : List UInt8
def Op4.v (o : Op4) : V := clOpV o.k o.d o.n o.m o.b
structure DoI where
 x : CS
 o : Op4
def doS (y : DoI) : S := ⟨slots 0 [cRef, y.o.v], csH y.x, 2, true, 2⟩
def doO (y : DoI) (r : OpR) : S := ⟨[(1, cRef), (2, y.o.v), (0, .tup [.int .i64 r.n, .own 1 r.out.length .bytes, .int .i64 r.e])], coH (y.x.of r) rowT .bytes r.out, 3, true, 3⟩
def doGet (s : S) : DoI := ⟨csGet s, ⟨toI (aG (lkD s 1) 0), toA (aG (lkD s 1) 1), toI (aG (lkD s 1) 2), toI (aG (lkD s 1) 3), toL (aG (lkD s 1) 4)⟩⟩
def doI (y : DoI) : Prop := lOk y.x.l ∧ y.x.a.length = 16 ∧ y.o.d.length = 16
noncomputable def wOk {X : Type} (st : X → S) (I : X → Prop) (x : X) : Bool := okG ((st x = st x ∨ Wk 0 3 39 shCall (st x) (st x)) ∧ I x)
theorem wOk_t {X : Type} {st : X → S} {I : X → Prop} {x : X} (h : I x) : wOk st I x = true := okG_t ⟨.inl rfl, h⟩
theorem do_t (y : DoI) : inlN Eclp 6 af_clDo [cRef, y.o.v] (doS y) (retB rowT .bytes [cRef, y.o.v] [0]) =
 bif y.o.k.tmod 10 == 0 then (bif wOk (fun y => cnS y.x y.d y.p) cnI ⟨y.x, y.o.d, y.o.n⟩ then some (doO y (cnR ⟨y.x, y.o.d, y.o.n⟩)) else none)
 else bif y.o.k.tmod 10 == 1 then (bif wOk (fun y => snS y.x y.i y.n) snI ⟨y.x, y.o.n, y.o.m⟩ then some (doO y ⟨(snR ⟨y.x, y.o.n, y.o.m⟩).now, (snR ⟨y.x, y.o.n, y.o.m⟩).l, 0, (snR ⟨y.x, y.o.n, y.o.m⟩).out, (snR ⟨y.x, y.o.n, y.o.m⟩).e⟩) else none)
 else bif y.o.k.tmod 10 == 2 then (bif wOk (fun y => csS y.x y.i) csI ⟨y.x, y.o.n⟩ then some (doO y ⟨(csR ⟨y.x, y.o.n⟩).now, (csR ⟨y.x, y.o.n⟩).l, 0, (csR ⟨y.x, y.o.n⟩).out, (csR ⟨y.x, y.o.n⟩).e⟩) else none)
 else bif y.o.k.tmod 10 == 7 then (bif wOk caS (fun x => lOk x.l) y.x then some (doO y (tckF y.x.now y.x.l)) else none)
 else bif y.o.k.tmod 10 == 8 then (bif wOk caS (fun x => lOk x.l) y.x then some (doO y (tckF y.x.now y.x.l)) else none)
 else bif y.o.k.tmod 10 == 9 then (bif wOk (fun y => csS y.x y.i) csI ⟨y.x, y.o.n⟩ then some (doO y ⟨y.x.now, y.x.l, 0, rsnF y.x.l y.o.n, 0⟩) else none)
 else (bif wOk (fun y => haS y.x y.b) haI ⟨y.x, y.o.b⟩ then some (doO y (haR ⟨y.x, y.o.b⟩)) else none) := by kernel_rfl
noncomputable def doR (y : DoI) : OpR := opF y.x.a y.x.now y.x.l y.o.k y.o.d y.o.n y.o.m y.o.b
def vs_clDo : List Nat := [0]
noncomputable def rf_clDo : S → Option (Bool × Tr) := gN 2 (gW 0 3 39 shCall doGet doS doI (fun y => .leaf .ret (doO y (doR y))))
theorem clDo_ref : RefOk Tryz.prog 13 vs_clDo rf_clDo := by
 refine refN (refW (fun y _ => rfl) (refXB_ok Eclp_ok af_clDo_ok rowT .bytes [0] doGet doS doI _ (fun y => [cRef, y.o.v]) (fun _ => rfl) ?_))
 rintro ⟨x, o⟩ ⟨h, ha, hd⟩
 have h : lOk x.l := h
 have ha : x.a.length = 16 := ha
 have hd : o.d.length = 16 := hd
 refine ⟨_, ?_, .ret, .leaf⟩
 rw [do_t]
 dsimp only [doR]
 rw [wOk_t (st := fun y : CnI => cnS y.x y.d y.p) (I := cnI) (x := ⟨x, o.d, o.n⟩) ⟨h, ha, hd⟩, wOk_t (st := fun y : SnI => snS y.x y.i y.n) (I := snI) (x := ⟨x, o.n, o.m⟩) h, wOk_t (st := fun y : CsI => csS y.x y.i) (I := csI) (x := ⟨x, o.n⟩) h,
  wOk_t (st := caS) (I := fun x => lOk x.l) (x := x) h, wOk_t (st := fun y : HaI => haS y.x y.b) (I := haI) (x := ⟨x, o.b⟩) h]
 rw [OpR.n0 (r := snR ⟨x, o.n, o.m⟩) (sndF_n _ _ _ _), OpR.n0 (r := csR ⟨x, o.n⟩) (clsF_n _ _ _)]
 unfold opF
 repeat' split
 all_goals
  simp (disch := omega) only [tre]
  try rfl
noncomputable def af_clIdxU : AF := afOf Tryz.prog Tryz.f43 [.unr 3]
theorem af_clIdxU_ok : AllOk Tryz.prog 43 af_clIdxU := .flat Tryz.func43 (by kernel_rfl) (by kernel_rfl) (by kernel_rfl) (by kernel_rfl) (by kernel_rfl)
noncomputable def af_clLives40 : AF := afOf Tryz.prog Tryz.f9 []
theorem af_clLives40_ok : AllOk Tryz.prog 9 af_clLives40 := .flat Tryz.func9 (by kernel_rfl) (by kernel_rfl) (by kernel_rfl) (by kernel_rfl) (by kernel_rfl)
noncomputable def GEclr0 : List (Nat × Con) := [(7, .val [.barr 16] cClNew), (23, .val [.agg [.int .u64, .int .u64], .agg [.barr 16, .int .i64, .barr 16, .int .i64]] cKyFlow), (49, .val [.other .ptr] cClOut), (50, .val [.other .ptr] cClLives), (51, .val [.other .ptr, .int .u32, .int .i64, .bytes] cClPacket), (20, .val [.int .i64, .int .i64] cStream), (27, .val [.rows (.agg [.agg [.barr 16, .int .i64, .barr 16, .int .i64], .int .i64, .int .u32, .int .u32, .int .u32, .int .u32, .int .i64, .int .i64, .int .i64, .int .i64])] cClnC), (25, .val [.barr 16, .barr 16, .agg [.int .i64, .int .i64, .int .u32, .int .u32, .int .i64, .int .i64, .int .i64, .int .i64, .rows (.agg [.int .i64, .bytes]), .bytes]] cPkTcp), (41, .val [.bytes] cPkParse), (79, .val [.agg [.int .i64, .int .i64, .int .u32, .int .u32, .int .i64, .int .i64, .int .i64, .int .i64, .rows (.agg [.int .i64, .bytes]), .bytes], .int .i64] cTcHas), (45, .val [.agg [.barr 16, .int .i64, .barr 16, .int .i64]] cClFlBack)]
theorem GEclr0_ok : GOk Tryz.prog GEclr0 := .cons (enters_of Tryz.func7 (by kernel_rfl) rfl) clNew_con <| .cons (enters_of Tryz.func23 (by kernel_rfl) rfl) kyFlow_con <| .cons (enters_of Tryz.func49 (by kernel_rfl) rfl) clOut_con <| .cons (enters_of Tryz.func50 (by kernel_rfl) rfl) clLives_con <| .cons (enters_of Tryz.func51 (by kernel_rfl) rfl) clPacket_con <| .cons (enters_of Tryz.func20 (by kernel_rfl) rfl) clStream_con <| .cons (enters_of Tryz.func27 (by kernel_rfl) rfl) clnC_con <| .cons (enters_of Tryz.func25 (by kernel_rfl) rfl) rPkTcp_con <| .cons (enters_of Tryz.func41 (by kernel_rfl) rfl) pkParse_con <| .cons (enters_of Tryz.func79 (by kernel_rfl) rfl) tcHas_con <| .cons (enters_of Tryz.func45 (by kernel_rfl) rfl) clFlBack_con <| .nil
noncomputable def IEclr0 : List (Nat × AF) := [(8, af_clConn), (24, af_clLast), (22, af_clIs), (11, af_clCalls), (18, af_clHandle), (70, af_clGreet), (100, af_clAck), (42, af_clFlOf), (43, af_clIdxU), (44, af_clHan1)]
theorem IEclr0_ok : IOk Tryz.prog IEclr0 := .cons af_clConn_ok <| .cons af_clLast_ok <| .cons af_clIs_ok <| .cons af_clCalls_ok <| .cons af_clHandle_ok <| .cons af_clGreet_ok <| .cons af_clAck_ok <| .cons af_clFlOf_ok <| .cons af_clIdxU_ok <| .cons af_clHan1_ok <| .nil
noncomputable def CEclr0 : List (Nat × (List Nat × (S → Option (Bool × Tr)))) := []
theorem CEclr0_ok : COk Tryz.prog CEclr0 := .nil
noncomputable def XEclr0 : List (Nat × (List Sh × (List V → PT))) := []
theorem XEclr0_ok : XOk Tryz.prog XEclr0 := .nil
noncomputable def Eclr : Env := ⟨Tryz.prog, (46, .val [.int .i64] (cWay 70)) :: GEclr0, IEclr0, [], [], true⟩
theorem Eclr_ok : EnvOk Eclr := ⟨by kernel_rfl, .cons (enters_of Tryz.func46 (by kernel_rfl) rfl) (cWay_con _) GEclr0_ok, IEclr0_ok, CEclr0_ok, XEclr0_ok⟩
theorem clLives40_v : callV Eclr af_clLives40 [] = some (.bool true) := by kernel_rfl
def cTrue40 : List V → Option (V × Bool)
 | [] => some (.bool true, true)
 | _ => none
theorem clLives40_con : ∀ vs v, cTrue40 vs = some (v, true) → SpecV Tryz.prog 9 vs v := by
 intro vs v h; unfold cTrue40 at h; split at h
 ·injection h with h; injection h with h hb; subst h
  exact callV_ok Eclr_ok af_clLives40_ok (clLives40_v)
 ·cases h
end Go.Proofs.YtfhljcbbgckdiaaGreat