/- Part Gcn of the proof: laws used by the law of this claim. -/
import Derived.Test.YtfhljcbbgckdiaaGreatGcm
import Derived.Test.YtfhljcbbgckdiaaGreatGa
import Derived.Test.YtfhljcbbgckdiaaGreatGo
import Derived.Test.YtfhljcbbgckdiaaGreatGz
set_option linter.all false
namespace Go.Proofs.YtfhljcbbgckdiaaGreat
open Go Go.Am Go.RowKit Go.Bas
set_option maxRecDepth 100000
abbrev cRef : V := .ref 0 [] 0 shCl
/-- a client's blocks behind a call, with a row that it handed over -/
def coN (x : CS) (n : Nat) (T : TypeId) (e : Sh) (out : List V) : List (Nat × Option Blk) :=
  [(0, some (.var shCl (.agg [.bool true, .barr 16 x.a, .int .i64 x.now, .own 2 n shCall]))), (1, some (.row T e (.rows e out))), (2, some (.row 39 shCall (.rows shCall x.l)))]
def coH (x : CS) (T : TypeId) (e : Sh) (out : List V) : List (Nat × Option Blk) := coN x x.l.length T e out
def up1 (l : List V) (i : Nat) (g : Cal → Cal) : List V := upC l i (g (atC l i))
theorem up1_up1 {l : List V} {i : Nat} (h : i < l.length) (g k : Cal → Cal) : up1 (up1 l i g) i k = up1 l i (fun c => k (g c)) := by
  unfold up1
  rw [atC_up h, upC_up]
def pkC (c : Cal) (sq fl : Int) : Bool := decide ((fl = 2 ∨ fl = 16 ∨ fl = 17 ∨ fl = 24) ∧ u32ok sq ∧ u32ok c.nx)
/-- what is out, once more -/
def lsT {α : Type} (c : Cal) (k : List V → Option α) : Option α :=
  bif !(c.un != c.se) then k [] else bif !(decide (1 ≤ c.st) && decide (c.st ≤ 3)) then k []
  else bif c.st == 1 then (bif andT true (pkC c c.un 2) then k [.bytes (sgF c c.un 2 [])] else none)
  else bif decide (c.lo > 0) then (bif andT true (pkC c c.un 24) && true then k [.bytes (sgF c c.un 24 (stL (mx0 c.off) (mnS c.lo).toNat))] else none)
  else (bif andT true (pkC c c.un 17) then k [.bytes (sgF c c.un 17 [])] else none)
theorem lsT_v {α : Type} {c : Cal} (h : cOk c) (h1 : 1 ≤ c.st) (k : List V → Option α) : lsT c k = k (lsF c) := by
  obtain ⟨⟨a1, a2⟩, ⟨a3, a4⟩, a5, a6⟩ := h
  have p : ∀ fl : Int, (fl = 2 ∨ fl = 16 ∨ fl = 17 ∨ fl = 24) → pkC c c.un fl = true := fun fl hf => decide_eq_true ⟨hf, ⟨a3, a4⟩, a1, a2⟩
  unfold lsT lsF
  rw [p 2 (by omega), p 24 (by omega), p 17 (by omega)]
  by_cases c1 : c.un = c.se
  · rw [if_pos c1]
    simp (disch := omega) only [dec_t, dec_f, inB_t, inC_t, andT_t, cond_true, cond_false, Bool.and_true, Bool.true_and, w64, wu32, wu8, nble_t, nblt_t, Bool.not_true, Bool.not_false, Bool.not_not, ieq_t, ieq_f, ine_t, ine_f, true_and, and_true, andT_l]
  rw [if_neg c1]
  by_cases c2 : c.st > 3
  · rw [if_pos c2]
    rw [show decide (c.st ≤ 3) = false from decide_eq_false (by omega)]
    simp only [Bool.and_false, Bool.not_false, cond_true]
    simp (disch := omega) only [dec_t, dec_f, inB_t, inC_t, andT_t, cond_true, cond_false, Bool.and_true, Bool.true_and, w64, wu32, wu8, nble_t, nblt_t, Bool.not_true, Bool.not_false, Bool.not_not, ieq_t, ieq_f, ine_t, ine_f, true_and, and_true, andT_l]
  rw [if_neg c2]
  by_cases c3 : c.st = 1
  · rw [if_pos c3]
    simp (disch := omega) only [dec_t, dec_f, inB_t, inC_t, andT_t, cond_true, cond_false, Bool.and_true, Bool.true_and, w64, wu32, wu8, nble_t, nblt_t, Bool.not_true, Bool.not_false, Bool.not_not, ieq_t, ieq_f, ine_t, ine_f, true_and, and_true, andT_l]
  rw [if_neg c3]
  by_cases c4 : c.lo > 0
  · rw [if_pos c4]
    simp (disch := omega) only [dec_t, dec_f, inB_t, inC_t, andT_t, cond_true, cond_false, Bool.and_true, Bool.true_and, w64, wu32, wu8, nble_t, nblt_t, Bool.not_true, Bool.not_false, Bool.not_not, ieq_t, ieq_f, ine_t, ine_f, true_and, and_true, andT_l]
  rw [if_neg c4]
  simp (disch := omega) only [dec_t, dec_f, inB_t, inC_t, andT_t, cond_true, cond_false, Bool.and_true, Bool.true_and, w64, wu32, wu8, nble_t, nblt_t, Bool.not_true, Bool.not_false, Bool.not_not, ieq_t, ieq_f, ine_t, ine_f, true_and, and_true, andT_l]
def rowT : TypeId := 34
/-! ### Send -/
def CS.of (x : CS) (r : OpR) : CS := ⟨x.a, r.now, r.l⟩
/-! ### Close -/
/-! ### Resend -/
/-! ### Calls -/
def caS (x : CS) : S := ⟨slots 0 [cRef], csH x, 2, true, 1⟩
def caO (x : CS) : S := ⟨[(1, cRef), (0, .own 1 x.l.length shCall)], coH x 39 shCall x.l, 3, true, 2⟩
theorem ca_t (x : CS) : inlN Eclk 6 af_clCalls [cRef] (caS x) (retB rowT .bytes [cRef] [0]) = bif andT true (decide (x.l.length ≤ 1000)) then some (caO x) else none := by kernel_rfl
def vs_clCalls : List Nat := [0]
noncomputable def rf_clCalls : S → Option (Bool × Tr) := gN 1 (gW 0 3 39 shCall csGet caS (fun x => lOk x.l) (fun x => .leaf .ret (caO x)))
theorem clCalls_ref : RefOk Tryz.prog 11 vs_clCalls rf_clCalls := by
  refine refN (refW (fun y _ => rfl) (refXB_ok Eclk_ok af_clCalls_ok rowT .bytes [0] csGet caS (fun x => lOk x.l) _ (fun _ => [cRef]) (fun _ => rfl) ?_))
  rintro ⟨a, now, l⟩ h
  have h : lOk l := h
  have hM := h.1
  refine ⟨_, ?_, .ret, .leaf⟩
  rw [ca_t]
  dsimp only
  simp (disch := omega) only [dec_t, dec_f, inB_t, inC_t, andT_t, cond_true, cond_false, Bool.and_true, Bool.true_and, w64, wu32, wu8, nble_t, nblt_t, Bool.not_true, Bool.not_false, Bool.not_not, ieq_t, ieq_f, ine_t, ine_f, true_and, and_true, andT_l]
/-! ### Connect -/
noncomputable def af_clConn : AF := afOf Tryz.prog Tryz.f8 []
theorem af_clConn_ok : AllOk Tryz.prog 8 af_clConn := .flat Tryz.func8 (by kernel_rfl) (by kernel_rfl) (by kernel_rfl) (by kernel_rfl) (by kernel_rfl)
noncomputable def GEcll : List (Nat × Con) := [(49, .val [.other .ptr] cClOut), (50, .val [.other .ptr] cClLives), (51, .val [.other .ptr, .int .u32, .int .i64, .bytes] cClPacket), (20, .val [.int .i64, .int .i64] cStream), (23, .val [.agg [.int .u64, .int .u64], .agg [.barr 16, .int .i64, .barr 16, .int .i64]] cKyFlowS)]
theorem GEcll_ok : GOk Tryz.prog GEcll := .cons (enters_of Tryz.func49 (by kernel_rfl) rfl) clOut_con <| .cons (enters_of Tryz.func50 (by kernel_rfl) rfl) clLives_con <| .cons (enters_of Tryz.func51 (by kernel_rfl) rfl) clPacket_con <| .cons (enters_of Tryz.func20 (by kernel_rfl) rfl) clStream_con <| .cons (enters_of Tryz.func23 (by kernel_rfl) rfl) kyFlowS_con <| .nil
noncomputable def IEcll : List (Nat × AF) := [(22, af_clIs), (24, af_clLast)]
theorem IEcll_ok : IOk Tryz.prog IEcll := .cons af_clIs_ok <| .cons af_clLast_ok <| .nil
noncomputable def CEcll : List (Nat × (List Nat × (S → Option (Bool × Tr)))) := []
theorem CEcll_ok : COk Tryz.prog CEcll := .nil
noncomputable def XEcll : List (Nat × (List Sh × (List V → PT))) := []
theorem XEcll_ok : XOk Tryz.prog XEcll := .nil
noncomputable def Ecll : Env := ⟨Tryz.prog, GEcll, IEcll, CEcll, XEcll, false⟩
theorem Ecll_ok : EnvOk Ecll := ⟨by kernel_rfl, GEcll_ok, IEcll_ok, CEcll_ok, XEcll_ok⟩
def cnS (x : CS) (d : List UInt8) (p : Int) : S := ⟨slots 0 [cRef, .barr 16 d, .int .i64 p], csH x, 2, true, 3⟩
def cnN (x : CS) (k : Nat) (d : List UInt8) (p n : Int) (out : List V) (e : Int) : S := ⟨[(1, cRef), (2, .barr 16 d), (3, .int .i64 p), (0, .tup [.int .i64 n, .own 1 out.length .bytes, .int .i64 e])], coN x k rowT .bytes out, 3, true, 4⟩
def cnO (x : CS) (d : List UInt8) (p n : Int) (out : List V) (e : Int) : S := cnN x x.l.length d p n out e
theorem cn_t (x : CS) (d : List UInt8) (p : Int) : inlN Ecll 6 af_clConn [cRef, .barr 16 d, .int .i64 p] (cnS x d p) (retB rowT .bytes [cRef, .barr 16 d, .int .i64 p] [0]) =
 bif decide (p < 1) then some (cnO x d p 0 [] 2) else bif decide (p > 65535) then some (cnO x d p 0 [] 2) else bif decide ((x.l.length : Int) ≥ 8) then some (cnO x d p 0 [] 8)
 else bif andT true (decide (x.a.length = 16 ∧ d.length = 16)) then
 bif andT true (Nat.ble ((x.l ++ [(cnnC x.a x.now x.l.length d p).v]).length * 104) 140737488355328) && true then
 lsT (cnnC x.a x.now x.l.length d p) fun out => some (cnO ⟨x.a, x.now, x.l ++ [(cnnC x.a x.now x.l.length d p).v]⟩ d p x.l.length out 0)
 else none else none := by kernel_rfl
structure CnI where
  x : CS
  d : List UInt8
  p : Int
def cnGet (s : S) : CnI := ⟨csGet s, toA (lkD s 1), toI (lkD s 2)⟩
def cnI (y : CnI) : Prop := lOk y.x.l ∧ y.x.a.length = 16 ∧ y.d.length = 16
noncomputable def cnR (y : CnI) : OpR := cnnF y.x.a y.x.now y.x.l y.d y.p
def vs_clConn : List Nat := [0]
noncomputable def rf_clConn : S → Option (Bool × Tr) := gN 3 (gW 0 3 39 shCall cnGet (fun y => cnS y.x y.d y.p) cnI (fun y => .leaf .ret (cnO (y.x.of (cnR y)) y.d y.p (cnR y).n (cnR y).out (cnR y).e)))
theorem clConn_ref : RefOk Tryz.prog 8 vs_clConn rf_clConn := by
  refine refN (refW (fun y _ => rfl) (refXB_ok Ecll_ok af_clConn_ok rowT .bytes [0] cnGet (fun y => cnS y.x y.d y.p) cnI _ (fun y => [cRef, .barr 16 y.d, .int .i64 y.p]) (fun _ => rfl) ?_))
  rintro ⟨⟨a, now, l⟩, d, p⟩ ⟨h, ha, hd⟩
  have h : lOk l := h
  have ha : a.length = 16 := ha
  have hd : d.length = 16 := hd
  have hM := h.1
  refine ⟨_, ?_, .ret, .leaf⟩
  dsimp only [cnR, CS.of]
  rw [cn_t]
  unfold cnnF
  dsimp only
  have hc := cnnC_ok a now l.length d p
  have hlen : ((l ++ [(cnnC a now l.length d p).v]).length * 104) ≤ 140737488355328 := by rw [List.length_append]; simp; omega
  have hl : ∀ k : List V → Option S, lsT (cnnC a now l.length d p) k = k (lsF (cnnC a now l.length d p)) := lsT_v hc (by show (1 : Int) ≤ 1; omega)
  rw [hl]
  by_cases c1 : p < 1
  · rw [if_pos c1]
    simp (disch := omega) only [dec_t, dec_f, inB_t, inC_t, andT_t, cond_true, cond_false, Bool.and_true, Bool.true_and, w64, wu32, wu8, nble_t, nblt_t, Bool.not_true, Bool.not_false, Bool.not_not, ieq_t, ieq_f, ine_t, ine_f, true_and, and_true, andT_l]
  rw [if_neg c1]
  by_cases c2 : p > 65535
  · rw [if_pos c2]
    simp (disch := omega) only [dec_t, dec_f, inB_t, inC_t, andT_t, cond_true, cond_false, Bool.and_true, Bool.true_and, w64, wu32, wu8, nble_t, nblt_t, Bool.not_true, Bool.not_false, Bool.not_not, ieq_t, ieq_f, ine_t, ine_f, true_and, and_true, andT_l]
  rw [if_neg c2]
  by_cases c3 : (l.length : Int) ≥ 8
  · rw [if_pos c3]
    simp (disch := omega) only [dec_t, dec_f, inB_t, inC_t, andT_t, cond_true, cond_false, Bool.and_true, Bool.true_and, w64, wu32, wu8, nble_t, nblt_t, Bool.not_true, Bool.not_false, Bool.not_not, ieq_t, ieq_f, ine_t, ine_f, true_and, and_true, andT_l]
  rw [if_neg c3]
  simp (disch := omega) only [dec_t, dec_f, inB_t, inC_t, andT_t, cond_true, cond_false, Bool.and_true, Bool.true_and, w64, wu32, wu8, nble_t, nblt_t, Bool.not_true, Bool.not_false, Bool.not_not, ieq_t, ieq_f, ine_t, ine_f, true_and, and_true, andT_l]
end Go.Proofs.YtfhljcbbgckdiaaGreat

namespace Go.Proofs.YtfhljcbbgckdiaaGreat
open Go Go.Am Go.RowKit Go.Bas
set_option maxRecDepth 100000
/-- what waits too long is sent once more -/
def agL (l : List V) (i : Nat) (now : Int) : List V := up1 (up1 l i fun c => { c with ag := IntKind.i64.wrap (c.ag + 1) }) i fun c => { c with si := now }
def agT {α : Type} (l : List V) (i : Nat) (now : Int) (k : List V → List V → Option α) : Option α :=
  bif !(decide (1 ≤ (atC l i).st) && decide ((atC l i).st ≤ 3)) then k l [] else bif !((atC l i).un != (atC l i).se) then k l []
  else bif andT true (decide (0 ≤ (atC l i).ag)) && true then
    bif decide (IntKind.i64.wrap (now - (atC l i).si) < IntKind.i64.wrap (1 * 2 ^ (min (atC l i).ag.toNat 64))) then k l []
    else bif decide ((atC l i).ag ≥ 3) then k (up1 l i fun c => { c with st := 5 }) []
    else lsT (atC (agL l i now) i) fun o => k (agL l i now) o
  else none
theorem shl_eq {k : Int} (h0 : 0 ≤ k) (h1 : k ≤ 3) : IntKind.i64.wrap (1 * 2 ^ (min k.toNat 64)) = waF k := by
  have : k = 0 ∨ k = 1 ∨ k = 2 ∨ k = 3 := by omega
  rcases this with rfl | rfl | rfl | rfl <;> rfl
theorem agL_eq {l : List V} {i : Nat} (h : i < l.length) (now : Int) : agL l i now = upC l i (agC (atC l i) now) := by
  unfold agL
  rw [up1_up1 h]
  rfl
theorem agT_v {α : Type} {l : List V} {i : Nat} {now : Int} (h : lOk l) (hi : i < l.length) (k : List V → List V → Option α) : agT l i now k = match tk1 (atC l i) now with | none => k l [] | some (c, o) => k (upC l i c) o := by
  obtain ⟨_, hok, ⟨g1, g2⟩, ⟨g3, g4⟩, g5, g6⟩ := h.at hi
  have hok2 : cOk (agC (atC l i) now) := hok
  unfold agT tk1
  rw [agL_eq hi, atC_up hi]
  have hl := lsT_v hok2 g1 fun o => k (upC l i (agC (atC l i) now)) o
  rw [hl]
  simp only [shl_eq g3 g4]
  by_cases c1 : (atC l i).st > 3
  · rw [if_pos c1, show decide ((atC l i).st ≤ 3) = false from decide_eq_false (by omega)]
    simp only [Bool.and_false, Bool.not_false, cond_true]
  rw [if_neg c1]
  by_cases c2 : (atC l i).un = (atC l i).se
  · rw [if_pos c2]
    simp (disch := omega) only [dec_t, dec_f, inB_t, inC_t, andT_t, cond_true, cond_false, Bool.and_true, Bool.true_and, w64, wu32, wu8, nble_t, nblt_t, Bool.not_true, Bool.not_false, Bool.not_not, ieq_t, ieq_f, ine_t, ine_f, true_and, and_true, andT_l]
  rw [if_neg c2]
  by_cases c3 : IntKind.i64.wrap (now - (atC l i).si) < waF (atC l i).ag
  · rw [if_pos c3]
    simp (disch := omega) only [dec_t, dec_f, inB_t, inC_t, andT_t, cond_true, cond_false, Bool.and_true, Bool.true_and, w64, wu32, wu8, nble_t, nblt_t, Bool.not_true, Bool.not_false, Bool.not_not, ieq_t, ieq_f, ine_t, ine_f, true_and, and_true, andT_l]
  rw [if_neg c3]
  by_cases c4 : (atC l i).ag = 3
  · rw [if_pos c4]
    simp (disch := omega) only [dec_t, dec_f, inB_t, inC_t, andT_t, cond_true, cond_false, Bool.and_true, Bool.true_and, w64, wu32, wu8, nble_t, nblt_t, Bool.not_true, Bool.not_false, Bool.not_not, ieq_t, ieq_f, ine_t, ine_f, true_and, and_true, andT_l]
    rfl
  · rw [if_neg c4]
    simp (disch := omega) only [dec_t, dec_f, inB_t, inC_t, andT_t, cond_true, cond_false, Bool.and_true, Bool.true_and, w64, wu32, wu8, nble_t, nblt_t, Bool.not_true, Bool.not_false, Bool.not_not, ieq_t, ieq_f, ine_t, ine_f, true_and, and_true, andT_l]
structure TpyI where
  x : CS
  out : List V
  i : Int
def tpyN (x : CS) (k : Nat) (out : List V) (m : Nat) (i : Int) : S := ⟨[(0, cRef), (18, .own 1 k shCall), (19, .int .i64 k), (20, .int .i64 i), (3, .own 2 m .bytes)],
  [(0, some (.var shCl (.agg [.bool true, .barr 16 x.a, .int .i64 x.now, .own 1 k shCall]))), (1, some (.row 39 shCall (.rows shCall x.l))), (2, some (.row rowT .bytes (.rows .bytes out)))], 3, true, 35⟩
def tpyS (y : TpyI) : S := tpyN y.x y.x.l.length y.out y.out.length y.i
def tpyX (y : TpyI) : S := ⟨[(0, cRef), (18, .own 1 y.x.l.length shCall), (3, .own 2 y.out.length .bytes)],
  [(0, some (.var shCl (.agg [.bool true, .barr 16 y.x.a, .int .i64 y.x.now, .own 1 y.x.l.length shCall]))), (1, some (.row 39 shCall (.rows shCall y.x.l))), (2, some (.row rowT .bytes (.rows .bytes y.out)))], 3, true, 35⟩
def tpyGet (s : S) : TpyI := ⟨csGet s, toR (bkD s 2), toI (lkD s 20)⟩
def tpyI (y : TpyI) : Prop := 0 ≤ y.i ∧ y.i ≤ y.x.l.length ∧ lOk y.x.l ∧ y.out.length ≤ y.i
def tpyE (y : TpyI) : TpyI := { y with x := ⟨y.x.a, y.x.now, (tkN y.x.now (y.x.l.length - y.i.toNat) y.x.l y.i.toNat y.out).1⟩, out := (tkN y.x.now (y.x.l.length - y.i.toNat) y.x.l y.i.toNat y.out).2 }
noncomputable def tpyG : S → Option (Bool × Tr) := gK tpyGet tpyS tpyI (fun y => .leaf (.exit 0) (tpyX (tpyE y)))
noncomputable def af_clAgain : AF := afOf Tryz.prog Tryz.f26 []
theorem af_clAgain_ok : AllOk Tryz.prog 26 af_clAgain := .flat Tryz.func26 (by kernel_rfl) (by kernel_rfl) (by kernel_rfl) (by kernel_rfl) (by kernel_rfl)
noncomputable def af_clTick : AF := afOf Tryz.prog Tryz.f10 [.sum [0, 18, 19, 20, 3] [0] tpyG]
noncomputable def GEclm : List (Nat × Con) := [(49, .val [.other .ptr] cClOut), (50, .val [.other .ptr] cClLives), (51, .val [.other .ptr, .int .u32, .int .i64, .bytes] cClPacket), (20, .val [.int .i64, .int .i64] cStream)]
theorem GEclm_ok : GOk Tryz.prog GEclm := .cons (enters_of Tryz.func49 (by kernel_rfl) rfl) clOut_con <| .cons (enters_of Tryz.func50 (by kernel_rfl) rfl) clLives_con <| .cons (enters_of Tryz.func51 (by kernel_rfl) rfl) clPacket_con <| .cons (enters_of Tryz.func20 (by kernel_rfl) rfl) clStream_con <| .nil
noncomputable def IEclm : List (Nat × AF) := [(22, af_clIs), (24, af_clLast), (26, af_clAgain)]
theorem IEclm_ok : IOk Tryz.prog IEclm := .cons af_clIs_ok <| .cons af_clLast_ok <| .cons af_clAgain_ok <| .nil
noncomputable def CEclm : List (Nat × (List Nat × (S → Option (Bool × Tr)))) := []
theorem CEclm_ok : COk Tryz.prog CEclm := .nil
noncomputable def XEclm : List (Nat × (List Sh × (List V → PT))) := []
theorem XEclm_ok : XOk Tryz.prog XEclm := .nil
noncomputable def Eclm : Env := ⟨Tryz.prog, GEclm, IEclm, CEclm, XEclm, false⟩
theorem Eclm_ok : EnvOk Eclm := ⟨by kernel_rfl, GEclm_ok, IEclm_ok, CEclm_ok, XEclm_ok⟩
noncomputable def tpyC : AC := (af_clTick.ac.sums.headD (.skip, [], [], fun _ => none)).1
def apO (out o : List V) : List V := match o with | [] => out | x :: r => out ++ x :: r
theorem tpy_b (x : CS) (out : List V) (i : Int) : aev Eclm (inlN Eclm 6) tpyC (bodyF (Am.ways [0, 18, 19, 20, 3] [0, 18, 3] []) [0]) (tpyS ⟨x, out, i⟩) =
 bif decide (i < (x.l.length : Int)) then bif andT true (Am.inB i x.l.length) then bif andT true (Am.inB i x.l.length) then
 agT x.l i.toNat x.now fun l o => bif andT true (Nat.ble ((apO out o).length * 24) 140737488355328) then some (.normal, tpyN ⟨x.a, x.now, l⟩ x.l.length (apO out o) (apO out o).length (IntKind.i64.wrap (i + 1))) else none
 else none else none else some (.exit 0, tpyX ⟨x, out, i⟩) := by kernel_rfl
theorem apO_eq (out o : List V) : apO out o = out ++ o := by
  cases o with
  | nil => rw [List.append_nil]; rfl
  | cons x r => rfl
theorem tpy_loop : LoopOk Tryz.prog tpyC.erase [0] tpyG := by
  refine loopK (fun _ => rfl) (fun x _ => rfl) (loopX_ok Eclm_ok (d := 6) (AC.flat_ok (by kernel_rfl)) (Am.ways [0, 18, 19, 20, 3] [0, 18, 3] []) [0] tpyGet _ _ tpyI (fun y => (y.x.l.length - y.i).toNat) (fun _ => rfl) ?_)
  rintro ⟨⟨a, now, l⟩, out, i⟩ ⟨h0, h1, hl, ho⟩
  rw [tpy_b]
  simp only at h0 h1 hl ho ⊢
  have hM := hl.1
  obtain ⟨k, rfl⟩ := Int.eq_ofNat_of_zero_le h0
  simp only [Int.toNat_natCast]
  by_cases hi : k < l.length
  · obtain ⟨hv, hok, ⟨g1, g2⟩, ⟨g3, g4⟩, g5, g6⟩ := hl.at hi
    have e1 : l.length - k = (l.length - (k + 1)) + 1 := by omega
    have ek : ((k : Int) + 1).toNat = k + 1 := by omega
    rw [agT_v hl hi]
    cases ht : tk1 (atC l k) now with
    | none =>
      refine .inl ⟨⟨⟨a, now, l⟩, out, k + 1⟩, ?_, ⟨by dsimp only; omega, by dsimp only; omega, hl, by dsimp only; omega⟩, by dsimp only; omega, leaf_eq ?_⟩
      · dsimp only [apO]
        simp (disch := omega) only [dec_t, dec_f, inB_t, inC_t, andT_t, cond_true, cond_false, Bool.and_true, Bool.true_and, w64, wu32, wu8, nble_t, nblt_t, Bool.not_true, Bool.not_false, Bool.not_not, ieq_t, ieq_f, ine_t, ine_f, true_and, and_true, andT_l]
        rfl
      · dsimp only [tpyE]
        rw [ek, Int.toNat_natCast, e1, tkN, ht]
        rfl
    | some co =>
      obtain ⟨c, o⟩ := co
      have hc : cGd c ∧ o.length ≤ 1 := by
        unfold tk1 at ht
        split at ht
        · cases ht
        split at ht
        · cases ht
        split at ht
        · cases ht
        split at ht
        · injection ht with ht; injection ht with e1 e2; subst e1; subst e2
          exact ⟨⟨hok, ⟨by show (1 : Int) ≤ 5; omega, by show (5 : Int) ≤ 5; omega⟩, ⟨g3, g4⟩, g5, g6⟩, by simp⟩
        · rename_i hn3
          injection ht with ht; injection ht with e1 e2; subst e1; subst e2
          have hw : IntKind.i64.wrap ((atC l k).ag + 1) = (atC l k).ag + 1 := w64 (by omega) (by omega)
          exact ⟨⟨hok, ⟨g1, g2⟩, ⟨by show 0 ≤ IntKind.i64.wrap ((atC l k).ag + 1); omega, by show IntKind.i64.wrap ((atC l k).ag + 1) ≤ 3; omega⟩, g5, g6⟩, lsF_len _⟩
      refine .inl ⟨⟨⟨a, now, upC l k c⟩, out ++ o, k + 1⟩, ?_, ⟨by dsimp only; omega, by dsimp only; rw [upC_len]; omega, hl.up hc.1 k, by dsimp only; rw [List.length_append]; omega⟩, by dsimp only; rw [upC_len]; omega, leaf_eq ?_⟩
      · have hb : (out ++ o).length * 24 ≤ 140737488355328 := by rw [List.length_append]; omega
        dsimp only
        rw [apO_eq]
        simp (disch := omega) only [dec_t, dec_f, inB_t, inC_t, andT_t, cond_true, cond_false, Bool.and_true, Bool.true_and, w64, wu32, wu8, nble_t, nblt_t, Bool.not_true, Bool.not_false, Bool.not_not, ieq_t, ieq_f, ine_t, ine_f, true_and, and_true, andT_l]
        unfold tpyS
        dsimp only
        rw [upC_len]
      · dsimp only [tpyE]
        rw [ek, Int.toNat_natCast, upC_len, e1, tkN, ht]
        rfl
  · refine .inr ⟨.exit 0, tpyX ⟨⟨a, now, l⟩, out, k⟩, ?_, nofun, ?_⟩
    · simp (disch := omega) only [dec_t, dec_f, inB_t, inC_t, andT_t, cond_true, cond_false, Bool.and_true, Bool.true_and, w64, wu32, wu8, nble_t, nblt_t, Bool.not_true, Bool.not_false, Bool.not_not, ieq_t, ieq_f, ine_t, ine_f, true_and, and_true, andT_l]
    · unfold tpyE
      dsimp only
      rw [Int.toNat_natCast, show l.length - k = 0 by omega]
      exact .leaf
theorem af_clTick_ok : AllOk Tryz.prog 10 af_clTick := .sums Tryz.func10 (by kernel_rfl) (by kernel_rfl) (by kernel_rfl) (by kernel_rfl) (sums_one (c := tpyC) (ts := [0, 18, 19, 20, 3]) (by kernel_rfl) (by kernel_rfl) tpy_loop)
def tpyS0 (x : CS) : S := ⟨[(0, cRef), (18, .own 1 x.l.length shCall), (19, .int .i64 x.l.length), (20, .int .i64 0), (3, .nils)], csH x, 2, true, 35⟩
theorem tpyW (x : CS) : Weak (tpyS0 x) (tpyS ⟨x, [], 0⟩) := by
  refine .slot (t := 3) (T := rowT) (sh := .bytes) ⟨rfl, rfl, rfl, rfl, fun u hu => ?_, rfl, fun i hi => ?_⟩
  · have hb : Nat.beq 3 u = false := Bool.eq_false_iff.2 fun e => hu (Nat.eq_of_beq_eq_true e).symm
    simp only [tpyS, tpyN, tpyS0, Am.look, hb, cond_false]
  · have hi : i ≠ 2 := hi
    have hb : Nat.beq 2 i = false := Bool.eq_false_iff.2 fun e => hi (Nat.eq_of_beq_eq_true e).symm
    simp only [tpyS, tpyN, tpyS0, csH, Am.lookH, hb, cond_false]
noncomputable def tpyOk (x : CS) : Bool := okG (Weak (tpyS0 x) (tpyS ⟨x, [], 0⟩) ∧ tpyI ⟨x, [], 0⟩)
def tiO (x : CS) (out : List V) : S := ⟨[(1, cRef), (0, .own 1 out.length .bytes)], coH x rowT .bytes out, 3, true, 2⟩
theorem ti_t (x : CS) : inlN Eclm 6 af_clTick [cRef] (caS x) (retB rowT .bytes [cRef] [0]) =
 bif tpyOk ⟨x.a, IntKind.i64.wrap (x.now + 1), x.l⟩ then some (tiO (x.of (tckF x.now x.l)) (tckF x.now x.l).out) else none := by kernel_rfl
def vs_clTick : List Nat := [0]
noncomputable def rf_clTick : S → Option (Bool × Tr) := gN 1 (gW 0 3 39 shCall csGet caS (fun x => lOk x.l) (fun x => .leaf .ret (tiO (x.of (tckF x.now x.l)) (tckF x.now x.l).out)))
theorem clTick_ref : RefOk Tryz.prog 10 vs_clTick rf_clTick := by
  refine refN (refW (fun y _ => rfl) (refXB_ok Eclm_ok af_clTick_ok rowT .bytes [0] csGet caS (fun x => lOk x.l) _ (fun _ => [cRef]) (fun _ => rfl) ?_))
  rintro ⟨a, now, l⟩ h
  have h : lOk l := h
  refine ⟨_, ?_, .ret, .leaf⟩
  rw [ti_t, show tpyOk ⟨a, IntKind.i64.wrap (now + 1), l⟩ = true from okG_t ⟨tpyW _, Int.le_refl 0, by show (0 : Int) ≤ (l.length : Int); omega, h, by show (([] : List V).length : Int) ≤ 0; simp⟩]
  rfl
end Go.Proofs.YtfhljcbbgckdiaaGreat

namespace Go.Proofs.YtfhljcbbgckdiaaGreat
open Go Go.Am Go.RowKit Go.Mix Go.Bas
set_option maxRecDepth 100000
/-! ### which call -/
noncomputable def af_clFlBack : AF := afOf Tryz.prog Tryz.f45 []
theorem af_clFlBack_ok : AllOk Tryz.prog 45 af_clFlBack := .flat Tryz.func45 (by kernel_rfl) (by kernel_rfl) (by kernel_rfl) (by kernel_rfl) (by kernel_rfl)
noncomputable def GEcln0 : List (Nat × Con) := []
theorem GEcln0_ok : GOk Tryz.prog GEcln0 := .nil
noncomputable def IEcln0 : List (Nat × AF) := []
theorem IEcln0_ok : IOk Tryz.prog IEcln0 := .nil
noncomputable def CEcln0 : List (Nat × (List Nat × (S → Option (Bool × Tr)))) := []
theorem CEcln0_ok : COk Tryz.prog CEcln0 := .nil
noncomputable def XEcln0 : List (Nat × (List Sh × (List V → PT))) := []
theorem XEcln0_ok : XOk Tryz.prog XEcln0 := .nil
noncomputable def Ecln0 : Env := ⟨Tryz.prog, GEcln0, IEcln0, CEcln0, XEcln0, false⟩
theorem Ecln0_ok : EnvOk Ecln0 := ⟨by kernel_rfl, GEcln0_ok, IEcln0_ok, CEcln0_ok, XEcln0_ok⟩
theorem clFlBack_t (s d : List UInt8) (sp dp : Int) : callV Ecln0 af_clFlBack [.agg [.barr 16 s, .int .i64 sp, .barr 16 d, .int .i64 dp]] = some (.agg [.barr 16 d, .int .i64 dp, .barr 16 s, .int .i64 sp]) := by kernel_rfl
def cClFlBack : List V → Option (V × Bool)
  | [.agg [.barr 16 s, .int .i64 sp, .barr 16 d, .int .i64 dp]] => some (.agg [.barr 16 d, .int .i64 dp, .barr 16 s, .int .i64 sp], true)
  | _ => none
theorem clFlBack_con : ∀ vs v, cClFlBack vs = some (v, true) → SpecV Tryz.prog 45 vs v := by
  intro vs v h; unfold cClFlBack at h; split at h
  · rename_i s sp d dp
    injection h with h; injection h with h hb; subst h
    exact callV_ok Ecln0_ok af_clFlBack_ok (clFlBack_t s d sp dp)
  · cases h
def Fw.back (f : Fw) : Fw := ⟨f.d, f.dp, f.s, f.sp⟩
noncomputable def af_clHan1 : AF := afOf Tryz.prog Tryz.f44 []
theorem af_clHan1_ok : AllOk Tryz.prog 44 af_clHan1 := .flat Tryz.func44 (by kernel_rfl) (by kernel_rfl) (by kernel_rfl) (by kernel_rfl) (by kernel_rfl)
/-! ### what is done in a state -/
theorem way_calls (s : Int) (w : World) : Calls Tryz.prog 46 #[.int .i64 s] w fun e w' => e = .returned (.func (.func (wayF s)) #[] #[]) ∧ w = w' := by
  by_cases h1 : s = 1
  · subst h1
    go_enter Tryz.func46, Tryz.ntmps46
    go_wp2
    go_ret
    exact ⟨rfl, rfl⟩
  have e1 : (s == 1) = false := ieq_f h1
  by_cases h2 : s = 2
  · subst h2
    go_enter Tryz.func46, Tryz.ntmps46
    go_wp2
    go_ret
    exact ⟨rfl, rfl⟩
  have e2 : (s == 2) = false := ieq_f h2
  by_cases h3 : s = 3
  · subst h3
    go_enter Tryz.func46, Tryz.ntmps46
    go_wp2
    go_ret
    exact ⟨rfl, rfl⟩
  have e3 : (s == 3) = false := ieq_f h3
  by_cases h4 : s = 4
  · subst h4
    go_enter Tryz.func46, Tryz.ntmps46
    go_wp2
    go_ret
    exact ⟨rfl, rfl⟩
  have e4 : (s == 4) = false := ieq_f h4
  have e : wayF s = 73 := by unfold wayF; rw [e1, e2, e3, e4]; rfl
  rw [e]
  go_enter Tryz.func46, Tryz.ntmps46
  go_wp2
  go_ret
  exact ⟨rfl, rfl⟩
/-- it is function k -/
def cWay (k : Nat) : List V → Option (V × Bool)
  | [.int .i64 s] => some (.fn k [] [], Nat.beq (wayF s) k)
  | _ => none
theorem cWay_con (k : Nat) : ∀ vs v, cWay k vs = some (v, true) → SpecV Tryz.prog 46 vs v := by
  intro vs v h; unfold cWay at h; split at h
  · rename_i s
    injection h with h; injection h with h hb; subst h
    have hb := Nat.eq_of_beq_eq_true hb
    subst hb
    intro O w cs hO hv
    obtain ⟨c, rfl, hr⟩ := hv.one_inv
    obtain ⟨rfl, _⟩ := hr.int_inv
    exact kSame (way_calls s w) fun w' => .val (.one (.fn .nil .nil) rfl)
  · cases h
end Go.Proofs.YtfhljcbbgckdiaaGreat

namespace Go.Proofs.YtfhljcbbgckdiaaGreat
open Go Go.Am Go.RowKit Go.Bas
set_option maxRecDepth 100000
noncomputable def af_clFlOf : AF := afOf Tryz.prog Tryz.f42 []
theorem af_clFlOf_ok : AllOk Tryz.prog 42 af_clFlOf := .flat Tryz.func42 (by kernel_rfl) (by kernel_rfl) (by kernel_rfl) (by kernel_rfl) (by kernel_rfl)
noncomputable def af_clGreet : AF := afOf Tryz.prog Tryz.f70 []
theorem af_clGreet_ok : AllOk Tryz.prog 70 af_clGreet := .flat Tryz.func70 (by kernel_rfl) (by kernel_rfl) (by kernel_rfl) (by kernel_rfl) (by kernel_rfl)
noncomputable def af_clHandle : AF := afOf Tryz.prog Tryz.f18 []
theorem af_clHandle_ok : AllOk Tryz.prog 18 af_clHandle := .flat Tryz.func18 (by kernel_rfl) (by kernel_rfl) (by kernel_rfl) (by kernel_rfl) (by kernel_rfl)
end Go.Proofs.YtfhljcbbgckdiaaGreat

namespace Go.Proofs.YtfhljcbbgckdiaaGreat
open Go Go.Am Go.RowKit Go.Bas
set_option maxRecDepth 100000
/-! ### flags -/
/-! ### what becomes of the call -/
end Go.Proofs.YtfhljcbbgckdiaaGreat

namespace Go.Proofs.YtfhljcbbgckdiaaGreat
open Go Go.Am Go.RowKit Go.Bas
set_option maxRecDepth 100000
/-! ### any call -/
structure Op4 where
  k : Int
  d : List UInt8
  n : Int
  m : Int
  b : List UInt8
def Op4.v (o : Op4) : V := clOpV o.k o.d o.n o.m o.b
/-- what is handed over may be told as it is -/
noncomputable def wOk {X : Type} (st : X → S) (I : X → Prop) (x : X) : Bool := okG ((st x = st x ∨ Wk 0 3 39 shCall (st x) (st x)) ∧ I x)
theorem wOk_t {X : Type} {st : X → S} {I : X → Prop} {x : X} (h : I x) : wOk st I x = true := okG_t ⟨.inl rfl, h⟩
end Go.Proofs.YtfhljcbbgckdiaaGreat

namespace Go.Proofs.YtfhljcbbgckdiaaGreat
open Go Go.Am Go.RowKit Go.Bas
set_option maxRecDepth 100000
/-! ### a call that opens -/
noncomputable def af_clIdxU : AF := afOf Tryz.prog Tryz.f43 [.unr 3]
theorem af_clIdxU_ok : AllOk Tryz.prog 43 af_clIdxU := .flat Tryz.func43 (by kernel_rfl) (by kernel_rfl) (by kernel_rfl) (by kernel_rfl) (by kernel_rfl)
noncomputable def af_clLives40 : AF := afOf Tryz.prog Tryz.f9 []
theorem af_clLives40_ok : AllOk Tryz.prog 9 af_clLives40 := .flat Tryz.func9 (by kernel_rfl) (by kernel_rfl) (by kernel_rfl) (by kernel_rfl) (by kernel_rfl)
noncomputable def GEclr0 : List (Nat × Con) := [(7, .val [.barr 16] cClNew), (23, .val [.agg [.int .u64, .int .u64], .agg [.barr 16, .int .i64, .barr 16, .int .i64]] cKyFlow), (49, .val [.other .ptr] cClOut), (50, .val [.other .ptr] cClLives), (51, .val [.other .ptr, .int .u32, .int .i64, .bytes] cClPacket), (20, .val [.int .i64, .int .i64] cStream), (27, .val [.rows (.agg [.agg [.barr 16, .int .i64, .barr 16, .int .i64], .int .i64, .int .u32, .int .u32, .int .u32, .int .u32, .int .i64, .int .i64, .int .i64, .int .i64])] cClnC), (25, .val [.barr 16, .barr 16, .agg [.int .i64, .int .i64, .int .u32, .int .u32, .int .i64, .int .i64, .int .i64, .int .i64, .rows (.agg [.int .i64, .bytes]), .bytes]] cPkTcp), (41, .val [.bytes] cPkParse), (79, .val [.agg [.int .i64, .int .i64, .int .u32, .int .u32, .int .i64, .int .i64, .int .i64, .int .i64, .rows (.agg [.int .i64, .bytes]), .bytes], .int .i64] cTcHas), (45, .val [.agg [.barr 16, .int .i64, .barr 16, .int .i64]] cClFlBack)]
theorem GEclr0_ok : GOk Tryz.prog GEclr0 := .cons (enters_of Tryz.func7 (by kernel_rfl) rfl) clNew_con <| .cons (enters_of Tryz.func23 (by kernel_rfl) rfl) kyFlow_con <| .cons (enters_of Tryz.func49 (by kernel_rfl) rfl) clOut_con <| .cons (enters_of Tryz.func50 (by kernel_rfl) rfl) clLives_con <| .cons (enters_of Tryz.func51 (by kernel_rfl) rfl) clPacket_con <| .cons (enters_of Tryz.func20 (by kernel_rfl) rfl) clStream_con <| .cons (enters_of Tryz.func27 (by kernel_rfl) rfl) clnC_con <| .cons (enters_of Tryz.func25 (by kernel_rfl) rfl) rPkTcp_con <| .cons (enters_of Tryz.func41 (by kernel_rfl) rfl) pkParse_con <| .cons (enters_of Tryz.func79 (by kernel_rfl) rfl) tcHas_con <| .cons (enters_of Tryz.func45 (by kernel_rfl) rfl) clFlBack_con <| .nil
noncomputable def IEclr0 : List (Nat × AF) := [(8, af_clConn), (24, af_clLast), (22, af_clIs), (11, af_clCalls), (18, af_clHandle), (70, af_clGreet), (100, af_clAck), (42, af_clFlOf), (43, af_clIdxU), (44, af_clHan1)]
theorem IEclr0_ok : IOk Tryz.prog IEclr0 := .cons af_clConn_ok <| .cons af_clLast_ok <| .cons af_clIs_ok <| .cons af_clCalls_ok <| .cons af_clHandle_ok <| .cons af_clGreet_ok <| .cons af_clAck_ok <| .cons af_clFlOf_ok <| .cons af_clIdxU_ok <| .cons af_clHan1_ok <| .nil
noncomputable def CEclr0 : List (Nat × (List Nat × (S → Option (Bool × Tr)))) := []
theorem CEclr0_ok : COk Tryz.prog CEclr0 := .nil
noncomputable def XEclr0 : List (Nat × (List Sh × (List V → PT))) := []
theorem XEclr0_ok : XOk Tryz.prog XEclr0 := .nil
noncomputable def Eclr : Env := ⟨Tryz.prog, (46, .val [.int .i64] (cWay 70)) :: GEclr0, IEclr0, [], [], true⟩
theorem Eclr_ok : EnvOk Eclr := ⟨by kernel_rfl, .cons (enters_of Tryz.func46 (by kernel_rfl) rfl) (cWay_con _) GEclr0_ok, IEclr0_ok, CEclr0_ok, XEclr0_ok⟩
theorem clLives40_v : callV Eclr af_clLives40 [] = some (.bool true) := by kernel_rfl
def cTrue40 : List V → Option (V × Bool)
  | [] => some (.bool true, true)
  | _ => none
theorem clLives40_con : ∀ vs v, cTrue40 vs = some (v, true) → SpecV Tryz.prog 9 vs v := by
  intro vs v h; unfold cTrue40 at h; split at h
  · injection h with h; injection h with h hb; subst h
    exact callV_ok Eclr_ok af_clLives40_ok (clLives40_v)
  · cases h
end Go.Proofs.YtfhljcbbgckdiaaGreat
