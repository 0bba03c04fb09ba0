/- Part Gcm of the proof: laws used by the law of this claim. -/
import Derived.Test.YtfhljcbbgckdiaaGreatGcl
import Derived.Test.YtfhljcbbgckdiaaGreatGz
set_option linter.all false
namespace Go.Proofs.YtfhljcbbgckdiaaGreat
open Go Go.Am Go.RowKit Go.Bas
set_option maxRecDepth 100000
def cRClTakes : List V → Option (V × Bool)
 | [.agg [.agg [.barr 16 s, .int .i64 sp, .barr 16 d, .int .i64 dp], .int .i64 st, .int .u32 fi, .int .u32 nx, .int .u32 un, .int .u32 se, .int .i64 of, .int .i64 lo, .int .i64 si, .int .i64 ag], .agg [.int .i64 p1, .int .i64 p2, .int .u32 sq, .int .u32 ak, .int .i64 fl, .int .i64 wn, .int .i64 sm, .int .i64 ug, .rows (.agg [.int .i64, .bytes]) op, .bytes pl]] => some (.tup [(takF ⟨s, sp, d, dp, st, fi, nx, un, se, of, lo, si, ag⟩ fl sq ak).1.v, .rows .bytes (takF ⟨s, sp, d, dp, st, fi, nx, un, se, of, lo, si, ag⟩ fl sq ak).2], decide (u32ok nx ∧ u32ok un ∧ u32ok se))
 | _ => none
theorem rClTakes_con : ∀ vs v, cRClTakes vs = some (v, true) → SpecV Tryz.prog 60 vs v := by
 intro vs v h; unfold cRClTakes at h; split at h
 ·rename_i s sp d dp st fi nx un se of lo si ag p1 p2 sq ak fl wn sm ug op pl
  injection h with h; injection h with h hb; subst h
  exact callV_ok Ecld_ok af_rClTakes_ok (rClTakes_v ⟨s, sp, d, dp, st, fi, nx, un, se, of, lo, si, ag⟩ (of_decide_eq_true hb) p1 p2 sq ak fl wn sm ug op pl)
 ·cases h
noncomputable def af_rClWith : AF := afOf Tryz.prog Tryz.f58 []
theorem af_rClWith_ok : AllOk Tryz.prog 58 af_rClWith := .flat Tryz.func58 (by kernel_rfl) (by kernel_rfl) (by kernel_rfl) (by kernel_rfl) (by kernel_rfl)
noncomputable def af_rClMay : AF := afOf Tryz.prog Tryz.f57 []
theorem af_rClMay_ok : AllOk Tryz.prog 57 af_rClMay := .flat Tryz.func57 (by kernel_rfl) (by kernel_rfl) (by kernel_rfl) (by kernel_rfl) (by kernel_rfl)
noncomputable def af_rClConn : AF := afOf Tryz.prog Tryz.f28 []
theorem af_rClConn_ok : AllOk Tryz.prog 28 af_rClConn := .flat Tryz.func28 (by kernel_rfl) (by kernel_rfl) (by kernel_rfl) (by kernel_rfl) (by kernel_rfl)
noncomputable def af_rClSend : AF := afOf Tryz.prog Tryz.f29 []
theorem af_rClSend_ok : AllOk Tryz.prog 29 af_rClSend := .flat Tryz.func29 (by kernel_rfl) (by kernel_rfl) (by kernel_rfl) (by kernel_rfl) (by kernel_rfl)
noncomputable def af_rClClose : AF := afOf Tryz.prog Tryz.f30 []
theorem af_rClClose_ok : AllOk Tryz.prog 30 af_rClClose := .flat Tryz.func30 (by kernel_rfl) (by kernel_rfl) (by kernel_rfl) (by kernel_rfl) (by kernel_rfl)
noncomputable def af_rClResend : AF := afOf Tryz.prog Tryz.f32 []
theorem af_rClResend_ok : AllOk Tryz.prog 32 af_rClResend := .flat Tryz.func32 (by kernel_rfl) (by kernel_rfl) (by kernel_rfl) (by kernel_rfl) (by kernel_rfl)
noncomputable def GEcle : List (Nat × Con) := []
theorem GEcle_ok : GOk Tryz.prog GEcle := .nil
noncomputable def IEcle : List (Nat × AF) := []
theorem IEcle_ok : IOk Tryz.prog IEcle := .nil
noncomputable def CEcle : List (Nat × (List Nat × (S → Option (Bool × Tr)))) := []
theorem CEcle_ok : COk Tryz.prog CEcle := .nil
noncomputable def XEcle : List (Nat × (List Sh × (List V → PT))) := []
theorem XEcle_ok : XOk Tryz.prog XEcle := .nil
noncomputable def Ecle : Env := ⟨Tryz.prog, GEcle, IEcle, CEcle, XEcle, false⟩
theorem Ecle_ok : EnvOk Ecle := ⟨by kernel_rfl, GEcle_ok, IEcle_ok, CEcle_ok, XEcle_ok⟩
def clV (a : List UInt8) (now : Int) (l : List V) : V := .agg [.barr 16 a, .int .i64 now, .rows shCall l]
theorem rClWith_t (a : List UInt8) (now i : Int) (l : List V) (c : Cal) : callV Ecle af_rClWith [clV a now l, .int .i64 i, c.v] =
 bif andT true (Nat.ble (l.length * 104) 140737488355328) then bif andT true (Am.inB i l.length) then some (clV a now (upC l i.toNat c)) else none else none := by kernel_rfl
theorem rClWith_v (a : List UInt8) (now i : Int) (l : List V) (c : Cal) (h : 0 ≤ i ∧ i < l.length ∧ l.length ≤ 1000) : callV Ecle af_rClWith [clV a now l, .int .i64 i, c.v] = some (clV a now (upC l i.toNat c)) := by
 obtain ⟨h0, h1, h2⟩ := h
 rw [rClWith_t]
 simp (disch := omega) only [tre]
def cRClWith : List V → Option (V × Bool)
 | [.agg [.barr 16 a, .int .i64 now, .rows (.agg [.agg [.barr 16, .int .i64, .barr 16, .int .i64], .int .i64, .int .u32, .int .u32, .int .u32, .int .u32, .int .i64, .int .i64, .int .i64, .int .i64]) l], .int .i64 i, .agg [.agg [.barr 16 s, .int .i64 sp, .barr 16 d, .int .i64 dp], .int .i64 st, .int .u32 fi, .int .u32 nx, .int .u32 un, .int .u32 se, .int .i64 of, .int .i64 lo, .int .i64 si, .int .i64 ag]] => some (clV a now (upC l i.toNat ⟨s, sp, d, dp, st, fi, nx, un, se, of, lo, si, ag⟩), decide (0 ≤ i ∧ i < l.length ∧ l.length ≤ 1000))
 | _ => none
theorem rClWith_con : ∀ vs v, cRClWith vs = some (v, true) → SpecV Tryz.prog 58 vs v := by
 intro vs v h; unfold cRClWith at h; split at h
 ·rename_i a now l i s sp d dp st fi nx un se of lo si ag
  injection h with h; injection h with h hb; subst h
  exact callV_ok Ecle_ok af_rClWith_ok (rClWith_v a now i l ⟨s, sp, d, dp, st, fi, nx, un, se, of, lo, si, ag⟩ (of_decide_eq_true hb))
 ·cases h
theorem rClMay_t (a : List UInt8) (now i : Int) (l : List V) : callV Ecle af_rClMay [clV a now l, .int .i64 i] =
 bif decide (i < 0) then some (.int .i64 10) else bif decide (i ≥ (l.length : Int)) then some (.int .i64 10)
 else bif (atC l i.toNat).st != 2 then (bif andT true (Am.inB i l.length) && true then some (.int .i64 11) else none)
 else bif andT (andT (andT true (Am.inB i l.length)) (Am.inB i l.length)) (Am.inB i l.length) && true then
 bif (atC l i.toNat).un != (atC l i.toNat).se then some (.int .i64 11) else some (.int .i64 0) else none := by kernel_rfl
def mayF (l : List V) (i : Int) : Int := if i < 0 then 10 else if i ≥ (l.length : Int) then 10 else if (atC l i.toNat).st ≠ 2 then 11 else if (atC l i.toNat).un ≠ (atC l i.toNat).se then 11 else 0
theorem mayF_0 {l : List V} {i : Int} (h : mayF l i = 0) : 0 ≤ i ∧ i < l.length ∧ (atC l i.toNat).st = 2 ∧ (atC l i.toNat).un = (atC l i.toNat).se := by
 unfold mayF at h
 split at h
 ·cases h
 split at h
 ·cases h
 split at h
 ·cases h
 split at h
 ·cases h
 exact ⟨by omega, by omega, by omega, by omega⟩
theorem rClMay_v (a : List UInt8) (now i : Int) (l : List V) : callV Ecle af_rClMay [clV a now l, .int .i64 i] = some (.int .i64 (mayF l i)) := by
 rw [rClMay_t]
 unfold mayF
 repeat' split
 all_goals
  simp (disch := omega) only [tre]
def cRClMay : List V → Option (V × Bool)
 | [.agg [.barr 16 a, .int .i64 now, .rows (.agg [.agg [.barr 16, .int .i64, .barr 16, .int .i64], .int .i64, .int .u32, .int .u32, .int .u32, .int .u32, .int .i64, .int .i64, .int .i64, .int .i64]) l], .int .i64 i] => some (.int .i64 (mayF l i), true)
 | _ => none
theorem rClMay_con : ∀ vs v, cRClMay vs = some (v, true) → SpecV Tryz.prog 57 vs v := by
 intro vs v h; unfold cRClMay at h; split at h
 ·rename_i a now l i
  injection h with h; injection h with h hb; subst h
  exact callV_ok Ecle_ok af_rClMay_ok (rClMay_v a now i l)
 ·cases h
noncomputable def GEclf : List (Nat × Con) := [(58, .val [.agg [.barr 16, .int .i64, .rows (.agg [.agg [.barr 16, .int .i64, .barr 16, .int .i64], .int .i64, .int .u32, .int .u32, .int .u32, .int .u32, .int .i64, .int .i64, .int .i64, .int .i64])], .int .i64, .agg [.agg [.barr 16, .int .i64, .barr 16, .int .i64], .int .i64, .int .u32, .int .u32, .int .u32, .int .u32, .int .i64, .int .i64, .int .i64, .int .i64]] cRClWith), (57, .val [.agg [.barr 16, .int .i64, .rows (.agg [.agg [.barr 16, .int .i64, .barr 16, .int .i64], .int .i64, .int .u32, .int .u32, .int .u32, .int .u32, .int .i64, .int .i64, .int .i64, .int .i64])], .int .i64] cRClMay), (56, .val [.agg [.agg [.barr 16, .int .i64, .barr 16, .int .i64], .int .i64, .int .u32, .int .u32, .int .u32, .int .u32, .int .i64, .int .i64, .int .i64, .int .i64]] cRClLast), (55, .val [.agg [.int .u64, .int .u64], .agg [.barr 16, .int .i64, .barr 16, .int .i64]] cKyFlowS)]
theorem GEclf_ok : GOk Tryz.prog GEclf := .cons (enters_of Tryz.func58 (by kernel_rfl) rfl) rClWith_con <| .cons (enters_of Tryz.func57 (by kernel_rfl) rfl) rClMay_con <| .cons (enters_of Tryz.func56 (by kernel_rfl) rfl) rClLast_con <| .cons (enters_of Tryz.func55 (by kernel_rfl) rfl) rKyFlowS_con <| .nil
noncomputable def IEclf : List (Nat × AF) := []
theorem IEclf_ok : IOk Tryz.prog IEclf := .nil
noncomputable def CEclf : List (Nat × (List Nat × (S → Option (Bool × Tr)))) := []
theorem CEclf_ok : COk Tryz.prog CEclf := .nil
noncomputable def XEclf : List (Nat × (List Sh × (List V → PT))) := []
theorem XEclf_ok : XOk Tryz.prog XEclf := .nil
noncomputable def Eclf : Env := ⟨Tryz.prog, GEclf, IEclf, CEclf, XEclf, false⟩
theorem Eclf_ok : EnvOk Eclf := ⟨by kernel_rfl, GEclf_ok, IEclf_ok, CEclf_ok, XEclf_ok⟩
def t3V (a : List UInt8) (now : Int) (l out : List V) (e : Int) : V := .tup [clV a now l, .rows .bytes out, .int .i64 e]
def sndC (c : Cal) (n now : Int) : Cal := { c with lo := n, se := IntKind.u32.wrap (c.se + IntKind.u32.wrap n), si := now, ag := 0 }
def clsC (c : Cal) (now : Int) : Cal := { c with st := 3, se := IntKind.u32.wrap (c.se + 1), si := now, ag := 0 }
theorem rClSend_t (a : List UInt8) (now i n : Int) (l : List V) : callV Eclf af_rClSend [clV a now l, .int .i64 i, .int .i64 n] =
 bif mayF l i != 0 then some (t3V a now l [] (mayF l i)) else bif decide (n < 1) then some (t3V a now l [] 2) else bif decide (n > 100) then some (t3V a now l [] 2)
 else bif andT true (Am.inB i l.length) then
 bif andT (andT true (decide (0 ≤ i ∧ i < l.length ∧ l.length ≤ 1000))) (decide (cOk (sndC (atC l i.toNat) n now))) && true then some (t3V a now (upC l i.toNat (sndC (atC l i.toNat) n now)) (lsF (sndC (atC l i.toNat) n now)) 0) else none else none := by kernel_rfl
theorem rClClose_t (a : List UInt8) (now i : Int) (l : List V) : callV Eclf af_rClClose [clV a now l, .int .i64 i] =
 bif mayF l i != 0 then some (t3V a now l [] (mayF l i))
 else bif andT true (Am.inB i l.length) then
 bif andT (andT true (decide (0 ≤ i ∧ i < l.length ∧ l.length ≤ 1000))) (decide (cOk (clsC (atC l i.toNat) now))) && true then some (t3V a now (upC l i.toNat (clsC (atC l i.toNat) now)) (lsF (clsC (atC l i.toNat) now)) 0) else none else none := by kernel_rfl
theorem rClResend_t (a : List UInt8) (now i : Int) (l : List V) : callV Eclf af_rClResend [clV a now l, .int .i64 i] =
 bif decide (i < 0) then some (.ownv 34 (.rows .bytes [])) else bif decide (i ≥ (l.length : Int)) then some (.ownv 34 (.rows .bytes []))
 else bif andT (andT true (Am.inB i l.length)) (decide (cOk (atC l i.toNat))) then some (.ownv 34 (.rows .bytes (lsF (atC l i.toNat)))) else none := by kernel_rfl
def conC (F : Int) (a : List UInt8) (now n : Int) (d : List UInt8) (p : Int) : Cal := ⟨a, IntKind.i64.wrap (1024 + n), d, p, 1, F, 0, F, IntKind.u32.wrap (F + 1), 0, 0, now, 0⟩
noncomputable def rCnF (a : List UInt8) (n : Int) (d : List UInt8) (p : Int) : Int := IntKind.u32.wrap ((kyS 1 (IntKind.u64.wrap n) a (IntKind.i64.wrap (1024 + n)) d p).tmod 4294967296)
noncomputable def rCnC (a : List UInt8) (now n : Int) (d : List UInt8) (p : Int) : Cal := conC (rCnF a n d p) a now n d p
def t4V (a : List UInt8) (now : Int) (l : List V) (n : Int) (out : List V) (e : Int) : V := .tup [clV a now l, .int .i64 n, .rows .bytes out, .int .i64 e]
theorem rClConn_t (a d : List UInt8) (now p : Int) (l : List V) : callV Eclf af_rClConn [clV a now l, .barr 16 d, .int .i64 p] =
 bif decide (p < 1) then some (t4V a now l 0 [] 2) else bif decide (p > 65535) then some (t4V a now l 0 [] 2) else bif decide ((l.length : Int) ≥ 8) then some (t4V a now l 0 [] 8)
 else bif andT true (decide (a.length = 16 ∧ d.length = 16)) then
 bif andT (andT true (Nat.ble (l.length * 104) 140737488355328)) (Nat.ble ((l ++ [(rCnC a now l.length d p).v]).length * 104) 140737488355328) && true then
 bif andT true (decide (cOk (rCnC a now l.length d p))) && true then some (t4V a now (l ++ [(rCnC a now l.length d p).v]) l.length (lsF (rCnC a now l.length d p)) 0) else none else none else none := by kernel_rfl
abbrev cGd (c : Cal) : Prop := cOk c ∧ (1 ≤ c.st ∧ c.st ≤ 5) ∧ (0 ≤ c.ag ∧ c.ag ≤ 3) ∧ c.s.length = 16 ∧ c.d.length = 16
def lOk (l : List V) : Prop := l.length ≤ 8 ∧ ∀ x ∈ l, ∃ c : Cal, x = c.v ∧ cGd c
theorem lOk.at {l : List V} (h : lOk l) {i : Nat} (hi : i < l.length) : l.getD i .undef = (atC l i).v ∧ cGd (atC l i) := by
 obtain ⟨c, h1, h2⟩ := h.2 l[i] (List.getElem_mem hi)
 have e : l.getD i .undef = c.v := by rw [List.getD_eq_getElem?_getD, List.getElem?_eq_getElem hi]; exact h1
 have e2 : atC l i = c := by unfold atC; rw [e]; rfl
 rw [e, e2]
 exact ⟨rfl, h2⟩
theorem lOk.up {l : List V} (h : lOk l) {c : Cal} (hc : cGd c) (i : Nat) : lOk (upC l i c) := by
 refine ⟨by rw [upC_len]; exact h.1, fun x hx => ?_⟩
 rcases List.mem_or_eq_of_mem_set hx with hx | hx
 ·exact h.2 x hx
 ·exact ⟨c, hx, hc⟩
theorem lOk.add {l : List V} (h : lOk l) {c : Cal} (hc : cGd c) (hl : l.length < 8) : lOk (l ++ [c.v]) := by
 refine ⟨by simp; omega, fun x hx => ?_⟩
 rcases List.mem_append.1 hx with hx | hx
 ·exact h.2 x hx
 ·obtain rfl := List.mem_singleton.1 hx; exact ⟨c, rfl, hc⟩
theorem lOk.nil : lOk [] := ⟨by simp, fun x hx => by cases hx⟩
abbrev shClR : Sh := .agg [.barr 16, .int .i64, .rows shCall]
structure Fw where
 s : List UInt8
 sp : Int
 d : List UInt8
 dp : Int
def Fw.v (f : Fw) : V := .agg [.barr 16 f.s, .int .i64 f.sp, .barr 16 f.d, .int .i64 f.dp]
def flEq (c : Cal) (f : Fw) : Bool := (c.s == f.s) && ((c.sp == f.sp) && ((c.d == f.d) && ((c.dp == f.dp) && true)))
def pqRd (v : V) : Pq := ⟨h6Of (aG v 0), toB (aG v 1), toI (aG (aG v 2) 0), toI (aG (aG v 2) 1), toI (aG (aG v 2) 2), toI (aG (aG v 2) 3), toR (aG (aG v 2) 4), toR (aG (aG v 2) 5), toA (aG v 3), toI (aG v 4),
 ⟨toI (aG (aG v 5) 0), toI (aG (aG v 5) 1), toI (aG (aG v 5) 2), toI (aG (aG v 5) 3), toI (aG (aG v 5) 4), toI (aG (aG v 5) 5), toI (aG (aG v 5) 6), toI (aG (aG v 5) 7), toR (aG (aG v 5) 8), toL (aG (aG v 5) 9)⟩,
 toI (aG (aG v 6) 0), toI (aG (aG v 6) 1), toI (aG (aG v 6) 2), toL (aG (aG v 6) 3), toL (aG v 7)⟩
structure RhI where
 a : List UInt8
 now : Int
 l : List V
 q : Pq
 f : Fw
 i : Int
def clZ : V := .agg [.barr 16 (List.replicate 16 0), .int .i64 0, .nils]
def rhS (x : RhI) : S := ⟨[(2, .ref 0 [] 0 shClR), (4, .ref 1 [] 0 shClR), (6, .ref 2 [] 0 shPk), (8, .ref 3 [] 0 shFlw), (9, .int .i64 x.i)],
 [(0, some (.var shClR (clV x.a x.now x.l))), (1, some (.var shClR clZ)), (2, some (.var shPk (pqV x.q))), (3, some (.var shFlw x.f.v))], 4, true, 74⟩
def rhX (x : RhI) : S := ⟨[(2, .ref 0 [] 0 shClR), (4, .ref 1 [] 0 shClR)], [(0, some (.var shClR (clV x.a x.now x.l))), (1, some (.var shClR clZ))], 2, true, 74⟩
def rhR (a : List UInt8) (now : Int) (l out : List V) : S := ⟨[(4, .ref 0 [] 0 shClR), (5, .rows .bytes out)], [(0, some (.var shClR (clV a now l)))], 1, true, 74⟩
def rhGet (s : S) : RhI := ⟨toA (aG (bkD s 0) 0), toI (aG (bkD s 0) 1), toR (aG (bkD s 0) 2), pqRd (bkD s 2), ⟨toA (aG (bkD s 3) 0), toI (aG (bkD s 3) 1), toA (aG (bkD s 3) 2), toI (aG (bkD s 3) 3)⟩, toI (lkD s 9)⟩
def isF (f : Fw) (x : V) : Bool := flEq (calOf x) f
def ixF (l : List V) (f : Fw) : Nat := l.findIdx (isF f)
def rhI (x : RhI) : Prop := 0 ≤ x.i ∧ x.i ≤ x.l.length ∧ lOk x.l ∧ ∀ j : Nat, (j : Int) < x.i → isF x.f (x.l.getD j .undef) = false
def rhT (l : List V) (k : Nat) (t : Tc) : Cal × List V := takF (atC l k) t.fl t.sq t.ak
def rhO (x : RhI) : Tr := .br (decide (ixF x.l x.f < x.l.length)) (.leaf .ret (rhR x.a x.now (upC x.l (ixF x.l x.f) (rhT x.l (ixF x.l x.f) x.q.t).1) (rhT x.l (ixF x.l x.f) x.q.t).2)) (.leaf (.exit 0) (rhX x))
noncomputable def rhG : S → Option (Bool × Tr) := gX rhGet rhS rhI rhO
noncomputable def af_rClHandle : AF := afOf Tryz.prog Tryz.f33 [.sum [2, 4, 6, 8, 9] [] rhG]
noncomputable def af_rFlBack : AF := afOf Tryz.prog Tryz.f59 []
theorem af_rFlBack_ok : AllOk Tryz.prog 59 af_rFlBack := .flat Tryz.func59 (by kernel_rfl) (by kernel_rfl) (by kernel_rfl) (by kernel_rfl) (by kernel_rfl)
noncomputable def GEclg : List (Nat × Con) := [(15, .val [.bytes] cPkParse), (60, .val [.agg [.agg [.barr 16, .int .i64, .barr 16, .int .i64], .int .i64, .int .u32, .int .u32, .int .u32, .int .u32, .int .i64, .int .i64, .int .i64, .int .i64], .agg [.int .i64, .int .i64, .int .u32, .int .u32, .int .i64, .int .i64, .int .i64, .int .i64, .rows (.agg [.int .i64, .bytes]), .bytes]] cRClTakes), (58, .val [.agg [.barr 16, .int .i64, .rows (.agg [.agg [.barr 16, .int .i64, .barr 16, .int .i64], .int .i64, .int .u32, .int .u32, .int .u32, .int .u32, .int .i64, .int .i64, .int .i64, .int .i64])], .int .i64, .agg [.agg [.barr 16, .int .i64, .barr 16, .int .i64], .int .i64, .int .u32, .int .u32, .int .u32, .int .u32, .int .i64, .int .i64, .int .i64, .int .i64]] cRClWith)]
theorem GEclg_ok : GOk Tryz.prog GEclg := .cons (enters_of Tryz.func15 (by kernel_rfl) rfl) rPkParse_con <| .cons (enters_of Tryz.func60 (by kernel_rfl) rfl) rClTakes_con <| .cons (enters_of Tryz.func58 (by kernel_rfl) rfl) rClWith_con <| .nil
noncomputable def IEclg : List (Nat × AF) := [(59, af_rFlBack)]
theorem IEclg_ok : IOk Tryz.prog IEclg := .cons af_rFlBack_ok <| .nil
noncomputable def CEclg : List (Nat × (List Nat × (S → Option (Bool × Tr)))) := []
theorem CEclg_ok : COk Tryz.prog CEclg := .nil
noncomputable def XEclg : List (Nat × (List Sh × (List V → PT))) := []
theorem XEclg_ok : XOk Tryz.prog XEclg := .nil
noncomputable def Eclg : Env := ⟨Tryz.prog, GEclg, IEclg, CEclg, XEclg, false⟩
theorem Eclg_ok : EnvOk Eclg := ⟨by kernel_rfl, GEclg_ok, IEclg_ok, CEclg_ok, XEclg_ok⟩
noncomputable def rhC : AC := (af_rClHandle.ac.sums.headD (.skip, [], [], fun _ => none)).1
theorem rh_b (x : RhI) : aev Eclg (inlN Eclg 6) rhC (bodyF (Am.ways [2, 4, 6, 8, 9] [2, 4] [4, 5]) []) (rhS x) =
 bif decide (x.i < (x.l.length : Int)) then bif andT true (Am.inB x.i x.l.length) && true then
 bif isF x.f (x.l.getD x.i.toNat .undef) then
 bif andT (andT true (Am.inB x.i x.l.length)) (decide (cOk (atC x.l x.i.toNat))) && true then
 bif andT true (decide (0 ≤ x.i ∧ x.i < x.l.length ∧ x.l.length ≤ 1000)) then some (.ret, rhR x.a x.now (upC x.l x.i.toNat (rhT x.l x.i.toNat x.q.t).1) (rhT x.l x.i.toNat x.q.t).2) else none
 else none
 else some (.normal, rhS ⟨x.a, x.now, x.l, x.q, x.f, IntKind.i64.wrap (x.i + 1)⟩)
 else none else some (.exit 0, rhX x) := by kernel_rfl
theorem ixF_at {l : List V} {f : Fw} {k : Nat} (hk : k < l.length) (h : isF f (l.getD k .undef) = true) (h0 : ∀ j, j < k → isF f (l.getD j .undef) = false) : ixF l f = k := by
 unfold ixF
 have e : ∀ j (hj : j < l.length), l.getD j .undef = l[j] := fun j hj => by rw [List.getD_eq_getElem?_getD, List.getElem?_eq_getElem hj]; rfl
 rw [List.findIdx_eq hk]
 refine ⟨by rw [← e k hk]; exact h, fun j hj => by rw [← e j (by omega)]; exact h0 j hj⟩
theorem ixF_no {l : List V} {f : Fw} (h0 : ∀ j, j < l.length → isF f (l.getD j .undef) = false) : ¬ ixF l f < l.length := by
 intro h
 have e : l.getD (ixF l f) .undef = l[ixF l f] := by rw [List.getD_eq_getElem?_getD, List.getElem?_eq_getElem h]; rfl
 have h1 := h0 _ h
 rw [e] at h1
 have h2 : isF f l[ixF l f] = true := List.findIdx_getElem (w := h)
 rw [h2] at h1
 cases h1
theorem rh_loop : LoopOk Tryz.prog rhC.erase [] rhG := by
 refine loopX_ok Eclg_ok (d := 6) (AC.flat_ok (by kernel_rfl)) (Am.ways [2, 4, 6, 8, 9] [2, 4] [4, 5]) [] rhGet _ _ rhI (fun x => (x.l.length - x.i).toNat) (fun _ => rfl) ?_
 rintro x ⟨h0, h1, hl, hn⟩
 rw [rh_b]
 obtain ⟨a, now, l, q, f, i⟩ := x
 simp only at h0 h1 hl hn ⊢
 have hM := hl.1
 obtain ⟨k, rfl⟩ := Int.eq_ofNat_of_zero_le h0
 simp only [Int.toNat_natCast]
 by_cases hi : k < l.length
 ·have hc := (hl.at hi).2
  cases hp : isF f (l.getD k .undef) with
  | true =>
   have e := ixF_at hi hp (fun j hj => hn j (by omega))
   refine .inr ⟨.ret, rhR a now (upC l k (rhT l k q.t).1) (rhT l k q.t).2, ?_, nofun, leaf_t (decide_eq_true (by dsimp only; rw [e]; exact hi)) ?_⟩
   ·rw [dec_t hc.1]
    simp (disch := omega) only [tre]
   ·dsimp only
    rw [e]
    exact .leaf
  | false =>
   refine .inl ⟨⟨a, now, l, q, f, k + 1⟩, ?_, ⟨by dsimp only; omega, by dsimp only; omega, hl, fun j hj => ?_⟩, by dsimp only; omega, leaf_eq rfl⟩
   ·simp (disch := omega) only [tre]
   ·dsimp only at hj ⊢
    rcases Nat.lt_or_ge j k with hjk | hjk
    ·exact hn j (by omega)
    ·obtain rfl : j = k := by omega
     exact hp
 ·refine .inr ⟨.exit 0, rhX ⟨a, now, l, q, f, k⟩, ?_, nofun, leaf_f (decide_eq_false (ixF_no (l := l) (f := f) fun j hj => hn j (by omega))) .leaf⟩
  simp (disch := omega) only [tre]
theorem af_rClHandle_ok : AllOk Tryz.prog 33 af_rClHandle := .sums Tryz.func33 (by kernel_rfl) (by kernel_rfl) (by kernel_rfl) (by kernel_rfl) (sums_one (c := rhC) (ts := [2, 4, 6, 8, 9]) (by kernel_rfl) (by kernel_rfl) rh_loop)
def t2V (a : List UInt8) (now : Int) (l out : List V) : V := .tup [clV a now l, .rows .bytes out]
def bkP (q : Pq) : Fw := ⟨q.fin, q.t.dp, q.h.s, q.t.sp⟩
noncomputable def rhOk (x : RhI) : Bool := okG (rhS x = rhS x ∧ rhI x)
theorem rClHandle_t (a : List UInt8) (now : Int) (l : List V) (b : List UInt8) : callV Eclg af_rClHandle [clV a now l, .bytes b] =
 bif pqE b != 0 then some (t2V a now l []) else bif (pqX b).k != 6 then some (t2V a now l []) else bif (pqX b).r then some (t2V a now l [])
 else bif rhOk ⟨a, now, l, pqX b, bkP (pqX b), 0⟩ then
 bif decide (ixF l (bkP (pqX b)) < l.length) then some (t2V a now (upC l (ixF l (bkP (pqX b))) (rhT l (ixF l (bkP (pqX b))) (pqX b).t).1) (rhT l (ixF l (bkP (pqX b))) (pqX b).t).2)
 else some (t2V a now l []) else none := by kernel_rfl
def hanF (l : List V) (q : Pq) : List V × List V := if ixF l (bkP q) < l.length then (upC l (ixF l (bkP q)) (rhT l (ixF l (bkP q)) q.t).1, (rhT l (ixF l (bkP q)) q.t).2) else (l, [])
def hanB (l : List V) (b : List UInt8) : List V × List V := if pqE b ≠ 0 then (l, []) else if (pqX b).k ≠ 6 then (l, []) else if (pqX b).r = true then (l, []) else hanF l (pqX b)
theorem rClHandle_v (a : List UInt8) (now : Int) (l : List V) (b : List UInt8) (h : lOk l) : callV Eclg af_rClHandle [clV a now l, .bytes b] = some (t2V a now (hanB l b).1 (hanB l b).2) := by
 rw [rClHandle_t, show rhOk ⟨a, now, l, pqX b, bkP (pqX b), 0⟩ = true from okG_t ⟨rfl, Int.le_refl 0, by show (0 : Int) ≤ (l.length : Int); omega, h, fun j hj => by exact absurd hj (by show ¬ ((j : Int) < 0); omega)⟩]
 unfold hanB hanF
 split
 ·simp (disch := omega) only [tre]
 split
 ·simp (disch := omega) only [tre]
 cases hr : (pqX b).r with
 | true =>
  rw [if_pos rfl]
  simp (disch := omega) only [tre]
 | false =>
  rw [if_neg (by simp)]
  split
  ·simp (disch := omega) only [tre]
  ·simp (disch := omega) only [tre]
structure RtyI where
 a : List UInt8
 now : Int
 l : List V
 out : List V
 i : Int
def rtyS (x : RtyI) : S := ⟨[(1, .ref 0 [] 0 shClR), (2, .ref 1 [] 0 shClR), (4, .own 2 x.out.length .bytes), (5, .int .i64 x.i)],
 [(0, some (.var shClR (clV x.a x.now x.l))), (1, some (.var shClR clZ)), (2, some (.row 34 .bytes (.rows .bytes x.out)))], 3, true, 68⟩
def rtyX (x : RtyI) : S := ⟨[(1, .ref 0 [] 0 shClR), (2, .ref 1 [] 0 shClR), (4, .own 2 x.out.length .bytes)],
 [(0, some (.var shClR (clV x.a x.now x.l))), (1, some (.var shClR clZ)), (2, some (.row 34 .bytes (.rows .bytes x.out)))], 3, true, 68⟩
def rtyGet (s : S) : RtyI := ⟨toA (aG (bkD s 0) 0), toI (aG (bkD s 0) 1), toR (aG (bkD s 0) 2), toR (bkD s 2), toI (lkD s 5)⟩
def waF (k : Int) : Int := if k = 0 then 1 else if k = 1 then 2 else if k = 2 then 4 else 8
def agC (c : Cal) (now : Int) : Cal := { c with ag := IntKind.i64.wrap (c.ag + 1), si := now }
def tk1 (c : Cal) (now : Int) : Option (Cal × List V) :=
 if c.st > 3 then none else if c.un = c.se then none else if IntKind.i64.wrap (now - c.si) < waF c.ag then none
 else if c.ag = 3 then some ({ c with st := 5 }, []) else some (agC c now, lsF (agC c now))
def tkN (now : Int) : Nat → List V → Nat → List V → List V × List V
 | 0, l, _, out => (l, out)
 | n + 1, l, i, out => match tk1 (atC l i) now with
  | none => tkN now n l (i + 1) out
  | some (c, o) => tkN now n (upC l i c) (i + 1) (out ++ o)
def rtyI (x : RtyI) : Prop := 0 ≤ x.i ∧ x.i ≤ x.l.length ∧ lOk x.l ∧ x.out.length ≤ x.i
def rtyE (x : RtyI) : RtyI := { x with l := (tkN x.now (x.l.length - x.i.toNat) x.l x.i.toNat x.out).1, out := (tkN x.now (x.l.length - x.i.toNat) x.l x.i.toNat x.out).2 }
def rtyO (x : RtyI) : Tr := .leaf (.exit 0) (rtyX (rtyE x))
noncomputable def rtyG : S → Option (Bool × Tr) := gK rtyGet rtyS rtyI rtyO
noncomputable def af_rClTick : AF := afOf Tryz.prog Tryz.f31 [.sum [1, 2, 4, 5] [] rtyG]
noncomputable def GEclh : List (Nat × Con) := [(56, .val [.agg [.agg [.barr 16, .int .i64, .barr 16, .int .i64], .int .i64, .int .u32, .int .u32, .int .u32, .int .u32, .int .i64, .int .i64, .int .i64, .int .i64]] cRClLast), (58, .val [.agg [.barr 16, .int .i64, .rows (.agg [.agg [.barr 16, .int .i64, .barr 16, .int .i64], .int .i64, .int .u32, .int .u32, .int .u32, .int .u32, .int .i64, .int .i64, .int .i64, .int .i64])], .int .i64, .agg [.agg [.barr 16, .int .i64, .barr 16, .int .i64], .int .i64, .int .u32, .int .u32, .int .u32, .int .u32, .int .i64, .int .i64, .int .i64, .int .i64]] cRClWith)]
theorem GEclh_ok : GOk Tryz.prog GEclh := .cons (enters_of Tryz.func56 (by kernel_rfl) rfl) rClLast_con <| .cons (enters_of Tryz.func58 (by kernel_rfl) rfl) rClWith_con <| .nil
noncomputable def IEclh : List (Nat × AF) := []
theorem IEclh_ok : IOk Tryz.prog IEclh := .nil
noncomputable def CEclh : List (Nat × (List Nat × (S → Option (Bool × Tr)))) := []
theorem CEclh_ok : COk Tryz.prog CEclh := .nil
noncomputable def XEclh : List (Nat × (List Sh × (List V → PT))) := []
theorem XEclh_ok : XOk Tryz.prog XEclh := .nil
noncomputable def Eclh : Env := ⟨Tryz.prog, GEclh, IEclh, CEclh, XEclh, false⟩
theorem Eclh_ok : EnvOk Eclh := ⟨by kernel_rfl, GEclh_ok, IEclh_ok, CEclh_ok, XEclh_ok⟩
noncomputable def rtyC : AC := (af_rClTick.ac.sums.headD (.skip, [], [], fun _ => none)).1
def waD (k : Int) : Int := toI ([V.int .i64 1, V.int .i64 2, V.int .i64 4, V.int .i64 8].getD k.toNat .undef)
theorem waD_eq {k : Int} (h0 : 0 ≤ k) (h1 : k ≤ 3) : waD k = waF k := by
 have : k = 0 ∨ k = 1 ∨ k = 2 ∨ k = 3 := by omega
 rcases this with rfl | rfl | rfl | rfl <;> rfl
theorem rty_b (a : List UInt8) (now i : Int) (l out : List V) : aev Eclh (inlN Eclh 6) rtyC (bodyF (Am.ways [1, 2, 4, 5] [1, 2, 4] []) []) (rtyS ⟨a, now, l, out, i⟩) =
 bif decide (i < (l.length : Int)) then bif andT true (Am.inB i l.length) then bif andT true (Am.inB (atC l i.toNat).ag 4) then
 bif decide ((atC l i.toNat).st > 3) then some (.normal, rtyS ⟨a, now, l, out, IntKind.i64.wrap (i + 1)⟩)
 else bif (atC l i.toNat).un == (atC l i.toNat).se then some (.normal, rtyS ⟨a, now, l, out, IntKind.i64.wrap (i + 1)⟩)
 else bif decide (IntKind.i64.wrap (now - (atC l i.toNat).si) < waD (atC l i.toNat).ag) then some (.normal, rtyS ⟨a, now, l, out, IntKind.i64.wrap (i + 1)⟩)
 else bif (atC l i.toNat).ag == 3 then
 bif andT true (decide (0 ≤ i ∧ i < l.length ∧ l.length ≤ 1000)) then some (.normal, rtyS ⟨a, now, upC l i.toNat { atC l i.toNat with st := 5 }, out, IntKind.i64.wrap (i + 1)⟩) else none
 else bif andT (andT true (decide (cOk (agC (atC l i.toNat) now)))) (Nat.ble ((out ++ lsF (agC (atC l i.toNat) now)).length * 24) 140737488355328) then
 bif andT true (decide (0 ≤ i ∧ i < l.length ∧ l.length ≤ 1000)) then some (.normal, rtyS ⟨a, now, upC l i.toNat (agC (atC l i.toNat) now), out ++ lsF (agC (atC l i.toNat) now), IntKind.i64.wrap (i + 1)⟩) else none
 else none
 else none else none else some (.exit 0, rtyX ⟨a, now, l, out, i⟩) := by kernel_rfl
theorem lsF_len (c : Cal) : (lsF c).length ≤ 1 := by
 unfold lsF
 repeat' split
 all_goals simp
theorem rty_loop : LoopOk Tryz.prog rtyC.erase [] rtyG := by
 refine loopK (fun _ => rfl) (fun x _ => rfl) (loopX_ok Eclh_ok (d := 6) (AC.flat_ok (by kernel_rfl)) (Am.ways [1, 2, 4, 5] [1, 2, 4] []) [] rtyGet _ _ rtyI (fun x => (x.l.length - x.i).toNat) (fun _ => rfl) ?_)
 rintro ⟨a, now, l, out, i⟩ ⟨h0, h1, hl, ho⟩
 rw [rty_b]
 simp only at h0 h1 hl ho ⊢
 have hM := hl.1
 obtain ⟨k, rfl⟩ := Int.eq_ofNat_of_zero_le h0
 simp only [Int.toNat_natCast]
 by_cases hi : k < l.length
 ·obtain ⟨hv, hok, ⟨g1, g2⟩, ⟨g3, g4⟩, g5, g6⟩ := hl.at hi
  have hok2 : cOk (agC (atC l k) now) := hok
  have hlen := lsF_len (agC (atC l k) now)
  have e1 : l.length - k = (l.length - (k + 1)) + 1 := by omega
  have ek : ((k : Int) + 1).toNat = k + 1 := by omega
  simp only [waD_eq g3 g4]
  by_cases c1 : (atC l k).st > 3
  ·refine .inl ⟨⟨a, now, l, out, k + 1⟩, ?_, ⟨by dsimp only; omega, by dsimp only; omega, hl, by dsimp only; omega⟩, by dsimp only; omega, leaf_eq ?_⟩
   ·simp (disch := omega) only [tre]
   ·dsimp only [rtyO, rtyE]
    rw [ek, Int.toNat_natCast, e1, tkN, show tk1 (atC l k) now = none by unfold tk1; rw [if_pos c1]]
    rfl
  by_cases c2 : (atC l k).un = (atC l k).se
  ·refine .inl ⟨⟨a, now, l, out, k + 1⟩, ?_, ⟨by dsimp only; omega, by dsimp only; omega, hl, by dsimp only; omega⟩, by dsimp only; omega, leaf_eq ?_⟩
   ·simp (disch := omega) only [tre]
   ·dsimp only [rtyO, rtyE]
    rw [ek, Int.toNat_natCast, e1, tkN, show tk1 (atC l k) now = none by unfold tk1; rw [if_neg c1, if_pos c2]]
    rfl
  by_cases c3 : IntKind.i64.wrap (now - (atC l k).si) < waF (atC l k).ag
  ·refine .inl ⟨⟨a, now, l, out, k + 1⟩, ?_, ⟨by dsimp only; omega, by dsimp only; omega, hl, by dsimp only; omega⟩, by dsimp only; omega, leaf_eq ?_⟩
   ·simp (disch := omega) only [tre]
   ·dsimp only [rtyO, rtyE]
    rw [ek, Int.toNat_natCast, e1, tkN, show tk1 (atC l k) now = none by unfold tk1; rw [if_neg c1, if_neg c2, if_pos c3]]
    rfl
  by_cases c4 : (atC l k).ag = 3
  ·refine .inl ⟨⟨a, now, upC l k { atC l k with st := 5 }, out, k + 1⟩, ?_, ⟨by dsimp only; omega, by dsimp only; rw [upC_len]; omega, hl.up (c := { atC l k with st := 5 }) ⟨hok, ⟨by show (1 : Int) ≤ 5; omega, by show (5 : Int) ≤ 5; omega⟩, ⟨g3, g4⟩, g5, g6⟩ k, by dsimp only; omega⟩, by dsimp only; rw [upC_len]; omega, leaf_eq ?_⟩
   ·simp (disch := omega) only [tre]
   ·dsimp only [rtyO, rtyE]
    rw [ek, Int.toNat_natCast, upC_len, e1, tkN, show tk1 (atC l k) now = some ({ atC l k with st := 5 }, []) by unfold tk1; rw [if_neg c1, if_neg c2, if_neg c3, if_pos c4]]
    dsimp only
    rw [List.append_nil]
    rfl
  ·have hw : IntKind.i64.wrap ((atC l k).ag + 1) = (atC l k).ag + 1 := w64 (by omega) (by omega)
   refine .inl ⟨⟨a, now, upC l k (agC (atC l k) now), out ++ lsF (agC (atC l k) now), k + 1⟩, ?_, ⟨by dsimp only; omega, by dsimp only; rw [upC_len]; omega, hl.up (c := agC (atC l k) now) ⟨hok, ⟨g1, g2⟩, ⟨by dsimp only [agC]; omega, by dsimp only [agC]; omega⟩, g5, g6⟩ k, by dsimp only; rw [List.length_append]; omega⟩, by dsimp only; rw [upC_len]; omega, leaf_eq ?_⟩
   ·have hb : (out ++ lsF (agC (atC l k) now)).length * 24 ≤ 140737488355328 := by rw [List.length_append]; omega
    rw [dec_t hok2]
    simp (disch := omega) only [tre]
   ·dsimp only [rtyO, rtyE]
    rw [ek, Int.toNat_natCast, upC_len, e1, tkN, show tk1 (atC l k) now = some (agC (atC l k) now, lsF (agC (atC l k) now)) by unfold tk1; rw [if_neg c1, if_neg c2, if_neg c3, if_neg c4]]
    rfl
 ·refine .inr ⟨.exit 0, rtyX ⟨a, now, l, out, k⟩, ?_, nofun, ?_⟩
  ·simp (disch := omega) only [tre]
  ·unfold rtyO rtyE
   dsimp only
   rw [Int.toNat_natCast, show l.length - k = 0 by omega]
   exact .leaf
theorem af_rClTick_ok : AllOk Tryz.prog 31 af_rClTick := .sums Tryz.func31 (by kernel_rfl) (by kernel_rfl) (by kernel_rfl) (by kernel_rfl) (sums_one (c := rtyC) (ts := [1, 2, 4, 5]) (by kernel_rfl) (by kernel_rfl) rty_loop)
def rtyS0 (a : List UInt8) (now : Int) (l : List V) : S := ⟨[(1, .ref 0 [] 0 shClR), (2, .ref 1 [] 0 shClR), (4, .nils), (5, .int .i64 0)], [(0, some (.var shClR (clV a now l))), (1, some (.var shClR clZ))], 2, true, 68⟩
noncomputable def rtyOk (a : List UInt8) (now : Int) (l : List V) : Bool := okG (Weak (rtyS0 a now l) (rtyS ⟨a, now, l, [], 0⟩) ∧ rtyI ⟨a, now, l, [], 0⟩)
def tikF (l : List V) (now : Int) : List V × List V := tkN now l.length l 0 []
theorem rClTick_t (a : List UInt8) (now : Int) (l : List V) : callV Eclh af_rClTick [clV a now l] =
 bif rtyOk a (IntKind.i64.wrap (now + 1)) l then some (t2V a (IntKind.i64.wrap (now + 1)) (tikF l (IntKind.i64.wrap (now + 1))).1 (tikF l (IntKind.i64.wrap (now + 1))).2) else none := by kernel_rfl
structure OpR where
 now : Int
 l : List V
 n : Int
 out : List V
 e : Int
def OpR.v4 (r : OpR) (a : List UInt8) : V := .tup [clV a r.now r.l, .int .i64 r.n, .rows .bytes r.out, .int .i64 r.e]
def OpR.v3 (r : OpR) (a : List UInt8) : V := .tup [clV a r.now r.l, .rows .bytes r.out, .int .i64 r.e]
def OpR.v2 (r : OpR) (a : List UInt8) : V := .tup [clV a r.now r.l, .rows .bytes r.out]
def sndF (now : Int) (l : List V) (i n : Int) : OpR :=
 if mayF l i ≠ 0 then ⟨now, l, 0, [], mayF l i⟩ else if n < 1 then ⟨now, l, 0, [], 2⟩ else if n > 100 then ⟨now, l, 0, [], 2⟩
 else ⟨now, upC l i.toNat (sndC (atC l i.toNat) n now), 0, lsF (sndC (atC l i.toNat) n now), 0⟩
def clsF (now : Int) (l : List V) (i : Int) : OpR :=
 if mayF l i ≠ 0 then ⟨now, l, 0, [], mayF l i⟩ else ⟨now, upC l i.toNat (clsC (atC l i.toNat) now), 0, lsF (clsC (atC l i.toNat) now), 0⟩
def rsnF (l : List V) (i : Int) : List V := if i < 0 then [] else if i ≥ (l.length : Int) then [] else lsF (atC l i.toNat)
noncomputable def cnnC (a : List UInt8) (now n : Int) (d : List UInt8) (p : Int) : Cal := conC (IntKind.u32.wrap (kyS 1 (IntKind.u64.wrap n) a (IntKind.i64.wrap (1024 + n)) d p)) a now n d p
noncomputable def cnnF (a : List UInt8) (now : Int) (l : List V) (d : List UInt8) (p : Int) : OpR :=
 if p < 1 then ⟨now, l, 0, [], 2⟩ else if p > 65535 then ⟨now, l, 0, [], 2⟩ else if (l.length : Int) ≥ 8 then ⟨now, l, 0, [], 8⟩
 else ⟨now, l ++ [(cnnC a now l.length d p).v], l.length, lsF (cnnC a now l.length d p), 0⟩
def tckF (now : Int) (l : List V) : OpR := ⟨IntKind.i64.wrap (now + 1), (tikF l (IntKind.i64.wrap (now + 1))).1, 0, (tikF l (IntKind.i64.wrap (now + 1))).2, 0⟩
def hanR (now : Int) (l : List V) (b : List UInt8) : OpR := ⟨now, (hanB l b).1, 0, (hanB l b).2, 0⟩
theorem xoU_range (x y : Int) : 0 ≤ xoU x y ∧ xoU x y ≤ 18446744073709551615 := by
 have h : ∀ z : Int, 0 ≤ IntKind.u64.wrap z ∧ IntKind.u64.wrap z ≤ 18446744073709551615 := fun z => by simp [IntKind.wrap, IntKind.signed, IntKind.bits]; omega
 exact h _
theorem kyFl_range (a b : Int) (s : List UInt8) (sp : Int) (d : List UInt8) (dp : Int) : 0 ≤ kyFl a b s sp d dp ∧ kyFl a b s sp d dp ≤ 18446744073709551615 := by
 unfold kyFl kySm kyEnd kyFo
 exact xoU_range _ _
theorem rCnC_eq (a : List UInt8) (now n : Int) (d : List UInt8) (p : Int) : rCnC a now n d p = cnnC a now n d p := by
 unfold rCnC cnnC rCnF
 rw [kyS_eq]
 have h := kyFl_range 1 (IntKind.u64.wrap n) a (IntKind.i64.wrap (1024 + n)) d p
 generalize kyFl 1 (IntKind.u64.wrap n) a (IntKind.i64.wrap (1024 + n)) d p = x at *
 have hw : ∀ y : Int, IntKind.u32.wrap y = y % 4294967296 := fun y => by simp [IntKind.wrap, IntKind.signed, IntKind.bits]
 rw [tmd h.1, hw, hw, Int.emod_emod_of_dvd _ (Int.dvd_refl _)]
theorem sndC_ok {c : Cal} (h : cOk c) (n now : Int) : cOk (sndC c n now) := ⟨h.1, h.2.1, u32w _⟩
theorem clsC_ok {c : Cal} (h : cOk c) (now : Int) : cOk (clsC c now) := ⟨h.1, h.2.1, u32w _⟩
theorem cnnC_ok (a : List UInt8) (now n : Int) (d : List UInt8) (p : Int) : cOk (cnnC a now n d p) := ⟨by show u32ok 0; unfold u32ok; omega, u32w _, u32w _⟩
theorem rClSend_v (a : List UInt8) (now i n : Int) (l : List V) (h : lOk l) : callV Eclf af_rClSend [clV a now l, .int .i64 i, .int .i64 n] = some ((sndF now l i n).v3 a) := by
 rw [rClSend_t]
 unfold sndF
 have hM := h.1
 by_cases c1 : mayF l i = 0
 ·obtain ⟨h0, h1, _⟩ := mayF_0 c1
  have hc := sndC_ok (h.at (i := i.toNat) (by omega)).2.1 n now
  rw [if_neg (by simpa using c1), c1, dec_t hc]
  by_cases c2 : n < 1
  ·rw [if_pos c2]
   simp (disch := omega) only [tre]
   rfl
  rw [if_neg c2]
  by_cases c3 : n > 100
  ·rw [if_pos c3]
   simp (disch := omega) only [tre]
   rfl
  rw [if_neg c3]
  simp (disch := omega) only [tre]
  rfl
 ·rw [if_pos c1]
  simp (disch := omega) only [tre]
  rfl
theorem rClClose_v (a : List UInt8) (now i : Int) (l : List V) (h : lOk l) : callV Eclf af_rClClose [clV a now l, .int .i64 i] = some ((clsF now l i).v3 a) := by
 rw [rClClose_t]
 unfold clsF
 have hM := h.1
 by_cases c1 : mayF l i = 0
 ·obtain ⟨h0, h1, _⟩ := mayF_0 c1
  have hc := clsC_ok (h.at (i := i.toNat) (by omega)).2.1 now
  rw [if_neg (by simpa using c1), c1, dec_t hc]
  simp (disch := omega) only [tre]
  rfl
 ·rw [if_pos c1]
  simp (disch := omega) only [tre]
  rfl
theorem rClResend_v (a : List UInt8) (now i : Int) (l : List V) (h : lOk l) : callV Eclf af_rClResend [clV a now l, .int .i64 i] = some (.ownv 34 (.rows .bytes (rsnF l i))) := by
 rw [rClResend_t]
 unfold rsnF
 by_cases c1 : i < 0
 ·rw [if_pos c1]
  simp (disch := omega) only [tre]
 rw [if_neg c1]
 by_cases c2 : i ≥ (l.length : Int)
 ·rw [if_pos c2]
  simp (disch := omega) only [tre]
 rw [if_neg c2]
 have hc := (h.at (i := i.toNat) (by omega)).2.1
 rw [dec_t hc]
 simp (disch := omega) only [tre]
theorem rClConn_v (a d : List UInt8) (now p : Int) (l : List V) (h : lOk l) (ha : a.length = 16) (hd : d.length = 16) : callV Eclf af_rClConn [clV a now l, .barr 16 d, .int .i64 p] = some ((cnnF a now l d p).v4 a) := by
 rw [rClConn_t, rCnC_eq]
 unfold cnnF
 have hc := cnnC_ok a now l.length d p
 have hM := h.1
 have hlen : ((l ++ [(cnnC a now l.length d p).v]).length * 104) ≤ 140737488355328 := by rw [List.length_append]; simp; omega
 by_cases c1 : p < 1
 ·rw [if_pos c1]
  simp (disch := omega) only [tre]
  rfl
 rw [if_neg c1]
 by_cases c2 : p > 65535
 ·rw [if_pos c2]
  simp (disch := omega) only [tre]
  rfl
 rw [if_neg c2]
 by_cases c3 : (l.length : Int) ≥ 8
 ·rw [if_pos c3]
  simp (disch := omega) only [tre]
  rfl
 rw [if_neg c3, dec_t hc]
 simp (disch := omega) only [tre]
 rfl
theorem rtyW (a : List UInt8) (now : Int) (l : List V) : Weak (rtyS0 a now l) (rtyS ⟨a, now, l, [], 0⟩) := by
 refine .slot (t := 4) (T := 34) (sh := .bytes) ⟨rfl, rfl, rfl, rfl, fun u hu => ?_, rfl, fun i hi => ?_⟩
 ·have hb : Nat.beq 4 u = false := Bool.eq_false_iff.2 fun e => hu (Nat.eq_of_beq_eq_true e).symm
  simp only [rtyS, rtyS0, Am.look, hb, cond_false]
 ·have hi : i ≠ 2 := hi
  have hb : Nat.beq 2 i = false := Bool.eq_false_iff.2 fun e => hi (Nat.eq_of_beq_eq_true e).symm
  simp only [rtyS, rtyS0, Am.lookH, hb, cond_false]
theorem rClTick_v (a : List UInt8) (now : Int) (l : List V) (h : lOk l) : callV Eclh af_rClTick [clV a now l] = some ((tckF now l).v2 a) := by
 rw [rClTick_t, show rtyOk a (IntKind.i64.wrap (now + 1)) l = true from okG_t ⟨rtyW _ _ _, Int.le_refl 0, by show (0 : Int) ≤ (l.length : Int); omega, h, by show (([] : List V).length : Int) ≤ 0; simp⟩]
 rfl
noncomputable def cRClSend : List V → Option (V × Bool)
 | [.agg [.barr 16 a, .int .i64 now, .rows (.agg [.agg [.barr 16, .int .i64, .barr 16, .int .i64], .int .i64, .int .u32, .int .u32, .int .u32, .int .u32, .int .i64, .int .i64, .int .i64, .int .i64]) l], .int .i64 i, .int .i64 n] => some ((sndF now l i n).v3 a, okG (lOk l))
 | _ => none
theorem rClSend_con : ∀ vs v, cRClSend vs = some (v, true) → SpecV Tryz.prog 29 vs v := by
 intro vs v h; unfold cRClSend at h; split at h
 ·rename_i a now l i n
  injection h with h; injection h with h hb; subst h
  exact callV_ok Eclf_ok af_rClSend_ok (rClSend_v a now i n l (okG_p hb))
 ·cases h
noncomputable def cRClClose : List V → Option (V × Bool)
 | [.agg [.barr 16 a, .int .i64 now, .rows (.agg [.agg [.barr 16, .int .i64, .barr 16, .int .i64], .int .i64, .int .u32, .int .u32, .int .u32, .int .u32, .int .i64, .int .i64, .int .i64, .int .i64]) l], .int .i64 i] => some ((clsF now l i).v3 a, okG (lOk l))
 | _ => none
theorem rClClose_con : ∀ vs v, cRClClose vs = some (v, true) → SpecV Tryz.prog 30 vs v := by
 intro vs v h; unfold cRClClose at h; split at h
 ·rename_i a now l i
  injection h with h; injection h with h hb; subst h
  exact callV_ok Eclf_ok af_rClClose_ok (rClClose_v a now i l (okG_p hb))
 ·cases h
noncomputable def cRClResend : List V → Option (V × Bool)
 | [.agg [.barr 16 a, .int .i64 now, .rows (.agg [.agg [.barr 16, .int .i64, .barr 16, .int .i64], .int .i64, .int .u32, .int .u32, .int .u32, .int .u32, .int .i64, .int .i64, .int .i64, .int .i64]) l], .int .i64 i] => some (.ownv 34 (.rows .bytes (rsnF l i)), okG (lOk l))
 | _ => none
theorem rClResend_con : ∀ vs v, cRClResend vs = some (v, true) → SpecV Tryz.prog 32 vs v := by
 intro vs v h; unfold cRClResend at h; split at h
 ·rename_i a now l i
  injection h with h; injection h with h hb; subst h
  exact callV_ok Eclf_ok af_rClResend_ok (rClResend_v a now i l (okG_p hb))
 ·cases h
noncomputable def cRClConn : List V → Option (V × Bool)
 | [.agg [.barr 16 a, .int .i64 now, .rows (.agg [.agg [.barr 16, .int .i64, .barr 16, .int .i64], .int .i64, .int .u32, .int .u32, .int .u32, .int .u32, .int .i64, .int .i64, .int .i64, .int .i64]) l], .barr 16 d, .int .i64 p] => some ((cnnF a now l d p).v4 a, okG (lOk l ∧ a.length = 16 ∧ d.length = 16))
 | _ => none
theorem rClConn_con : ∀ vs v, cRClConn vs = some (v, true) → SpecV Tryz.prog 28 vs v := by
 intro vs v h; unfold cRClConn at h; split at h
 ·rename_i a now l d p
  injection h with h; injection h with h hb; subst h
  exact callV_ok Eclf_ok af_rClConn_ok ((by obtain ⟨h1, h2, h3⟩ := okG_p hb; exact rClConn_v a d now p l h1 h2 h3))
 ·cases h
noncomputable def cRClTick : List V → Option (V × Bool)
 | [.agg [.barr 16 a, .int .i64 now, .rows (.agg [.agg [.barr 16, .int .i64, .barr 16, .int .i64], .int .i64, .int .u32, .int .u32, .int .u32, .int .u32, .int .i64, .int .i64, .int .i64, .int .i64]) l]] => some ((tckF now l).v2 a, okG (lOk l))
 | _ => none
theorem rClTick_con : ∀ vs v, cRClTick vs = some (v, true) → SpecV Tryz.prog 31 vs v := by
 intro vs v h; unfold cRClTick at h; split at h
 ·rename_i a now l
  injection h with h; injection h with h hb; subst h
  exact callV_ok Eclh_ok af_rClTick_ok (rClTick_v a now l (okG_p hb))
 ·cases h
noncomputable def cRClHandle : List V → Option (V × Bool)
 | [.agg [.barr 16 a, .int .i64 now, .rows (.agg [.agg [.barr 16, .int .i64, .barr 16, .int .i64], .int .i64, .int .u32, .int .u32, .int .u32, .int .u32, .int .i64, .int .i64, .int .i64, .int .i64]) l], .bytes b] => some ((hanR now l b).v2 a, okG (lOk l))
 | _ => none
theorem rClHandle_con : ∀ vs v, cRClHandle vs = some (v, true) → SpecV Tryz.prog 33 vs v := by
 intro vs v h; unfold cRClHandle at h; split at h
 ·rename_i a now l b
  injection h with h; injection h with h hb; subst h
  exact callV_ok Eclg_ok af_rClHandle_ok (rClHandle_v a now l b (okG_p hb))
 ·cases h
noncomputable def af_clRef : AF := afOf Tryz.prog Tryz.f12 []
theorem af_clRef_ok : AllOk Tryz.prog 12 af_clRef := .flat Tryz.func12 (by kernel_rfl) (by kernel_rfl) (by kernel_rfl) (by kernel_rfl) (by kernel_rfl)
noncomputable def GEcli : List (Nat × Con) := [(29, .val [.agg [.barr 16, .int .i64, .rows (.agg [.agg [.barr 16, .int .i64, .barr 16, .int .i64], .int .i64, .int .u32, .int .u32, .int .u32, .int .u32, .int .i64, .int .i64, .int .i64, .int .i64])], .int .i64, .int .i64] cRClSend), (30, .val [.agg [.barr 16, .int .i64, .rows (.agg [.agg [.barr 16, .int .i64, .barr 16, .int .i64], .int .i64, .int .u32, .int .u32, .int .u32, .int .u32, .int .i64, .int .i64, .int .i64, .int .i64])], .int .i64] cRClClose), (32, .val [.agg [.barr 16, .int .i64, .rows (.agg [.agg [.barr 16, .int .i64, .barr 16, .int .i64], .int .i64, .int .u32, .int .u32, .int .u32, .int .u32, .int .i64, .int .i64, .int .i64, .int .i64])], .int .i64] cRClResend), (28, .val [.agg [.barr 16, .int .i64, .rows (.agg [.agg [.barr 16, .int .i64, .barr 16, .int .i64], .int .i64, .int .u32, .int .u32, .int .u32, .int .u32, .int .i64, .int .i64, .int .i64, .int .i64])], .barr 16, .int .i64] cRClConn), (31, .val [.agg [.barr 16, .int .i64, .rows (.agg [.agg [.barr 16, .int .i64, .barr 16, .int .i64], .int .i64, .int .u32, .int .u32, .int .u32, .int .u32, .int .i64, .int .i64, .int .i64, .int .i64])]] cRClTick), (33, .val [.agg [.barr 16, .int .i64, .rows (.agg [.agg [.barr 16, .int .i64, .barr 16, .int .i64], .int .i64, .int .u32, .int .u32, .int .u32, .int .u32, .int .i64, .int .i64, .int .i64, .int .i64])], .bytes] cRClHandle)]
theorem GEcli_ok : GOk Tryz.prog GEcli := .cons (enters_of Tryz.func29 (by kernel_rfl) rfl) rClSend_con <| .cons (enters_of Tryz.func30 (by kernel_rfl) rfl) rClClose_con <| .cons (enters_of Tryz.func32 (by kernel_rfl) rfl) rClResend_con <| .cons (enters_of Tryz.func28 (by kernel_rfl) rfl) rClConn_con <| .cons (enters_of Tryz.func31 (by kernel_rfl) rfl) rClTick_con <| .cons (enters_of Tryz.func33 (by kernel_rfl) rfl) rClHandle_con <| .nil
noncomputable def IEcli : List (Nat × AF) := []
theorem IEcli_ok : IOk Tryz.prog IEcli := .nil
noncomputable def CEcli : List (Nat × (List Nat × (S → Option (Bool × Tr)))) := []
theorem CEcli_ok : COk Tryz.prog CEcli := .nil
noncomputable def XEcli : List (Nat × (List Sh × (List V → PT))) := []
theorem XEcli_ok : XOk Tryz.prog XEcli := .nil
noncomputable def Ecli : Env := ⟨Tryz.prog, GEcli, IEcli, CEcli, XEcli, false⟩
theorem Ecli_ok : EnvOk Ecli := ⟨by kernel_rfl, GEcli_ok, IEcli_ok, CEcli_ok, XEcli_ok⟩
noncomputable def opF (a : List UInt8) (now : Int) (l : List V) (k : Int) (d : List UInt8) (n m : Int) (b : List UInt8) : OpR :=
 if k.tmod 10 = 0 then cnnF a now l d n else if k.tmod 10 = 1 then sndF now l n m else if k.tmod 10 = 2 then clsF now l n
 else if k.tmod 10 = 7 then tckF now l else if k.tmod 10 = 8 then tckF now l else if k.tmod 10 = 9 then ⟨now, l, 0, rsnF l n, 0⟩ else hanR now l b
def clOpV (k : Int) (d : List UInt8) (n m : Int) (b : List UInt8) : V := .agg [.int .i64 k, .barr 16 d, .int .i64 n, .int .i64 m, .bytes b]
noncomputable def lkG (l : List V) : Bool := okG (lOk l)
theorem clRef_t (a : List UInt8) (now : Int) (l : List V) (k : Int) (d : List UInt8) (n m : Int) (b : List UInt8) : callV Ecli af_clRef [clV a now l, clOpV k d n m b] =
 bif k.tmod 10 == 0 then (bif andT true (okG (lOk l ∧ a.length = 16 ∧ d.length = 16)) then some ((cnnF a now l d n).v4 a) else none)
 else bif k.tmod 10 == 1 then (bif andT true (lkG l) then some ((⟨(sndF now l n m).now, (sndF now l n m).l, 0, (sndF now l n m).out, (sndF now l n m).e⟩ : OpR).v4 a) else none)
 else bif k.tmod 10 == 2 then (bif andT true (lkG l) then some ((⟨(clsF now l n).now, (clsF now l n).l, 0, (clsF now l n).out, (clsF now l n).e⟩ : OpR).v4 a) else none)
 else bif k.tmod 10 == 7 then (bif andT true (lkG l) then some ((tckF now l).v4 a) else none)
 else bif k.tmod 10 == 8 then (bif andT true (lkG l) then some ((tckF now l).v4 a) else none)
 else bif k.tmod 10 == 9 then (bif andT true (lkG l) then some ((⟨now, l, 0, rsnF l n, 0⟩ : OpR).v4 a) else none)
 else (bif andT true (lkG l) then some ((hanR now l b).v4 a) else none) := by kernel_rfl
theorem sndF_n (now : Int) (l : List V) (i n : Int) : (sndF now l i n).n = 0 := by
 unfold sndF
 repeat' split
 all_goals rfl
theorem clsF_n (now : Int) (l : List V) (i : Int) : (clsF now l i).n = 0 := by
 unfold clsF
 split <;> rfl
theorem OpR.n0 {r : OpR} (h : r.n = 0) : (⟨r.now, r.l, 0, r.out, r.e⟩ : OpR) = r := by
 obtain ⟨_, _, n, _, _⟩ := r
 simp only at h
 subst h
 rfl
theorem clRef_v (a : List UInt8) (now : Int) (l : List V) (k : Int) (d : List UInt8) (n m : Int) (b : List UInt8) (h : lOk l ∧ a.length = 16 ∧ d.length = 16) : callV Ecli af_clRef [clV a now l, clOpV k d n m b] = some ((opF a now l k d n m b).v4 a) := by
 rw [clRef_t, okG_t h, show lkG l = true from okG_t h.1, OpR.n0 (sndF_n now l n m), OpR.n0 (clsF_n now l n)]
 unfold opF
 repeat' split
 all_goals
  simp (disch := omega) only [tre]
noncomputable def cClRef : List V → Option (V × Bool)
 | [.agg [.barr 16 a, .int .i64 now, .rows (.agg [.agg [.barr 16, .int .i64, .barr 16, .int .i64], .int .i64, .int .u32, .int .u32, .int .u32, .int .u32, .int .i64, .int .i64, .int .i64, .int .i64]) l], .agg [.int .i64 k, .barr 16 d, .int .i64 n, .int .i64 m, .bytes b]] => some ((opF a now l k d n m b).v4 a, okG (lOk l ∧ a.length = 16 ∧ d.length = 16))
 | _ => none
theorem clRef_con : ∀ vs v, cClRef vs = some (v, true) → SpecV Tryz.prog 12 vs v := by
 intro vs v h; unfold cClRef at h; split at h
 ·rename_i a now l k d n m b
  injection h with h; injection h with h hb; subst h
  exact callV_ok Ecli_ok af_clRef_ok (clRef_v a now l k d n m b (okG_p hb))
 ·cases h
end Go.Proofs.YtfhljcbbgckdiaaGreat
namespace Go.Proofs.YtfhljcbbgckdiaaGreat
open Go Go.Am Go.RowKit Go.Mix Go.Bas
set_option maxRecDepth 100000
theorem clnEl : elOf Tryz.prog 32 shCall = some (39, 104) := by kernel_rfl
theorem ClnC_calls (O : Nat → Prop) (A : Option Addr) (n c : Nat) (l : List V) (w : World) (h : CRep no O w (.rows shCall l) [.slice A n c]) (hsz : l.length ≤ 1000) :
  Calls Tryz.prog 27 #[.slice A n c] w fun e w' => Below w.heap.size w w' ∧ ∃ c, e = .returned c ∧ OutRep O w w' (.ownv 39 (.rows shCall l)) c := by
 cases h with
 | rows hn hc hm he hr hd =>
  rename_i ds
  cases A with
  | none =>
   obtain rfl : l = [] := by
    rcases Classical.em (l = []) with h0 | h0
    ·exact h0
    ·obtain ⟨b, off, e, _⟩ := hd h0
     cases e
   have hq := Lib.run_eql_slice_nil (P := Tryz.prog) w 32 39 none n c 0 0 Tryz.underlying32
   rw [Option.isNone_none] at hq
   clear hr hd he hn
   go_enter Tryz.func27, Tryz.ntmps27
   go_wp2
   go_ret
   exact ⟨Below.refl _ _, _, rfl, .own (.rows (by simp) .nil) (World.ownsRow_nil _ _ _ _)⟩
  | some x =>
   have hq := Lib.run_eql_slice_nil (P := Tryz.prog) w 32 39 (some x) n c 0 0 Tryz.underlying32
   rw [Option.isNone_some] at hq
   have hlen : ds.length = l.length * shCall.size := CReps.len_of (e := shCall) (fun a b => CRep.len a b) hr he
   have hrc : RowC no O w l.length shCall (.rows shCall l) ds := .rows he hr
   have hones := hid hrc.ones
   have HN := hid hn
   have HC := hid hc
   have HD := hid hd
   have HR := hid hr
   have HE := hid he
   have HL := hid hlen
   clear hr hd he hrc hn hlen hc hm
   go_enter Tryz.func27, Tryz.ntmps27
   go_wp2_with (at_builtin; refine stop ?_)
   refine Stop.on ?_
   have ho : (w.alloc (.cells #[] 39)).ownsRow w.heap.size 39 shCall.size (.slice (some ⟨w.heap.size, 0, none⟩) 0 0) 0 [] := by
    have := World.ownsRow_lit (e := 39) (size := shCall.size) w #[] 0 (Nat.le_refl _) (by unfold maxLen; omega) (by simp)
    simpa using this
   have hsrc : Go.Am.Src (w.alloc (.cells #[] 39)) n shCall.size (.slice (some x) n c) ds := by
    refine ⟨⟨_, _, rfl⟩, by rw [HL.out, HN.out], hones.out, fun h0 => ?_⟩
    obtain ⟨b, off, e, _, hb, hcell⟩ := HD.out (by intro e; have := HN.out; rw [e] at this; simp at this; omega)
    injection e with e; subst e
    refine ⟨_, _, rfl, fun j u hj => ?_⟩
    rw [add_lit0, ← hcell j u hj]
    exact World.cell?_of_block (heap_alloc_old w _ hb)
   have hsz2 := HN.out
   obtain ⟨A2, c2, w2, happ, ho2, hg2, hA2⟩ := Go.Am.run_append_g (P := Tryz.prog) (t := 32) (ty := 32) (sh := shCall) clnEl ho hsrc (by omega) (by rw [World.size_alloc]; omega)
   rw [Nat.zero_add] at happ ho2
   refine Go.Lib.wpList_append_run _ rfl (.tmp 5) (.tmp 6) 32 32 rfl (.slice (some ⟨w.heap.size, 0, none⟩) 0 0) (.slice (some x) n c) rfl rfl _ _ happ ?_
   have hb2 : Below w.heap.size w w2 := ((Below.refl _ _).alloc (Nat.le_refl _) _).trans ⟨hg2.os, hg2.tape, hg2.output, hg2.size, fun k hk => hg2.block k (by rw [World.size_alloc]; omega) (by simp [Value.ownBlock]; omega)⟩
   rw [List.nil_append] at ho2
   have HB := hid hb2
   have HO := hid ho2
   have HA := hid hA2
   clear happ ho2 hg2 hA2 hsrc ho hq hb2
   try go_frame
   go_wp2
   go_ret
   refine ⟨HB.out, _, rfl, .own (n := n) (ds := ds) ?_ ?_⟩
   ·have hext : Ext no no O (fun b => O b ∨ A2.map (·.block) = some b) w w2 := Ext.mk HB.out.size (fun _ _ e => by cases e) (fun b hb _ => HB.out.block b hb) (fun b hb => by
     rcases hb with hb | hb
     ·exact .inl hb
     ·cases A2 with
      | none => cases hb
      | some a =>
       injection hb with hb
       subst hb
       right
       show w.heap.size ≤ a.block
       rcases HA.out a rfl with h | h
       ·injection h with h
        have h : w.heap.size = a.block := h
        omega
       ·rw [h, World.size_alloc]; omega)
    have := RowC.rows HE.out (HR.out.ext hext)
    rw [HN.out]
    exact this
   ·exact HO.out
def cClnC : List V → Option (V × Bool)
 | [.rows (.agg [.agg [.barr 16, .int .i64, .barr 16, .int .i64], .int .i64, .int .u32, .int .u32, .int .u32, .int .u32, .int .i64, .int .i64, .int .i64, .int .i64]) l] => some (.ownv 39 (.rows shCall l), decide (l.length ≤ 1000))
 | _ => none
theorem clnC_con : ∀ vs v, cClnC vs = some (v, true) → SpecV Tryz.prog 27 vs v := by
 intro vs v h; unfold cClnC at h; split at h
 ·rename_i l
  injection h with h; injection h with h hb; subst h
  intro O w cs hO hv
  obtain ⟨c, rfl, hr⟩ := hv.one_inv
  cases hr with
  | one a b =>
   cases a with
   | rows hn hc hm he hr hd => exact ClnC_calls O _ _ _ l w (.rows hn hc hm he hr hd) (of_decide_eq_true hb)
  | agg a b => cases a; cases b
 ·cases h
end Go.Proofs.YtfhljcbbgckdiaaGreat
namespace Go.Proofs.YtfhljcbbgckdiaaGreat
open Go Go.Am Go.RowKit Go.Bas
set_option maxRecDepth 100000
abbrev shCl : Sh := .agg [.bool, .barr 16, .int .i64, .rows shCall]
noncomputable def af_clNew : AF := afOf Tryz.prog Tryz.f7 []
theorem af_clNew_ok : AllOk Tryz.prog 7 af_clNew := .flat Tryz.func7 (by kernel_rfl) (by kernel_rfl) (by kernel_rfl) (by kernel_rfl) (by kernel_rfl)
noncomputable def GEclj : List (Nat × Con) := []
theorem GEclj_ok : GOk Tryz.prog GEclj := .nil
noncomputable def IEclj : List (Nat × AF) := []
theorem IEclj_ok : IOk Tryz.prog IEclj := .nil
noncomputable def CEclj : List (Nat × (List Nat × (S → Option (Bool × Tr)))) := []
theorem CEclj_ok : COk Tryz.prog CEclj := .nil
noncomputable def XEclj : List (Nat × (List Sh × (List V → PT))) := []
theorem XEclj_ok : XOk Tryz.prog XEclj := .nil
noncomputable def Eclj : Env := ⟨Tryz.prog, GEclj, IEclj, CEclj, XEclj, false⟩
theorem Eclj_ok : EnvOk Eclj := ⟨by kernel_rfl, GEclj_ok, IEclj_ok, CEclj_ok, XEclj_ok⟩
theorem clNew_t (a : List UInt8) : callN Eclj af_clNew [.barr 16 a] = some (shCl, .agg [.bool true, .barr 16 a, .int .i64 0, .nils]) := by kernel_rfl
def cClNew : List V → Option (V × Bool)
 | [.barr 16 a] => some (.ownv 0 (.vref shCl (.agg [.bool true, .barr 16 a, .int .i64 0, .nils])), true)
 | _ => none
theorem clNew_con : ∀ vs v, cClNew vs = some (v, true) → SpecV Tryz.prog 7 vs v := by
 intro vs v h; unfold cClNew at h; split at h
 ·rename_i a
  injection h with h; injection h with h hb; subst h
  exact callN_ok Eclj_ok af_clNew_ok 0 (clNew_t a)
 ·cases h
def wayF (s : Int) : Nat := bif s == 1 then 70 else bif s == 2 then 71 else bif s == 3 then 71 else bif s == 4 then 72 else 73
structure CS where
 a : List UInt8
 now : Int
 l : List V
def csH (x : CS) : List (Nat × Option Blk) := [(0, some (.var shCl (.agg [.bool true, .barr 16 x.a, .int .i64 x.now, .own 1 x.l.length shCall]))), (1, some (.row 39 shCall (.rows shCall x.l)))]
def csGet (s : S) : CS := ⟨toA (aG (bkD s 0) 1), toI (aG (bkD s 0) 2), toR (bkD s 1)⟩
noncomputable def af_clIs : AF := afOf Tryz.prog Tryz.f22 []
theorem af_clIs_ok : AllOk Tryz.prog 22 af_clIs := .flat Tryz.func22 (by kernel_rfl) (by kernel_rfl) (by kernel_rfl) (by kernel_rfl) (by kernel_rfl)
noncomputable def af_clFree : AF := afOf Tryz.prog Tryz.f40 []
theorem af_clFree_ok : AllOk Tryz.prog 40 af_clFree := .flat Tryz.func40 (by kernel_rfl) (by kernel_rfl) (by kernel_rfl) (by kernel_rfl) (by kernel_rfl)
noncomputable def af_clLast : AF := afOf Tryz.prog Tryz.f24 []
theorem af_clLast_ok : AllOk Tryz.prog 24 af_clLast := .flat Tryz.func24 (by kernel_rfl) (by kernel_rfl) (by kernel_rfl) (by kernel_rfl) (by kernel_rfl)
noncomputable def af_clAck : AF := afOf Tryz.prog Tryz.f100 []
theorem af_clAck_ok : AllOk Tryz.prog 100 af_clAck := .flat Tryz.func100 (by kernel_rfl) (by kernel_rfl) (by kernel_rfl) (by kernel_rfl) (by kernel_rfl)
noncomputable def af_clSend : AF := afOf Tryz.prog Tryz.f16 []
theorem af_clSend_ok : AllOk Tryz.prog 16 af_clSend := .flat Tryz.func16 (by kernel_rfl) (by kernel_rfl) (by kernel_rfl) (by kernel_rfl) (by kernel_rfl)
noncomputable def af_clClose : AF := afOf Tryz.prog Tryz.f17 []
theorem af_clClose_ok : AllOk Tryz.prog 17 af_clClose := .flat Tryz.func17 (by kernel_rfl) (by kernel_rfl) (by kernel_rfl) (by kernel_rfl) (by kernel_rfl)
noncomputable def af_clResend : AF := afOf Tryz.prog Tryz.f19 []
theorem af_clResend_ok : AllOk Tryz.prog 19 af_clResend := .flat Tryz.func19 (by kernel_rfl) (by kernel_rfl) (by kernel_rfl) (by kernel_rfl) (by kernel_rfl)
noncomputable def af_clCalls : AF := afOf Tryz.prog Tryz.f11 []
theorem af_clCalls_ok : AllOk Tryz.prog 11 af_clCalls := .flat Tryz.func11 (by kernel_rfl) (by kernel_rfl) (by kernel_rfl) (by kernel_rfl) (by kernel_rfl)
noncomputable def GEclk : List (Nat × Con) := [(49, .val [.other .ptr] cClOut), (50, .val [.other .ptr] cClLives), (51, .val [.other .ptr, .int .u32, .int .i64, .bytes] cClPacket), (20, .val [.int .i64, .int .i64] cStream), (27, .val [.rows (.agg [.agg [.barr 16, .int .i64, .barr 16, .int .i64], .int .i64, .int .u32, .int .u32, .int .u32, .int .u32, .int .i64, .int .i64, .int .i64, .int .i64])] cClnC)]
theorem GEclk_ok : GOk Tryz.prog GEclk := .cons (enters_of Tryz.func49 (by kernel_rfl) rfl) clOut_con <| .cons (enters_of Tryz.func50 (by kernel_rfl) rfl) clLives_con <| .cons (enters_of Tryz.func51 (by kernel_rfl) rfl) clPacket_con <| .cons (enters_of Tryz.func20 (by kernel_rfl) rfl) clStream_con <| .cons (enters_of Tryz.func27 (by kernel_rfl) rfl) clnC_con <| .nil
noncomputable def IEclk : List (Nat × AF) := [(22, af_clIs), (40, af_clFree), (24, af_clLast)]
theorem IEclk_ok : IOk Tryz.prog IEclk := .cons af_clIs_ok <| .cons af_clFree_ok <| .cons af_clLast_ok <| .nil
noncomputable def CEclk : List (Nat × (List Nat × (S → Option (Bool × Tr)))) := []
theorem CEclk_ok : COk Tryz.prog CEclk := .nil
noncomputable def XEclk : List (Nat × (List Sh × (List V → PT))) := []
theorem XEclk_ok : XOk Tryz.prog XEclk := .nil
noncomputable def Eclk : Env := ⟨Tryz.prog, GEclk, IEclk, CEclk, XEclk, false⟩
theorem Eclk_ok : EnvOk Eclk := ⟨by kernel_rfl, GEclk_ok, IEclk_ok, CEclk_ok, XEclk_ok⟩
end Go.Proofs.YtfhljcbbgckdiaaGreat