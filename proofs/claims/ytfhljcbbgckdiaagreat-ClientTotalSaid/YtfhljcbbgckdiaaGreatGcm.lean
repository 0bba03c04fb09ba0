/- Part Gcm of the proof: laws used by the law of this claim. -/
import Derived.Test.YtfhljcbbgckdiaaGreatGcl
import Derived.Test.YtfhljcbbgckdiaaGreatGz
set_option linter.all false
namespace Go.Proofs.YtfhljcbbgckdiaaGreat
open Go Go.Am Go.RowKit Go.Bas
set_option maxRecDepth 100000
def clV (a : List UInt8) (now : Int) (l : List V) : V := .agg [.barr 16 a, .int .i64 now, .rows shCall l]
def mayF (l : List V) (i : Int) : Int := if i < 0 then 10 else if i ≥ (l.length : Int) then 10 else if (atC l i.toNat).st ≠ 2 then 11 else if (atC l i.toNat).un ≠ (atC l i.toNat).se then 11 else 0
theorem mayF_0 {l : List V} {i : Int} (h : mayF l i = 0) : 0 ≤ i ∧ i < l.length ∧ (atC l i.toNat).st = 2 ∧ (atC l i.toNat).un = (atC l i.toNat).se := by
 unfold mayF at h
 split at h
 ·cases h
 split at h
 ·cases h
 split at h
 ·cases h
 split at h
 ·cases h
 exact ⟨by omega, by omega, by omega, by omega⟩
def sndC (c : Cal) (n now : Int) : Cal := { c with lo := n, se := IntKind.u32.wrap (c.se + IntKind.u32.wrap n), si := now, ag := 0 }
def clsC (c : Cal) (now : Int) : Cal := { c with st := 3, se := IntKind.u32.wrap (c.se + 1), si := now, ag := 0 }
def conC (F : Int) (a : List UInt8) (now n : Int) (d : List UInt8) (p : Int) : Cal := ⟨a, IntKind.i64.wrap (1024 + n), d, p, 1, F, 0, F, IntKind.u32.wrap (F + 1), 0, 0, now, 0⟩
abbrev cGd (c : Cal) : Prop := cOk c ∧ (1 ≤ c.st ∧ c.st ≤ 5) ∧ (0 ≤ c.ag ∧ c.ag ≤ 3) ∧ c.s.length = 16 ∧ c.d.length = 16
def lOk (l : List V) : Prop := l.length ≤ 8 ∧ ∀ x ∈ l, ∃ c : Cal, x = c.v ∧ cGd c
theorem lOk.at {l : List V} (h : lOk l) {i : Nat} (hi : i < l.length) : l.getD i .undef = (atC l i).v ∧ cGd (atC l i) := by
 obtain ⟨c, h1, h2⟩ := h.2 l[i] (List.getElem_mem hi)
 have e : l.getD i .undef = c.v := by rw [List.getD_eq_getElem?_getD, List.getElem?_eq_getElem hi]; exact h1
 have e2 : atC l i = c := by unfold atC; rw [e]; rfl
 rw [e, e2]
 exact ⟨rfl, h2⟩
theorem lOk.up {l : List V} (h : lOk l) {c : Cal} (hc : cGd c) (i : Nat) : lOk (upC l i c) := by
 refine ⟨by rw [upC_len]; exact h.1, fun x hx => ?_⟩
 rcases List.mem_or_eq_of_mem_set hx with hx | hx
 ·exact h.2 x hx
 ·exact ⟨c, hx, hc⟩
theorem lOk.add {l : List V} (h : lOk l) {c : Cal} (hc : cGd c) (hl : l.length < 8) : lOk (l ++ [c.v]) := by
 refine ⟨by simp; omega, fun x hx => ?_⟩
 rcases List.mem_append.1 hx with hx | hx
 ·exact h.2 x hx
 ·obtain rfl := List.mem_singleton.1 hx; exact ⟨c, rfl, hc⟩
theorem lOk.nil : lOk [] := ⟨by simp, fun x hx => by cases hx⟩
structure Fw where
 s : List UInt8
 sp : Int
 d : List UInt8
 dp : Int
def Fw.v (f : Fw) : V := .agg [.barr 16 f.s, .int .i64 f.sp, .barr 16 f.d, .int .i64 f.dp]
def flEq (c : Cal) (f : Fw) : Bool := (c.s == f.s) && ((c.sp == f.sp) && ((c.d == f.d) && ((c.dp == f.dp) && true)))
def isF (f : Fw) (x : V) : Bool := flEq (calOf x) f
def ixF (l : List V) (f : Fw) : Nat := l.findIdx (isF f)
def rhT (l : List V) (k : Nat) (t : Tc) : Cal × List V := takF (atC l k) t.fl t.sq t.ak
theorem ixF_at {l : List V} {f : Fw} {k : Nat} (hk : k < l.length) (h : isF f (l.getD k .undef) = true) (h0 : ∀ j, j < k → isF f (l.getD j .undef) = false) : ixF l f = k := by
 unfold ixF
 have e : ∀ j (hj : j < l.length), l.getD j .undef = l[j] := fun j hj => by rw [List.getD_eq_getElem?_getD, List.getElem?_eq_getElem hj]; rfl
 rw [List.findIdx_eq hk]
 refine ⟨by rw [← e k hk]; exact h, fun j hj => by rw [← e j (by omega)]; exact h0 j hj⟩
theorem ixF_no {l : List V} {f : Fw} (h0 : ∀ j, j < l.length → isF f (l.getD j .undef) = false) : ¬ ixF l f < l.length := by
 intro h
 have e : l.getD (ixF l f) .undef = l[ixF l f] := by rw [List.getD_eq_getElem?_getD, List.getElem?_eq_getElem h]; rfl
 have h1 := h0 _ h
 rw [e] at h1
 have h2 : isF f l[ixF l f] = true := List.findIdx_getElem (w := h)
 rw [h2] at h1
 cases h1
def bkP (q : Pq) : Fw := ⟨q.fin, q.t.dp, q.h.s, q.t.sp⟩
def hanF (l : List V) (q : Pq) : List V × List V := if ixF l (bkP q) < l.length then (upC l (ixF l (bkP q)) (rhT l (ixF l (bkP q)) q.t).1, (rhT l (ixF l (bkP q)) q.t).2) else (l, [])
def hanB (l : List V) (b : List UInt8) : List V × List V := if pqE b ≠ 0 then (l, []) else if (pqX b).k ≠ 6 then (l, []) else if (pqX b).r = true then (l, []) else hanF l (pqX b)
def waF (k : Int) : Int := if k = 0 then 1 else if k = 1 then 2 else if k = 2 then 4 else 8
def agC (c : Cal) (now : Int) : Cal := { c with ag := IntKind.i64.wrap (c.ag + 1), si := now }
def tk1 (c : Cal) (now : Int) : Option (Cal × List V) :=
 if c.st > 3 then none else if c.un = c.se then none else if IntKind.i64.wrap (now - c.si) < waF c.ag then none
 else if c.ag = 3 then some ({ c with st := 5 }, []) else some (agC c now, lsF (agC c now))
def tkN (now : Int) : Nat → List V → Nat → List V → List V × List V
 | 0, l, _, out => (l, out)
 | n + 1, l, i, out => match tk1 (atC l i) now with
  | none => tkN now n l (i + 1) out
  | some (c, o) => tkN now n (upC l i c) (i + 1) (out ++ o)
theorem lsF_len (c : Cal) : (lsF c).length ≤ 1 := by
 unfold lsF
 repeat' split
 all_goals simp
def tikF (l : List V) (now : Int) : List V × List V := tkN now l.length l 0 []
structure OpR where
 now : Int
 l : List V
 n : Int
 out : List V
 e : Int
def OpR.v4 (r : OpR) (a : List UInt8) : V := .tup [clV a r.now r.l, .int .i64 r.n, .rows .bytes r.out, .int .i64 r.e]
def OpR.v3 (r : OpR) (a : List UInt8) : V := .tup [clV a r.now r.l, .rows .bytes r.out, .int .i64 r.e]
def OpR.v2 (r : OpR) (a : List UInt8) : V := .tup [clV a r.now r.l, .rows .bytes r.out]
def sndF (now : Int) (l : List V) (i n : Int) : OpR :=
 if mayF l i ≠ 0 then ⟨now, l, 0, [], mayF l i⟩ else if n < 1 then ⟨now, l, 0, [], 2⟩ else if n > 100 then ⟨now, l, 0, [], 2⟩
 else ⟨now, upC l i.toNat (sndC (atC l i.toNat) n now), 0, lsF (sndC (atC l i.toNat) n now), 0⟩
def clsF (now : Int) (l : List V) (i : Int) : OpR :=
 if mayF l i ≠ 0 then ⟨now, l, 0, [], mayF l i⟩ else ⟨now, upC l i.toNat (clsC (atC l i.toNat) now), 0, lsF (clsC (atC l i.toNat) now), 0⟩
def rsnF (l : List V) (i : Int) : List V := if i < 0 then [] else if i ≥ (l.length : Int) then [] else lsF (atC l i.toNat)
noncomputable def cnnC (a : List UInt8) (now n : Int) (d : List UInt8) (p : Int) : Cal := conC (IntKind.u32.wrap (kyS 1 (IntKind.u64.wrap n) a (IntKind.i64.wrap (1024 + n)) d p)) a now n d p
noncomputable def cnnF (a : List UInt8) (now : Int) (l : List V) (d : List UInt8) (p : Int) : OpR :=
 if p < 1 then ⟨now, l, 0, [], 2⟩ else if p > 65535 then ⟨now, l, 0, [], 2⟩ else if (l.length : Int) ≥ 8 then ⟨now, l, 0, [], 8⟩
 else ⟨now, l ++ [(cnnC a now l.length d p).v], l.length, lsF (cnnC a now l.length d p), 0⟩
def tckF (now : Int) (l : List V) : OpR := ⟨IntKind.i64.wrap (now + 1), (tikF l (IntKind.i64.wrap (now + 1))).1, 0, (tikF l (IntKind.i64.wrap (now + 1))).2, 0⟩
def hanR (now : Int) (l : List V) (b : List UInt8) : OpR := ⟨now, (hanB l b).1, 0, (hanB l b).2, 0⟩
theorem sndC_ok {c : Cal} (h : cOk c) (n now : Int) : cOk (sndC c n now) := ⟨h.1, h.2.1, u32w _⟩
theorem clsC_ok {c : Cal} (h : cOk c) (now : Int) : cOk (clsC c now) := ⟨h.1, h.2.1, u32w _⟩
theorem cnnC_ok (a : List UInt8) (now n : Int) (d : List UInt8) (p : Int) : cOk (cnnC a now n d p) := ⟨by show u32ok 0; unfold u32ok; omega, u32w _, u32w _⟩
noncomputable def opF (a : List UInt8) (now : Int) (l : List V) (k : Int) (d : List UInt8) (n m : Int) (b : List UInt8) : OpR :=
 if k.tmod 10 = 0 then cnnF a now l d n else if k.tmod 10 = 1 then sndF now l n m else if k.tmod 10 = 2 then clsF now l n
 else if k.tmod 10 = 7 then tckF now l else if k.tmod 10 = 8 then tckF now l else if k.tmod 10 = 9 then ⟨now, l, 0, rsnF l n, 0⟩ else hanR now l b
def clOpV (k : Int) (d : List UInt8) (n m : Int) (b : List UInt8) : V := .agg [.int .i64 k, .barr 16 d, .int .i64 n, .int .i64 m, .bytes b]
theorem sndF_n (now : Int) (l : List V) (i n : Int) : (sndF now l i n).n = 0 := by
 unfold sndF
 repeat' split
 all_goals rfl
theorem clsF_n (now : Int) (l : List V) (i : Int) : (clsF now l i).n = 0 := by
 unfold clsF
 split <;> rfl
theorem OpR.n0 {r : OpR} (h : r.n = 0) : (⟨r.now, r.l, 0, r.out, r.e⟩ : OpR) = r := by
 obtain ⟨_, _, n, _, _⟩ := r
 simp only at h
 subst h
 rfl
end Go.Proofs.YtfhljcbbgckdiaaGreat
namespace Go.Proofs.YtfhljcbbgckdiaaGreat
open Go Go.Am Go.RowKit Go.Mix Go.Bas
set_option maxRecDepth 100000
theorem clnEl : elOf Tryz.prog 32 shCall = some (39, 104) := by kernel_rfl
theorem ClnC_calls (O : Nat → Prop) (A : Option Addr) (n c : Nat) (l : List V) (w : World) (h : CRep no O w (.rows shCall l) [.slice A n c]) (hsz : l.length ≤ 1000) :
  Calls Tryz.prog 27 #[.slice A n c] w fun e w' => Below w.heap.size w w' ∧ ∃ c, e = .returned c ∧ OutRep O w w' (.ownv 39 (.rows shCall l)) c := by
 cases h with
 | rows hn hc hm he hr hd =>
  rename_i ds
  cases A with
  | none =>
   obtain rfl : l = [] := by
    rcases Classical.em (l = []) with h0 | h0
    ·exact h0
    ·obtain ⟨b, off, e, _⟩ := hd h0
     cases e
   have hq := Lib.run_eql_slice_nil (P := Tryz.prog) w 32 39 none n c 0 0 Tryz.underlying32
   rw [Option.isNone_none] at hq
   clear hr hd he hn
   go_enter Tryz.func27, Tryz.ntmps27
   go_wp2
   go_ret
   exact ⟨Below.refl _ _, _, rfl, .own (.rows (by simp) .nil) (World.ownsRow_nil _ _ _ _)⟩
  | some x =>
   have hq := Lib.run_eql_slice_nil (P := Tryz.prog) w 32 39 (some x) n c 0 0 Tryz.underlying32
   rw [Option.isNone_some] at hq
   have hlen : ds.length = l.length * shCall.size := CReps.len_of (e := shCall) (fun a b => CRep.len a b) hr he
   have hrc : RowC no O w l.length shCall (.rows shCall l) ds := .rows he hr
   have hones := hid hrc.ones
   have HN := hid hn
   have HC := hid hc
   have HD := hid hd
   have HR := hid hr
   have HE := hid he
   have HL := hid hlen
   clear hr hd he hrc hn hlen hc hm
   go_enter Tryz.func27, Tryz.ntmps27
   go_wp2_with (at_builtin; refine stop ?_)
   refine Stop.on ?_
   have ho : (w.alloc (.cells #[] 39)).ownsRow w.heap.size 39 shCall.size (.slice (some ⟨w.heap.size, 0, none⟩) 0 0) 0 [] := by
    have := World.ownsRow_lit (e := 39) (size := shCall.size) w #[] 0 (Nat.le_refl _) (by unfold maxLen; omega) (by simp)
    simpa using this
   have hsrc : Go.Am.Src (w.alloc (.cells #[] 39)) n shCall.size (.slice (some x) n c) ds := by
    refine ⟨⟨_, _, rfl⟩, by rw [HL.out, HN.out], hones.out, fun h0 => ?_⟩
    obtain ⟨b, off, e, _, hb, hcell⟩ := HD.out (by intro e; have := HN.out; rw [e] at this; simp at this; omega)
    injection e with e; subst e
    refine ⟨_, _, rfl, fun j u hj => ?_⟩
    rw [add_lit0, ← hcell j u hj]
    exact World.cell?_of_block (heap_alloc_old w _ hb)
   have hsz2 := HN.out
   obtain ⟨A2, c2, w2, happ, ho2, hg2, hA2⟩ := Go.Am.run_append_g (P := Tryz.prog) (t := 32) (ty := 32) (sh := shCall) clnEl ho hsrc (by omega) (by rw [World.size_alloc]; omega)
   rw [Nat.zero_add] at happ ho2
   refine Go.Lib.wpList_append_run _ rfl (.tmp 5) (.tmp 6) 32 32 rfl (.slice (some ⟨w.heap.size, 0, none⟩) 0 0) (.slice (some x) n c) rfl rfl _ _ happ ?_
   have hb2 : Below w.heap.size w w2 := ((Below.refl _ _).alloc (Nat.le_refl _) _).trans ⟨hg2.os, hg2.tape, hg2.output, hg2.size, fun k hk => hg2.block k (by rw [World.size_alloc]; omega) (by simp [Value.ownBlock]; omega)⟩
   rw [List.nil_append] at ho2
   have HB := hid hb2
   have HO := hid ho2
   have HA := hid hA2
   clear happ ho2 hg2 hA2 hsrc ho hq hb2
   try go_frame
   go_wp2
   go_ret
   refine ⟨HB.out, _, rfl, .own (n := n) (ds := ds) ?_ ?_⟩
   ·have hext : Ext no no O (fun b => O b ∨ A2.map (·.block) = some b) w w2 := Ext.mk HB.out.size (fun _ _ e => by cases e) (fun b hb _ => HB.out.block b hb) (fun b hb => by
     rcases hb with hb | hb
     ·exact .inl hb
     ·cases A2 with
      | none => cases hb
      | some a =>
       injection hb with hb
       subst hb
       right
       show w.heap.size ≤ a.block
       rcases HA.out a rfl with h | h
       ·injection h with h
        have h : w.heap.size = a.block := h
        omega
       ·rw [h, World.size_alloc]; omega)
    have := RowC.rows HE.out (HR.out.ext hext)
    rw [HN.out]
    exact this
   ·exact HO.out
def cClnC : List V → Option (V × Bool)
 | [.rows (.agg [.agg [.barr 16, .int .i64, .barr 16, .int .i64], .int .i64, .int .u32, .int .u32, .int .u32, .int .u32, .int .i64, .int .i64, .int .i64, .int .i64]) l] => some (.ownv 39 (.rows shCall l), decide (l.length ≤ 1000))
 | _ => none
theorem clnC_con : ∀ vs v, cClnC vs = some (v, true) → SpecV Tryz.prog 27 vs v := by
 intro vs v h; unfold cClnC at h; split at h
 ·rename_i l
  injection h with h; injection h with h hb; subst h
  intro O w cs hO hv
  obtain ⟨c, rfl, hr⟩ := hv.one_inv
  cases hr with
  | one a b =>
   cases a with
   | rows hn hc hm he hr hd => exact ClnC_calls O _ _ _ l w (.rows hn hc hm he hr hd) (of_decide_eq_true hb)
  | agg a b => cases a; cases b
 ·cases h
end Go.Proofs.YtfhljcbbgckdiaaGreat
namespace Go.Proofs.YtfhljcbbgckdiaaGreat
open Go Go.Am Go.RowKit Go.Bas
set_option maxRecDepth 100000
abbrev shCl : Sh := .agg [.bool, .barr 16, .int .i64, .rows shCall]
noncomputable def af_clNew : AF := afOf Tryz.prog Tryz.f7 []
theorem af_clNew_ok : AllOk Tryz.prog 7 af_clNew := .flat Tryz.func7 (by kernel_rfl) (by kernel_rfl) (by kernel_rfl) (by kernel_rfl) (by kernel_rfl)
noncomputable def GEclj : List (Nat × Con) := []
theorem GEclj_ok : GOk Tryz.prog GEclj := .nil
noncomputable def IEclj : List (Nat × AF) := []
theorem IEclj_ok : IOk Tryz.prog IEclj := .nil
noncomputable def CEclj : List (Nat × (List Nat × (S → Option (Bool × Tr)))) := []
theorem CEclj_ok : COk Tryz.prog CEclj := .nil
noncomputable def XEclj : List (Nat × (List Sh × (List V → PT))) := []
theorem XEclj_ok : XOk Tryz.prog XEclj := .nil
noncomputable def Eclj : Env := ⟨Tryz.prog, GEclj, IEclj, CEclj, XEclj, false⟩
theorem Eclj_ok : EnvOk Eclj := ⟨by kernel_rfl, GEclj_ok, IEclj_ok, CEclj_ok, XEclj_ok⟩
theorem clNew_t (a : List UInt8) : callN Eclj af_clNew [.barr 16 a] = some (shCl, .agg [.bool true, .barr 16 a, .int .i64 0, .nils]) := by kernel_rfl
def cClNew : List V → Option (V × Bool)
 | [.barr 16 a] => some (.ownv 0 (.vref shCl (.agg [.bool true, .barr 16 a, .int .i64 0, .nils])), true)
 | _ => none
theorem clNew_con : ∀ vs v, cClNew vs = some (v, true) → SpecV Tryz.prog 7 vs v := by
 intro vs v h; unfold cClNew at h; split at h
 ·rename_i a
  injection h with h; injection h with h hb; subst h
  exact callN_ok Eclj_ok af_clNew_ok 0 (clNew_t a)
 ·cases h
def wayF (s : Int) : Nat := bif s == 1 then 70 else bif s == 2 then 71 else bif s == 3 then 71 else bif s == 4 then 72 else 73
structure CS where
 a : List UInt8
 now : Int
 l : List V
def csH (x : CS) : List (Nat × Option Blk) := [(0, some (.var shCl (.agg [.bool true, .barr 16 x.a, .int .i64 x.now, .own 1 x.l.length shCall]))), (1, some (.row 39 shCall (.rows shCall x.l)))]
def csGet (s : S) : CS := ⟨toA (aG (bkD s 0) 1), toI (aG (bkD s 0) 2), toR (bkD s 1)⟩
noncomputable def af_clIs : AF := afOf Tryz.prog Tryz.f22 []
theorem af_clIs_ok : AllOk Tryz.prog 22 af_clIs := .flat Tryz.func22 (by kernel_rfl) (by kernel_rfl) (by kernel_rfl) (by kernel_rfl) (by kernel_rfl)
noncomputable def af_clFree : AF := afOf Tryz.prog Tryz.f40 []
theorem af_clFree_ok : AllOk Tryz.prog 40 af_clFree := .flat Tryz.func40 (by kernel_rfl) (by kernel_rfl) (by kernel_rfl) (by kernel_rfl) (by kernel_rfl)
noncomputable def af_clLast : AF := afOf Tryz.prog Tryz.f24 []
theorem af_clLast_ok : AllOk Tryz.prog 24 af_clLast := .flat Tryz.func24 (by kernel_rfl) (by kernel_rfl) (by kernel_rfl) (by kernel_rfl) (by kernel_rfl)
noncomputable def af_clAck : AF := afOf Tryz.prog Tryz.f100 []
theorem af_clAck_ok : AllOk Tryz.prog 100 af_clAck := .flat Tryz.func100 (by kernel_rfl) (by kernel_rfl) (by kernel_rfl) (by kernel_rfl) (by kernel_rfl)
noncomputable def af_clSend : AF := afOf Tryz.prog Tryz.f16 []
theorem af_clSend_ok : AllOk Tryz.prog 16 af_clSend := .flat Tryz.func16 (by kernel_rfl) (by kernel_rfl) (by kernel_rfl) (by kernel_rfl) (by kernel_rfl)
noncomputable def af_clClose : AF := afOf Tryz.prog Tryz.f17 []
theorem af_clClose_ok : AllOk Tryz.prog 17 af_clClose := .flat Tryz.func17 (by kernel_rfl) (by kernel_rfl) (by kernel_rfl) (by kernel_rfl) (by kernel_rfl)
noncomputable def af_clResend : AF := afOf Tryz.prog Tryz.f19 []
theorem af_clResend_ok : AllOk Tryz.prog 19 af_clResend := .flat Tryz.func19 (by kernel_rfl) (by kernel_rfl) (by kernel_rfl) (by kernel_rfl) (by kernel_rfl)
noncomputable def af_clCalls : AF := afOf Tryz.prog Tryz.f11 []
theorem af_clCalls_ok : AllOk Tryz.prog 11 af_clCalls := .flat Tryz.func11 (by kernel_rfl) (by kernel_rfl) (by kernel_rfl) (by kernel_rfl) (by kernel_rfl)
noncomputable def GEclk : List (Nat × Con) := [(49, .val [.other .ptr] cClOut), (50, .val [.other .ptr] cClLives), (51, .val [.other .ptr, .int .u32, .int .i64, .bytes] cClPacket), (20, .val [.int .i64, .int .i64] cStream), (27, .val [.rows (.agg [.agg [.barr 16, .int .i64, .barr 16, .int .i64], .int .i64, .int .u32, .int .u32, .int .u32, .int .u32, .int .i64, .int .i64, .int .i64, .int .i64])] cClnC)]
theorem GEclk_ok : GOk Tryz.prog GEclk := .cons (enters_of Tryz.func49 (by kernel_rfl) rfl) clOut_con <| .cons (enters_of Tryz.func50 (by kernel_rfl) rfl) clLives_con <| .cons (enters_of Tryz.func51 (by kernel_rfl) rfl) clPacket_con <| .cons (enters_of Tryz.func20 (by kernel_rfl) rfl) clStream_con <| .cons (enters_of Tryz.func27 (by kernel_rfl) rfl) clnC_con <| .nil
noncomputable def IEclk : List (Nat × AF) := [(22, af_clIs), (40, af_clFree), (24, af_clLast)]
theorem IEclk_ok : IOk Tryz.prog IEclk := .cons af_clIs_ok <| .cons af_clFree_ok <| .cons af_clLast_ok <| .nil
noncomputable def CEclk : List (Nat × (List Nat × (S → Option (Bool × Tr)))) := []
theorem CEclk_ok : COk Tryz.prog CEclk := .nil
noncomputable def XEclk : List (Nat × (List Sh × (List V → PT))) := []
theorem XEclk_ok : XOk Tryz.prog XEclk := .nil
noncomputable def Eclk : Env := ⟨Tryz.prog, GEclk, IEclk, CEclk, XEclk, false⟩
theorem Eclk_ok : EnvOk Eclk := ⟨by kernel_rfl, GEclk_ok, IEclk_ok, CEclk_ok, XEclk_ok⟩
end Go.Proofs.YtfhljcbbgckdiaaGreat