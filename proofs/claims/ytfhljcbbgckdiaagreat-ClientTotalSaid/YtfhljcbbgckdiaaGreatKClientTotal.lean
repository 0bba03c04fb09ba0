/- ClientTotal: for every input the law returns true, and what came in reads as before. No condition of its own. -/
import Derived.Test.YtfhljcbbgckdiaaGreatGcs
import Derived.Test.YtfhljcbbgckdiaaGreatGv
import Derived.Test.YtfhljcbbgckdiaaGreatGf
import Derived.Test.YtfhljcbbgckdiaaGreatGd
set_option linter.all false
namespace Go.Proofs.YtfhljcbbgckdiaaGreat
open Go Go.Am Go.RowKit Go.Bas
set_option maxRecDepth 100000
abbrev shOp : Sh := .agg [.int .i64, .barr 16, .int .i64, .int .i64, .bytes]
def opOf (v : V) : Op4 := ⟨toI (hdV (toG v)), toA (hdV (toG v).tail), toI (hdV (toG v).tail.tail), toI (hdV (toG v).tail.tail.tail), toL (hdV (toG v).tail.tail.tail.tail)⟩
def atO (ops : List V) (i : Nat) : Op4 := opOf (ops.getD i .undef)
structure PlI where
 ops : List V
 x : CS
 i : Int
noncomputable def plO (y : PlI) : OpR := doR ⟨y.x, atO y.ops y.i.toNat⟩
def sh_opone : List Sh := [.agg [.int .i64, .barr 16, .int .i64, .int .i64, .bytes]]
theorem opIn {x : V} (h : inR 140737488351232 shOp x = true) : (opOf x).d.length = 16 := by
 have h : inRs 140737488351232 sh_opone [x] = true := by
  show (inR 140737488351232 shOp x && true) = true
  rw [h]; rfl
 generalize hx : [x] = xs at h
 obtain ⟨zx1, zl1, rfl, zh1, zr1⟩ := inRs_cons h; clear h
 obtain ⟨zg1, rfl, za1⟩ := inR_agg zh1; clear zh1
 obtain ⟨zx2, zl2, rfl, zh2, zr2⟩ := inRs_cons za1; clear za1
 obtain ⟨k, rfl, hk0, hk1⟩ := inR_i64 zh2; clear zh2
 obtain ⟨zx3, zl3, rfl, zh3, zr3⟩ := inRs_cons zr2; clear zr2
 obtain ⟨d, rfl, hd⟩ := inR_barr zh3; clear zh3
 obtain ⟨zx4, zl4, rfl, zh4, zr4⟩ := inRs_cons zr3; clear zr3
 obtain ⟨n, rfl, hn0, hn1⟩ := inR_i64 zh4; clear zh4
 obtain ⟨zx5, zl5, rfl, zh5, zr5⟩ := inRs_cons zr4; clear zr4
 obtain ⟨m, rfl, hm0, hm1⟩ := inR_i64 zh5; clear zh5
 obtain ⟨zx6, zl6, rfl, zh6, zr6⟩ := inRs_cons zr5; clear zr5
 obtain ⟨b, rfl, hb⟩ := inR_bytes zh6; clear zh6
 obtain rfl := inRs_nil zr6; clear zr6
 obtain rfl := inRs_nil zr1; clear zr1
 injection hx with hx _
 subst hx
 show d.length = 16
 omega
structure ttG (a : List UInt8) (B : Int) (c : Cal) : Prop where
 gd : cGd c
 s : c.s = a
 sp : 0 ≤ c.sp ∧ c.sp ≤ 65535
 dp : 0 ≤ c.dp ∧ c.dp ≤ 65535
 lo : 0 ≤ c.lo ∧ c.lo ≤ 100
 off : 0 ≤ c.off ∧ c.off ≤ B
structure ttR (c c' : Cal) : Prop where
 st : 4 ≤ c.st → c'.st = c.st
 s : c'.s = c.s
 sp : c'.sp = c.sp
 d : c'.d = c.d
 dp : c'.dp = c.dp
 off : c.off ≤ c'.off
theorem ttR.rf (c : Cal) : ttR c c := ⟨fun _ => rfl, rfl, rfl, rfl, rfl, Int.le_refl _⟩
theorem ttR.tr {c d e : Cal} (h : ttR c d) (k : ttR d e) : ttR c e :=
 ⟨fun q => by have h1 := h.st q; have := k.st (by omega); omega, k.s.trans h.s, k.sp.trans h.sp, k.d.trans h.d, k.dp.trans h.dp, Int.le_trans h.off k.off⟩
theorem ttG.up {a : List UInt8} {B B' : Int} {c : Cal} (h : ttG a B c) (hB : B ≤ B') : ttG a B' c := ⟨h.gd, h.s, h.sp, h.dp, h.lo, h.off.1, by have := h.off.2; omega⟩
def ttO (a : List UInt8) (out : List V) : Prop := ∀ x ∈ out, ∃ b, x = .bytes b ∧ pqE b = 0 ∧ (pqX b).r = false ∧ (pqX b).h.s = a ∧ (pqX b).k = 6
theorem ttO.nil (a : List UInt8) : ttO a [] := fun x hx => by cases hx
theorem ttO.app {a : List UInt8} {o p : List V} (h : ttO a o) (k : ttO a p) : ttO a (o ++ p) := fun x hx => (List.mem_append.1 hx).elim (h x) (k x)
theorem tt_sg {a : List UInt8} {B : Int} {c : Cal} (h : ttG a B c) {sq fl : Int} {pl : List UInt8} (hf : fl = 2 ∨ fl = 16 ∨ fl = 17 ∨ fl = 24) (hq : u32ok sq) (hp : pl.length ≤ 100) : ttO a [.bytes (sgF c sq fl pl)] := by
 obtain ⟨⟨⟨hnx, _⟩, _, _, hs, hd⟩, hsa, ⟨p1, p2⟩, ⟨p3, p4⟩, _, _⟩ := h
 intro x hx
 obtain rfl := List.mem_singleton.1 hx
 refine ⟨_, rfl, ?_⟩
 unfold sgF
 have hk : u32ok (if fl = 2 then 0 else c.nx) := by
  split
  ·unfold u32ok; omega
  ·exact hnx
 generalize ht : (⟨c.sp, c.dp, sq, if fl = 2 then 0 else c.nx, fl, 4096, 0, 0, [], pl⟩ : Tc) = t
 have hpl : t.pl = pl := by rw [← ht]
 have hop : t.op = [] := by rw [← ht]
 have h0 : tcEr t = 0 := by
  rw [← ht]
  unfold tcEr
  dsimp only
  have e1 : canO (tls []) = 0 := rfl
  have e2 : (putO (tls [])).length = 0 := rfl
  rw [if_pos (by unfold n16; omega), if_pos e1, e2, if_neg (by omega)]
 have hE : pkE c.s c.d t = 0 := by
  obtain ⟨f1, f2, f3⟩ := tcS_keep c.s c.d t
  have f4 : (tcS c.s c.d t).pl = t.pl := by unfold tcS; split <;> rfl
  have h1 := (tcS_fine (s := c.s) (d := c.d) h0).2
  have e2 : (putO (tls [])).length = 0 := rfl
  unfold pkE mdE tcP
  rw [if_pos h1, if_pos h1, f1, hop, f4, hpl, List.length_append, List.length_append, tcHd_len, e2, if_neg (by omega)]
 obtain ⟨_, g1, g2, g3, _, _, _, g4⟩ := pk_back hE hs hd (by rw [← ht]; exact hq) (by rw [← ht]; exact hk) (by rw [hop]; rfl)
 exact ⟨g1, g4, by rw [g3, hsa], g2⟩
theorem tt_ak {a : List UInt8} {B : Int} {c : Cal} (h : ttG a B c) : ttO a (akF c) := tt_sg h (by omega) h.gd.1.2.2 (Nat.zero_le _)
theorem tt_ls {a : List UInt8} {B : Int} {c : Cal} (h : ttG a B c) : ttO a (lsF c) := by
 have hq := h.gd.1.2.1
 unfold lsF
 repeat' split
 ·exact ttO.nil a
 ·exact ttO.nil a
 ·exact tt_sg h (by omega) hq (Nat.zero_le _)
 ·refine tt_sg h (by omega) hq ?_
  rw [stL_len]
  have : mnS c.lo ≤ 100 := by unfold mnS; split <;> omega
  omega
 ·exact tt_sg h (by omega) hq (Nat.zero_le _)
theorem ttG.of {a : List UInt8} {B B' : Int} {c c' : Cal} (h : ttG a B c) (gd : cGd c') (s : c'.s = c.s) (sp : c'.sp = c.sp) (d : c'.d = c.d) (dp : c'.dp = c.dp) (lo : 0 ≤ c'.lo ∧ c'.lo ≤ 100) (off : c.off ≤ c'.off ∧ c'.off ≤ B') (st : 4 ≤ c.st → c'.st = c.st) : ttG a B' c' ∧ ttR c c' :=
 ⟨⟨gd, s.trans h.s, by rw [sp]; exact h.sp, by rw [dp]; exact h.dp, lo, by have := h.off; omega⟩, st, s, sp, d, dp, off.1⟩
def ttP (a : List UInt8) (B : Int) (c : Cal) (x : Cal × List V) : Prop := ttG a (B + 100) x.1 ∧ ttR c x.1 ∧ ttO a x.2
theorem tt_takB {a : List UInt8} {B : Int} {c : Cal} (h : ttG a B c) (hB : B ≤ 1000000) (b16 b4 b2 b1 : Bool) (sq ak : Int) : ttP a B c (takB c b16 b4 b2 b1 sq ak) := by
 have hsame : ttG a (B + 100) c := h.up (by omega)
 have gds := h.gd
 obtain ⟨⟨n1, n2, n3⟩, ⟨s1, s2⟩, ag, l1, l2⟩ := h.gd
 have p0 : ttP a B c (c, []) := ⟨hsame, .rf c, .nil a⟩
 have pa : ttP a B c (c, akF c) := ⟨hsame, .rf c, tt_ak h⟩
 have k1 : ttG a (B + 100) (tkD1 c ak) ∧ ttR c (tkD1 c ak) ∧ (tkD1 c ak).st = c.st := by
  unfold tkD1
  have hw : IntKind.i64.wrap (c.off + c.lo) = c.off + c.lo := w64 (by have := h.off; have := h.lo; omega) (by have := h.off; have := h.lo; omega)
  repeat' split
  ·exact ⟨hsame, .rf c, rfl⟩
  ·have := h.of (c' := { c with un := c.se, off := IntKind.i64.wrap (c.off + c.lo), lo := 0 }) (B' := B + 100) ⟨⟨n1, n3, n3⟩, ⟨s1, s2⟩, ag, l1, l2⟩ rfl rfl rfl rfl ⟨by show (0 : Int) ≤ 0; omega, by show (0 : Int) ≤ 100; omega⟩
    (by rw [hw]; have := h.off; have := h.lo; exact ⟨by dsimp only; omega, by dsimp only; omega⟩) (fun _ => rfl)
   exact ⟨this.1, this.2, rfl⟩
  ·exact ⟨hsame, .rf c, rfl⟩
 have k3 : c.st ≤ 3 → ttP a B c (tkD3 (tkD2 (tkD1 c ak) b1 sq) b1 sq) := by
  intro hst
  generalize tkD1 c ak = e at k1
  obtain ⟨q1, q2, q3⟩ := k1
  have q4 := q1.gd
  have k2 : ttG a (B + 100) (tkD2 e b1 sq) ∧ ttR c (tkD2 e b1 sq) := by
   unfold tkD2
   repeat' split
   ·have := q1.of (c' := { e with nx := IntKind.u32.wrap (e.nx + 1), st := 4 }) (B' := B + 100) ⟨⟨u32w _, q4.1.2⟩, ⟨by show (1 : Int) ≤ 4; omega, by show (4 : Int) ≤ 5; omega⟩, q4.2.2⟩ rfl rfl rfl rfl q1.lo ⟨Int.le_refl _, q1.off.2⟩ (fun hh => by rw [q3] at hh; omega)
    exact ⟨this.1, q2.tr this.2⟩
   ·exact ⟨q1, q2⟩
   ·exact ⟨q1, q2⟩
  unfold tkD3
  repeat' split
  ·exact ⟨k2.1, k2.2, tt_ak k2.1⟩
  ·exact ⟨k2.1, k2.2, .nil a⟩
  ·exact ⟨k2.1, k2.2, .nil a⟩
 have p5 : c.st ≤ 3 → ttP a B c ({ c with st := 5 }, []) := by
  intro hst
  have := h.of (c' := { c with st := 5 }) (B' := B + 100) ⟨⟨n1, n2, n3⟩, ⟨by show (1 : Int) ≤ 5; omega, by show (5 : Int) ≤ 5; omega⟩, ag, l1, l2⟩ rfl rfl rfl rfl h.lo ⟨Int.le_refl _, by have := h.off; show c.off ≤ B + 100; omega⟩ (fun hh => by omega)
  exact ⟨this.1, this.2, .nil a⟩
 have p2 : c.st ≤ 3 → ttP a B c ({ c with nx := IntKind.u32.wrap (sq + 1), un := c.se, st := 2 }, akF { c with nx := IntKind.u32.wrap (sq + 1), un := c.se, st := 2 }) := by
  intro hst
  have := h.of (c' := { c with nx := IntKind.u32.wrap (sq + 1), un := c.se, st := 2 }) (B' := B + 100) ⟨⟨u32w _, n3, n3⟩, ⟨by show (1 : Int) ≤ 2; omega, by show (2 : Int) ≤ 5; omega⟩, ag, l1, l2⟩ rfl rfl rfl rfl h.lo ⟨Int.le_refl _, by have := h.off; show c.off ≤ B + 100; omega⟩ (fun hh => by omega)
  exact ⟨this.1, this.2, tt_ak this.1⟩
 unfold takB
 repeat' split
 all_goals
  first
  | exact p0
  | exact pa
  | exact k3 (by omega)
  | exact p5 (by omega)
  | exact p2 (by omega)
theorem tt_tk1 {a : List UInt8} {B : Int} {c : Cal} (h : ttG a B c) {now : Int} {c' : Cal} {o : List V} (ht : tk1 c now = some (c', o)) : ttG a B c' ∧ ttR c c' ∧ ttO a o := by
 have hk := tk1_ok h.gd ht
 unfold tk1 at ht
 split at ht
 ·cases ht
 rename_i hst
 split at ht
 ·cases ht
 split at ht
 ·cases ht
 split at ht
 ·injection ht with ht; injection ht with e1 e2; subst e1; subst e2
  have := h.of (c' := { c with st := 5 }) (B' := B) hk.1 rfl rfl rfl rfl h.lo ⟨Int.le_refl _, h.off.2⟩ (fun hh => by omega)
  exact ⟨this.1, this.2, .nil a⟩
 ·injection ht with ht; injection ht with e1 e2; subst e1; subst e2
  have := h.of (c' := agC c now) (B' := B) hk.1 rfl rfl rfl rfl h.lo ⟨Int.le_refl _, h.off.2⟩ (fun _ => rfl)
  exact ⟨this.1, this.2, tt_ls this.1⟩
def ttL (a : List UInt8) (B : Int) (l : List V) : Prop := l.length ≤ 8 ∧ ∀ x ∈ l, ∃ c : Cal, x = c.v ∧ ttG a B c
theorem ttL.ok {a : List UInt8} {B : Int} {l : List V} (h : ttL a B l) : lOk l := ⟨h.1, fun x hx => by obtain ⟨c, h1, h2⟩ := h.2 x hx; exact ⟨c, h1, h2.gd⟩⟩
theorem ttL.at {a : List UInt8} {B : Int} {l : List V} (h : ttL a B l) {i : Nat} (hi : i < l.length) : ttG a B (atC l i) := by
 obtain ⟨c, h1, h2⟩ := h.2 l[i] (List.getElem_mem hi)
 have e : atC l i = c := by
  unfold atC
  rw [List.getD_eq_getElem?_getD, List.getElem?_eq_getElem hi]
  show calOf l[i] = c
  rw [h1]
  rfl
 rw [e]; exact h2
theorem ttL.mono {a : List UInt8} {B B' : Int} {l : List V} (h : ttL a B l) (hB : B ≤ B') : ttL a B' l := ⟨h.1, fun x hx => by obtain ⟨c, h1, h2⟩ := h.2 x hx; exact ⟨c, h1, h2.up hB⟩⟩
theorem ttL.up {a : List UInt8} {B : Int} {l : List V} (h : ttL a B l) {c : Cal} (hc : ttG a B c) (i : Nat) : ttL a B (upC l i c) := by
 refine ⟨by rw [upC_len]; exact h.1, fun x hx => ?_⟩
 rcases List.mem_or_eq_of_mem_set hx with hx | hx
 ·exact h.2 x hx
 ·exact ⟨c, hx, hc⟩
def ttW (l l' : List V) : Prop := l.length ≤ l'.length ∧ ∀ k, k < l.length → ttR (atC l k) (atC l' k)
theorem ttW.rf (l : List V) : ttW l l := ⟨Nat.le_refl _, fun _ _ => .rf _⟩
theorem ttW.tr {l m r : List V} (h : ttW l m) (k : ttW m r) : ttW l r := ⟨Nat.le_trans h.1 k.1, fun i hi => (h.2 i hi).tr (k.2 i (by have := h.1; omega))⟩
theorem atC_ne {l : List V} {i k : Nat} (h : i ≠ k) (c : Cal) : atC (upC l i c) k = atC l k := by
 unfold atC upC
 rw [List.getD_eq_getElem?_getD, List.getD_eq_getElem?_getD, List.getElem?_set_ne h]
theorem ttW.up {l : List V} {i : Nat} (hi : i < l.length) {c : Cal} (h : ttR (atC l i) c) : ttW l (upC l i c) := by
 refine ⟨by rw [upC_len]; exact Nat.le_refl _, fun k hk => ?_⟩
 by_cases e : i = k
 ·subst e; rw [atC_up hi]; exact h
 ·rw [atC_ne e]; exact .rf _
theorem ttW.add (l m : List V) : ttW l (l ++ m) := by
 refine ⟨by rw [List.length_append]; omega, fun k hk => ?_⟩
 have e : atC (l ++ m) k = atC l k := by
  unfold atC
  rw [List.getD_eq_getElem?_getD, List.getD_eq_getElem?_getD, List.getElem?_append_left hk]
 rw [e]; exact .rf _
theorem tt_tkN {a : List UInt8} {B : Int} {now : Int} : ∀ (n : Nat) {l : List V} {i : Nat} {out : List V}, ttL a B l → i + n = l.length → ttO a out → ttL a B (tkN now n l i out).1 ∧ ttW l (tkN now n l i out).1 ∧ ttO a (tkN now n l i out).2
 | 0, l, i, out, h, _, ho => ⟨h, .rf l, ho⟩
 | n + 1, l, i, out, h, hn, ho => by
  rw [tkN]
  cases ht : tk1 (atC l i) now with
  | none =>
   dsimp only
   exact tt_tkN n (l := l) (i := i + 1) (out := out) h (by omega) ho
  | some co =>
   obtain ⟨c, o⟩ := co
   dsimp only
   have hi : i < l.length := by omega
   obtain ⟨k1, k2, k3⟩ := tt_tk1 (h.at hi) ht
   have := tt_tkN (now := now) n (l := upC l i c) (i := i + 1) (out := out ++ o) (h.up k1 i) (by rw [upC_len]; omega) (ho.app k3)
   exact ⟨this.1, (ttW.up hi k2).tr this.2.1, this.2.2⟩
structure ttS (a : List UInt8) (B : Int) (l : List V) (r : OpR) : Prop where
 g : ttL a (B + 100) r.l
 w : ttW l r.l
 o : ttO a r.out
theorem ttS.no {a : List UInt8} {B : Int} {l : List V} (h : ttL a B l) (now n e : Int) : ttS a B l ⟨now, l, n, [], e⟩ := ⟨h.mono (by omega), .rf l, .nil a⟩
theorem ttS.one {a : List UInt8} {B : Int} {l : List V} (h : ttL a B l) {i : Nat} (hi : i < l.length) {c : Cal} (hc : ttG a (B + 100) c) (hr : ttR (atC l i) c) {o : List V} (ho : ttO a o) (now n e : Int) : ttS a B l ⟨now, upC l i c, n, o, e⟩ :=
 ⟨(h.mono (by omega)).up hc i, .up hi hr, ho⟩
theorem tt_op {a : List UInt8} (ha : a.length = 16) {d : List UInt8} (hd : d.length = 16) {B : Int} (h0 : 0 ≤ B) (hB : B ≤ 1000000) {l : List V} (h : ttL a B l) (now k n m : Int) (b : List UInt8) : ttS a B l (opF a now l k d n m b) := by
 have hl := h.ok
 have ht : ttS a B l (tckF now l) := by
  have := tt_tkN (now := IntKind.i64.wrap (now + 1)) l.length (l := l) (i := 0) (out := []) h (by omega) (.nil a)
  exact ⟨this.1.mono (by omega), this.2.1, this.2.2⟩
 unfold opF
 split
 ·unfold cnnF
  repeat' split
  ·exact .no h _ _ _
  ·exact .no h _ _ _
  ·exact .no h _ _ _
  ·rename_i hp1 hp2 hl8
   have hw : IntKind.i64.wrap (1024 + (l.length : Int)) = 1024 + (l.length : Int) := w64 (by omega) (by omega)
   have g : ttG a (B + 100) (cnnC a now l.length d n) := ⟨cnnC_gd ha hd _ _ _, rfl, by show 0 ≤ IntKind.i64.wrap (1024 + (l.length : Int)) ∧ IntKind.i64.wrap (1024 + (l.length : Int)) ≤ 65535; omega, by show 0 ≤ n ∧ n ≤ 65535; omega, ⟨by show (0 : Int) ≤ 0; omega, by show (0 : Int) ≤ 100; omega⟩, ⟨by show (0 : Int) ≤ 0; omega, by show 0 ≤ B + 100; omega⟩⟩
   refine ⟨⟨by show (l ++ [_]).length ≤ 8; rw [List.length_append]; simp; omega, fun x hx => ?_⟩, .add _ _, tt_ls g⟩
   rcases List.mem_append.1 hx with hx | hx
   ·exact (h.mono (B' := B + 100) (by omega)).2 x hx
   ·obtain rfl := List.mem_singleton.1 hx; exact ⟨_, rfl, g⟩
 split
 ·unfold sndF
  repeat' split
  ·exact .no h _ _ _
  ·exact .no h _ _ _
  ·exact .no h _ _ _
  ·rename_i c1 c2 c3
   obtain ⟨q0, q1, q2, _⟩ := mayF_0 (by simpa using c1)
   have hi : n.toNat < l.length := by omega
   have g := h.at hi
   have := g.of (c' := sndC (atC l n.toNat) m now) (B' := B + 100) ⟨sndC_ok g.gd.1 m now, g.gd.2.1, ⟨by show (0 : Int) ≤ 0; omega, by show (0 : Int) ≤ 3; omega⟩, g.gd.2.2.2⟩ rfl rfl rfl rfl (by show 0 ≤ m ∧ m ≤ 100; omega) ⟨Int.le_refl _, by have := g.off.2; show (atC l n.toNat).off ≤ B + 100; omega⟩ (fun _ => rfl)
   exact .one h hi this.1 this.2 (tt_ls this.1) _ _ _
 split
 ·unfold clsF
  split
  ·exact .no h _ _ _
  ·rename_i c1
   obtain ⟨q0, q1, q2, _⟩ := mayF_0 (by simpa using c1)
   have hi : n.toNat < l.length := by omega
   have g := h.at hi
   have := g.of (c' := clsC (atC l n.toNat) now) (B' := B + 100) ⟨clsC_ok g.gd.1 now, ⟨by show (1 : Int) ≤ 3; omega, by show (3 : Int) ≤ 5; omega⟩, ⟨by show (0 : Int) ≤ 0; omega, by show (0 : Int) ≤ 3; omega⟩, g.gd.2.2.2⟩ rfl rfl rfl rfl g.lo ⟨Int.le_refl _, by have := g.off.2; show (atC l n.toNat).off ≤ B + 100; omega⟩ (fun hh => by omega)
   exact .one h hi this.1 this.2 (tt_ls this.1) _ _ _
 split
 ·exact ht
 split
 ·exact ht
 split
 ·refine ⟨h.mono (by omega), .rf l, ?_⟩
  show ttO a (rsnF l n)
  unfold rsnF
  repeat' split
  ·exact .nil a
  ·exact .nil a
  ·exact tt_ls (h.at (i := n.toNat) (by omega))
 ·unfold hanR hanB
  repeat' split
  ·exact .no h _ _ _
  ·exact .no h _ _ _
  ·exact .no h _ _ _
  ·unfold hanF
   split
   ·rename_i hi
    have p := tt_takB (h.at hi) hB (bitF (pqX b).t.fl 16) (bitF (pqX b).t.fl 4) (bitF (pqX b).t.fl 2) (bitF (pqX b).t.fl 1) (pqX b).t.sq (pqX b).t.ak
    exact .one h hi p.1 p.2.1 p.2.2 _ _ _
   ·exact .no h _ _ _
structure TtA where
 p : PlI
 was : List V
 out : List V
 k : Int
def ttCl (x : CS) (n : Nat) : Option Blk := some (.var shCl (.agg [.bool true, .barr 16 x.a, .int .i64 x.now, .own n x.l.length shCall]))
def ttBx (x : CS) : Option Blk := some (.var (.barr 16) (.barr 16 x.a))
def ttRw (l : List V) : Option Blk := some (.row 39 shCall (.rows shCall l))
def ttSl (y : PlI) : List (Nat × V) := [(5, cRef), (1, .rows shOp y.ops), (2, .ref 1 [] 0 (.barr 16)), (6, .int .i64 y.i)]
def ttT (y : PlI) : S := ⟨ttSl y, [(0, ttCl y.x 2), (1, ttBx y.x), (2, ttRw y.x.l)], 3, true, 145⟩
def ttX : S := ⟨[], [], 0, true, 145⟩
def ttF (b : Bool) : S := ⟨[(4, .bool b)], [], 0, true, 145⟩
def ttGet (s : S) : PlI := ⟨toR (lkD s 1), ⟨toA (aG (bkD s 0) 1), toI (aG (bkD s 0) 2), toR (bkD s 2)⟩, toI (lkD s 6)⟩
def ttI (y : PlI) : Prop := 0 ≤ y.i ∧ y.i ≤ y.ops.length ∧ y.i ≤ 60 ∧ ttL y.x.a (100 * y.i) y.x.l ∧ y.x.a.length = 16 ∧ ∀ v ∈ y.ops, (opOf v).d.length = 16
noncomputable def ttQ : S → Option (Bool × Tr) := gK ttGet ttT ttI (fun _ => .leaf (.exit 0) ttX)
def ttAS (y : TtA) : S := ⟨[(5, cRef), (1, .rows shOp y.p.ops), (2, .ref 1 [] 0 (.barr 16)), (6, .int .i64 y.p.i), (7, .own 2 y.was.length shCall), (9, .own 3 y.out.length .bytes), (11, .own 4 y.p.x.l.length shCall), (12, .int .i64 y.k)],
 [(0, ttCl y.p.x 5), (1, ttBx y.p.x), (2, ttRw y.was), (3, some (.row rowT .bytes (.rows .bytes y.out))), (4, ttRw y.p.x.l), (5, ttRw y.p.x.l)], 6, true, 145⟩
def ttAX (y : TtA) : S := ⟨[(5, cRef), (1, .rows shOp y.p.ops), (2, .ref 1 [] 0 (.barr 16)), (6, .int .i64 y.p.i), (7, .own 2 y.was.length shCall), (11, .own 3 y.p.x.l.length shCall)],
 [(0, ttCl y.p.x 4), (1, ttBx y.p.x), (2, ttRw y.was), (3, ttRw y.p.x.l), (4, ttRw y.p.x.l)], 5, true, 145⟩
def ttAGet (s : S) : TtA := ⟨⟨toR (lkD s 1), ⟨toA (aG (bkD s 0) 1), toI (aG (bkD s 0) 2), toR (bkD s 5)⟩, toI (lkD s 6)⟩, toR (bkD s 2), toR (bkD s 3), toI (lkD s 12)⟩
def ttAI (y : TtA) : Prop := 0 ≤ y.k ∧ y.k ≤ y.out.length ∧ y.out.length ≤ 1000 ∧ ttO y.p.x.a y.out
noncomputable def ttAQ : S → Option (Bool × Tr) := gX ttAGet ttAS ttAI (fun y => .leaf (.exit 2) (ttAX y))
structure TtB where
 p : PlI
 was : List V
 k : Int
def ttBS (y : TtB) : S := ⟨[(5, cRef), (1, .rows shOp y.p.ops), (2, .ref 1 [] 0 (.barr 16)), (6, .int .i64 y.p.i), (7, .own 2 y.was.length shCall), (11, .own 3 y.p.x.l.length shCall), (15, .int .i64 y.k)],
 [(0, ttCl y.p.x 4), (1, ttBx y.p.x), (2, ttRw y.was), (3, ttRw y.p.x.l), (4, ttRw y.p.x.l)], 5, true, 145⟩
def ttBGet (s : S) : TtB := ⟨⟨toR (lkD s 1), ⟨toA (aG (bkD s 0) 1), toI (aG (bkD s 0) 2), toR (bkD s 4)⟩, toI (lkD s 6)⟩, toR (bkD s 2), toI (lkD s 15)⟩
def ttBI (y : TtB) : Prop := 0 ≤ y.k ∧ y.k ≤ y.was.length ∧ y.was.length ≤ 1000 ∧ ttW y.was y.p.x.l
noncomputable def ttBQ : S → Option (Bool × Tr) := gX ttBGet ttBS ttBI (fun y => .leaf (.exit 4) (ttT y.p))
noncomputable def af_ClientTotal : AF := afOf Tryz.prog Tryz.f5 [.sum [5, 1, 2, 6, 7, 9, 11, 12] [] ttAQ, .sum [5, 1, 2, 6, 7, 11, 15] [] ttBQ, .sum [5, 1, 2, 6] [] ttQ]
noncomputable def GEcly : List (Nat × Con) := [(15, .val [.bytes] cPkParse), (9, .val [] cTrue40), (7, .val [.barr 16] cClNew)]
theorem GEcly_ok : GOk Tryz.prog GEcly := .cons (enters_of Tryz.func15 (by kernel_rfl) rfl) rPkParse_con <| .cons (enters_of Tryz.func9 (by kernel_rfl) rfl) clLives40_con <| .cons (enters_of Tryz.func7 (by kernel_rfl) rfl) clNew_con <| .nil
noncomputable def IEcly : List (Nat × AF) := []
theorem IEcly_ok : IOk Tryz.prog IEcly := .nil
noncomputable def CEcly : List (Nat × (List Nat × (S → Option (Bool × Tr)))) := [(13, (vs_clDo, rf_clDo)), (11, (vs_clCalls, rf_clCalls))]
theorem CEcly_ok : COk Tryz.prog CEcly := .cons (enters_of Tryz.func13 (by kernel_rfl) rfl) clDo_ref <| .cons (enters_of Tryz.func11 (by kernel_rfl) rfl) clCalls_ref <| .nil
noncomputable def XEcly : List (Nat × (List Sh × (List V → PT))) := []
theorem XEcly_ok : XOk Tryz.prog XEcly := .nil
noncomputable def Ecly : Env := ⟨Tryz.prog, GEcly, IEcly, CEcly, XEcly, false⟩
theorem Ecly_ok : EnvOk Ecly := ⟨by kernel_rfl, GEcly_ok, IEcly_ok, CEcly_ok, XEcly_ok⟩
noncomputable def ttC : AC := (af_ClientTotal.ac.sums.headD (.skip, [], [], fun _ => none)).1
noncomputable def ttAC : AC := (ttC.sums.headD (.skip, [], [], fun _ => none)).1
noncomputable def ttBC : AC := (ttC.sums.tail.headD (.skip, [], [], fun _ => none)).1
theorem ttA_b (y : TtA) : aev Ecly (inlN Ecly 6) ttAC (bodyF (Am.ways [5, 1, 2, 6, 7, 9, 11, 12] [5, 1, 2, 6, 7, 11] [4]) []) (ttAS y) =
 bif decide (y.k < (y.out.length : Int)) then bif andT true (Am.inB y.k y.out.length) then
 bif pqE (toL (y.out.getD y.k.toNat .undef)) != 0 then some (.ret, ttF false)
 else bif (pqX (toL (y.out.getD y.k.toNat .undef))).r then some (.ret, ttF false)
 else bif !((pqX (toL (y.out.getD y.k.toNat .undef))).h.s == y.p.x.a) then some (.ret, ttF false)
 else bif (pqX (toL (y.out.getD y.k.toNat .undef))).k != 6 then some (.ret, ttF false)
 else some (.normal, ttAS { y with k := IntKind.i64.wrap (y.k + 1) })
 else none else some (.exit 2, ttAX y) := by kernel_rfl
def ttFe (c f : Cal) : Bool := (c.s == f.s) && ((c.sp == f.sp) && ((c.d == f.d) && ((c.dp == f.dp) && true)))
def trQ2 {α : Type} (b : Bool) (r : Option α) : Option α := bif b then r else none
def ttBq (o : Bool) (l m : List V) (k : Int) (nx : Option (Ex × S)) : Option (Ex × S) :=
 bif !(ttFe (atC m k.toNat) (atC l k.toNat)) then trQ2 (andT (andT o (Am.inB k m.length)) (Am.inB k l.length) && true) (some (.ret, ttF false))
 else trQ2 (andT (andT (andT (andT o (Am.inB k m.length)) (Am.inB k l.length)) (Am.inB k m.length)) (Am.inB k l.length) && true) (bif decide ((atC m k.toNat).off < (atC l k.toNat).off) then some (.ret, ttF false) else nx)
theorem ttB_b (y : TtB) : aev Ecly (inlN Ecly 6) ttBC (bodyF (Am.ways [5, 1, 2, 6, 7, 11, 15] [5, 1, 2, 6] [4]) []) (ttBS y) =
 bif decide (y.k < (y.was.length : Int)) then bif andT true (Am.inB y.k y.was.length) then
 bif decide ((atC y.was y.k.toNat).st ≥ 4) then
 bif (atC y.p.x.l y.k.toNat).st != (atC y.was y.k.toNat).st then trQ2 (andT true (Am.inB y.k y.p.x.l.length) && true) (some (.ret, ttF false))
 else ttBq (andT true (Am.inB y.k y.p.x.l.length)) y.was y.p.x.l y.k (some (.normal, ttBS { y with k := IntKind.i64.wrap (y.k + 1) }))
 else ttBq true y.was y.p.x.l y.k (some (.normal, ttBS { y with k := IntKind.i64.wrap (y.k + 1) }))
 else none else some (.exit 4, ttT y.p) := by kernel_rfl
noncomputable def ttAk (y : TtA) : Bool := okG (ttAS y = ttAS y ∧ ttAI y)
noncomputable def ttBk (y : TtB) : Bool := okG (ttBS y = ttBS y ∧ ttBI y)
noncomputable def ttK (ops : List V) (x : CS) (i : Int) (r : OpR) : Option (Ex × S) :=
 bif wOk caS (fun x => lOk x.l) (x.of r) then
  bif ttAk ⟨⟨ops, x.of r, i⟩, x.l, r.out, 0⟩ then
   bif decide ((r.l.length : Int) < x.l.length) then some (.ret, ttF false)
   else bif decide ((r.l.length : Int) > 8) then some (.ret, ttF false)
   else bif ttBk ⟨⟨ops, x.of r, i⟩, x.l, 0⟩ then some (.normal, ttT ⟨ops, x.of r, IntKind.i64.wrap (i + 1)⟩) else none
  else none
 else none
theorem tt_b (ops : List V) (x : CS) (i : Int) : aev Ecly (inlN Ecly 6) ttC (bodyF (Am.ways [5, 1, 2, 6] [] [4]) []) (ttT ⟨ops, x, i⟩) =
 bif decide (i < (ops.length : Int)) then bif decide (i < 60) then bif andT true (Am.inB i ops.length) then
 bif decide (((atO ops i.toNat).b.length : Int) ≤ 1600) then
 bif wOk caS (fun x => lOk x.l) x then
 bif andT true (Am.inB i ops.length) then bif wOk doS doI ⟨x, atO ops i.toNat⟩ then ttK ops x i (plO ⟨ops, x, i⟩) else none else none
 else none
 else some (.exit 0, ttX)
 else none else some (.exit 0, ttX) else some (.exit 0, ttX) := by kernel_rfl
theorem ttA_loop : LoopOk Tryz.prog ttAC.erase [] ttAQ := by
 refine loopX_ok Ecly_ok (d := 6) (AC.flat_ok (by kernel_rfl)) (Am.ways [5, 1, 2, 6, 7, 9, 11, 12] [5, 1, 2, 6, 7, 11] [4]) [] ttAGet _ _ ttAI (fun y => (y.out.length - y.k).toNat) (fun _ => rfl) ?_
 rintro ⟨p, was, out, k⟩ ⟨h0, h1, h2, ho⟩
 rw [ttA_b]
 have h0 : 0 ≤ k := h0
 have h1 : k ≤ out.length := h1
 have h2 : out.length ≤ 1000 := h2
 have ho : ttO p.x.a out := ho
 dsimp only
 by_cases hi : k < out.length
 ·have h3 : k.toNat < out.length := by omega
  obtain ⟨b, e, e1, e2, e3, e4⟩ := ho out[k.toNat] (List.getElem_mem h3)
  have eb : toL (out.getD k.toNat .undef) = b := by
   rw [List.getD_eq_getElem?_getD, List.getElem?_eq_getElem h3]
   show toL out[k.toNat] = b
   rw [e]; rfl
  rw [eb, e1, e2, e3, e4, beq_self_eq_true, w64 (x := k + 1) (by omega) (by omega)]
  refine .inl ⟨⟨p, was, out, k + 1⟩, ?_, ⟨by dsimp only; omega, by dsimp only; omega, h2, ho⟩, by dsimp only; omega, leaf_eq rfl⟩
  simp (disch := omega) only [tre]
 ·refine .inr ⟨.exit 2, ttAX ⟨p, was, out, k⟩, ?_, nofun, .leaf⟩
  simp (disch := omega) only [tre]
theorem ttFe_t {c f : Cal} (h : ttR f c) : ttFe c f = true := by
 unfold ttFe
 rw [h.s, h.sp, h.d, h.dp]
 simp
theorem ttB_loop : LoopOk Tryz.prog ttBC.erase [] ttBQ := by
 refine loopX_ok Ecly_ok (d := 6) (AC.flat_ok (by kernel_rfl)) (Am.ways [5, 1, 2, 6, 7, 11, 15] [5, 1, 2, 6] [4]) [] ttBGet _ _ ttBI (fun y => (y.was.length - y.k).toNat) (fun _ => rfl) ?_
 rintro ⟨p, was, k⟩ ⟨h0, h1, h2, hw⟩
 rw [ttB_b]
 have h0 : 0 ≤ k := h0
 have h1 : k ≤ was.length := h1
 have h2 : was.length ≤ 1000 := h2
 have hw : ttW was p.x.l := hw
 dsimp only
 by_cases hi : k < was.length
 ·have hr := hw.2 k.toNat (by omega)
  have hm : k < p.x.l.length := by have := hw.1; omega
  have hq : ∀ (o : Bool) (nx : Option (Ex × S)), o = true → ttBq o was p.x.l k nx = nx := by
   rintro o nx rfl
   have := hr.off
   unfold ttBq
   rw [ttFe_t hr]
   simp (disch := omega) only [tre]
   rfl
  refine .inl ⟨⟨p, was, k + 1⟩, ?_, ⟨by dsimp only; omega, by dsimp only; omega, h2, hw⟩, by dsimp only; omega, leaf_eq rfl⟩
  rw [hq true _ rfl, w64 (x := k + 1) (by omega) (by omega), inB_t h0 hm, hq (andT true true) _ rfl]
  by_cases c : (atC was k.toNat).st ≥ 4
  ·rw [hr.st c]
   simp (disch := omega) only [tre]
  ·simp (disch := omega) only [tre]
 ·refine .inr ⟨.exit 4, ttT p, ?_, nofun, .leaf⟩
  simp (disch := omega) only [tre]
theorem ttC_ok : LoopsOk Tryz.prog ttC := sums_two (c := ttAC) (c2 := ttBC) (ts := [5, 1, 2, 6, 7, 9, 11, 12]) (ts2 := [5, 1, 2, 6, 7, 11, 15]) (by kernel_rfl) (by kernel_rfl) ttA_loop ttB_loop
theorem tt_loop : LoopOk Tryz.prog ttC.erase [] ttQ := by
 refine loopK (fun _ => rfl) (fun x _ => rfl) (loopX_ok Ecly_ok (d := 6) ttC_ok (Am.ways [5, 1, 2, 6] [] [4]) [] ttGet _ _ ttI (fun y => (y.ops.length - y.i).toNat) (fun _ => rfl) ?_)
 rintro ⟨ops, x, i⟩ ⟨h0, h1, h6, hl, ha, hd⟩
 rw [tt_b]
 have h0 : 0 ≤ i := h0
 have h1 : i ≤ ops.length := h1
 have h6 : i ≤ 60 := h6
 have hl : ttL x.a (100 * i) x.l := hl
 have ha : x.a.length = 16 := ha
 have hd : ∀ v ∈ ops, (opOf v).d.length = 16 := hd
 by_cases hi : i < ops.length
 ·by_cases h60 : i < 60
  ·have hid : (atO ops i.toNat).d.length = 16 := by
    have h2 : i.toNat < ops.length := by omega
    have := hd ops[i.toNat] (List.getElem_mem h2)
    unfold atO
    rw [List.getD_eq_getElem?_getD, List.getElem?_eq_getElem h2]
    exact this
   by_cases hB : ((atO ops i.toNat).b.length : Int) ≤ 1600
   ·have hR : ttS x.a (100 * i) x.l (plO ⟨ops, x, i⟩) := tt_op ha hid (by omega) (by omega) hl _ _ _ _ _
    have hR2 : (plO ⟨ops, x, i⟩).out.length ≤ 8 := (opF_ok ha hid hl.ok _ _ _ _ _).2
    have e1 : wOk caS (fun x => lOk x.l) x = true := wOk_t hl.ok
    have e2 : wOk doS doI ⟨x, atO ops i.toNat⟩ = true := wOk_t ⟨hl.ok, ha, hid⟩
    have e3 : ttK ops x i (plO ⟨ops, x, i⟩) = some (.normal, ttT ⟨ops, x.of (plO ⟨ops, x, i⟩), i + 1⟩) := by
     generalize plO ⟨ops, x, i⟩ = r at hR hR2
     have g1 := hR.w.1
     have g2 := hR.g.1
     have g3 := hl.1
     unfold ttK
     rw [wOk_t (st := caS) (I := fun x => lOk x.l) (x := x.of r) hR.g.ok, show ttAk ⟨⟨ops, x.of r, i⟩, x.l, r.out, 0⟩ = true from okG_t ⟨rfl, Int.le_refl 0, by show (0 : Int) ≤ (r.out.length : Int); omega, by show r.out.length ≤ 1000; omega, hR.o⟩,
      show ttBk ⟨⟨ops, x.of r, i⟩, x.l, 0⟩ = true from okG_t ⟨rfl, Int.le_refl 0, by show (0 : Int) ≤ (x.l.length : Int); omega, by show x.l.length ≤ 1000; omega, hR.w⟩, w64 (x := i + 1) (by omega) (by omega), dec_f (show ¬ ((r.l.length : Int) < x.l.length) by omega), dec_f (show ¬ ((r.l.length : Int) > 8) by omega)]
     rfl
    refine .inl ⟨⟨ops, x.of (plO ⟨ops, x, i⟩), i + 1⟩, ?_, ⟨by dsimp only; omega, by dsimp only; omega, by dsimp only; omega, by show ttL x.a (100 * (i + 1)) _; rw [show 100 * (i + 1) = 100 * i + 100 by omega]; exact hR.g, ha, hd⟩, by dsimp only; omega, leaf_eq rfl⟩
    rw [e1, e2, e3]
    simp (disch := omega) only [tre]
   ·refine .inr ⟨.exit 0, ttX, ?_, nofun, .leaf⟩
    simp (disch := omega) only [tre]
  ·refine .inr ⟨.exit 0, ttX, ?_, nofun, .leaf⟩
   simp (disch := omega) only [tre]
 ·refine .inr ⟨.exit 0, ttX, ?_, nofun, .leaf⟩
  simp (disch := omega) only [tre]
theorem tt_sums {P : Program} {ac c c2 c3 : AC} {ts vs ts2 vs2 ts3 vs3 : List Nat} {g g2 g3 : S → Option (Bool × Tr)} (e : ac.sums = [(c, ts, vs, g), (c2, ts2, vs2, g2), (c3, ts3, vs3, g3)]) (e' : ac.jmps = []) (h : LoopOk P c.erase vs g) (h2 : LoopOk P c2.erase vs2 g2) (h3 : LoopOk P c3.erase vs3 g3) : LoopsOk P ac :=
 .of (by
  rw [e]; intro x hx
  simp only [List.mem_cons, List.not_mem_nil, or_false] at hx
  rcases hx with rfl | rfl | rfl
  ·exact h
  ·exact h2
  ·exact h3) (by rw [e']; intro x hx; cases hx)
theorem af_ClientTotal_ok : AllOk Tryz.prog 5 af_ClientTotal := .sums Tryz.func5 (by kernel_rfl) (by kernel_rfl) (by kernel_rfl) (by kernel_rfl) (tt_sums (c := ttC) (c2 := ttAC) (c3 := ttBC) (ts := [5, 1, 2, 6]) (ts2 := [5, 1, 2, 6, 7, 9, 11, 12]) (ts3 := [5, 1, 2, 6, 7, 11, 15]) (by kernel_rfl) (by kernel_rfl) tt_loop ttA_loop ttB_loop)
def ttT0 (ops : List V) (a : List UInt8) : S := ⟨[(5, cRef), (1, .rows shOp ops), (2, .ref 1 [] 0 (.barr 16)), (6, .int .i64 0)], [(0, some (.var shCl (.agg [.bool true, .barr 16 a, .int .i64 0, .nils]))), (1, some (.var (.barr 16) (.barr 16 a)))], 2, true, 145⟩
theorem ttW0 (ops : List V) (a : List UInt8) : Weak (ttT0 ops a) (ttT ⟨ops, ⟨a, 0, []⟩, 0⟩) := by
 refine Weak.wk (id := 0) (j := 3) (T := 39) (sh := shCall) ⟨rfl, rfl, rfl, rfl, ⟨_, _, rfl, rfl, rfl, rfl⟩, rfl, fun i h1 h2 => ?_⟩
 have h2 : i ≠ 2 := h2
 have b1 : Nat.beq 0 i = false := Bool.eq_false_iff.2 fun e => h1 (Nat.eq_of_beq_eq_true e).symm
 have b2 : Nat.beq 2 i = false := Bool.eq_false_iff.2 fun e => h2 (Nat.eq_of_beq_eq_true e).symm
 simp only [ttT0, ttT, ttBx, Am.lookH, b1, b2, cond_false]
noncomputable def ttOk (ops : List V) (a : List UInt8) : Bool := okG (Weak (ttT0 ops a) (ttT ⟨ops, ⟨a, 0, []⟩, 0⟩) ∧ ttI ⟨ops, ⟨a, 0, []⟩, 0⟩)
def sh_ClientTotal : List Sh := [.barr 16, .rows (.agg [.int .i64, .barr 16, .int .i64, .int .i64, .bytes])]
theorem ClientTotal_t (a : List UInt8) (ops : List V) : callV Ecly af_ClientTotal [.barr 16 a, .rows shOp ops] = bif ttOk ops a then some (.bool true) else none := by kernel_rfl
theorem ClientTotal_v : ∀ xs, inRs 140737488351232 sh_ClientTotal xs = true → callV Ecly af_ClientTotal xs = some (.bool true) := by
 intro xs h
 obtain ⟨zx1, zl1, rfl, zh1, zr1⟩ := inRs_cons h; clear h
 obtain ⟨a, rfl, ha⟩ := inR_barr zh1; clear zh1
 obtain ⟨zx2, zl2, rfl, zh2, zr2⟩ := inRs_cons zr1; clear zr1
 obtain ⟨ops, rfl, hops, qops⟩ := inR_rows zh2; clear zh2
 obtain rfl := inRs_nil zr2; clear zr2
 refine (ClientTotal_t a ops).trans ?_
 rw [show ttOk ops a = true from okG_t ⟨ttW0 ops a, Int.le_refl 0, by show (0 : Int) ≤ (ops.length : Int); omega, by show (0 : Int) ≤ 60; omega, ⟨by simp, fun x hx => by cases hx⟩, by show a.length = 16; omega, fun v hv => opIn (qops v hv)⟩]
 rfl
end Go.Proofs.YtfhljcbbgckdiaaGreat
namespace Go.Proofs.YtfhljcbbgckdiaaGreat.clientTotal
open Go Go.ChangeShapes Go.WideShapes Go.ChangeAt Go.RowKit Go.Bas Go.Am
theorem own : ownKnob Tryz.prog.godebug = none := by kernel_rfl
theorem laidOut : laidOutB Tryz.prog = true := by kernel_rfl
set_option maxRecDepth 100000 in
set_option maxHeartbeats 4000000 in
theorem closed : joinedFacts Tryz.checked.prog 5 Tryz.f5 Rows.clientTotalSpec Rows.clientTotalRow = true := by
 unfold joinedFacts
 rw [fMay, fLift, fMake]
 refine (andB (andB (andB (andB (andB (andB (andB (andB (andB (andB (andB (andB (andB (andB (andB (andB (andB (andB (andB (andB (andB (andB (andB (andB (andB (andB (andB (andB (andB (andB ?_ ?_) ?_) ?_) ?_) ?_) ?_) ?_) ?_) ?_) ?_) ?_) ?_) ?_) ?_) ?_) ?_) ?_) ?_) ?_) ?_) ?_) ?_) ?_) ?_) ?_) ?_) ?_) ?_) ?_) ?_)
 all_goals as_aux_lemma => kernel_rfl
set_option maxRecDepth 100000 in
set_option maxHeartbeats 1000000 in
theorem lifted (os : Os) (started : os.Started) (H : Type) (enc : TypeId × Value → H) :
  ReturnsInHanded {} Tryz.checked os 5 .any (Rows.clientTotalSpec.pre6 enc Tryz.prog Tryz.f5 Rows.clientTotalRow.domain false) (Rows.clientTotalSpec.post enc Tryz.prog Tryz.f5 false true false false) := by
 refine returnsInHanded_of_change_sized (C := Tryz.checked) own started (by kernel_rfl) Tryz.func5
  (ChangeSpec.witness6 (enc := enc) (C := Tryz.checked) false ⟨#[], (Tryz.f5.params.map (zArg Tryz.prog 8)), []⟩ 8 (by kernel_rfl) (by kernel_rfl) (by kernel_rfl) (by kernel_rfl)) ?_
 intro W base args ds gs before hval0 hW hcnd hsz0 _
 have hval : ∀ (j : Nat) t v, Tryz.f5.params[j]? = some t → args[j]? = some v → Value.okWide Tryz.prog W .any base t v := hval0
 have hsz : (DataW.weightsEach Tryz.prog (Tryz.f5.params.toList ++ Rows.clientTotalSpec.plain.varTypes Tryz.prog) (ds ++ gs)).all (· ≤ reachBytes) = true := hsz0
 clear hsz0
 have hW' := hW
 obtain ⟨p, q, hA0, hV, rfl, hfz, hnd⟩ := hW
 have hA : DataW.TrodAll enc Tryz.prog W 0 (fun _ => true) true Tryz.f5.params.toList args.toList ds p := hA0
 obtain ⟨rfl, rfl⟩ := trodVars_none hV
 have hc := law_calls (E := Ecly) Ecly_ok af_ClientTotal_ok (D := 8) (shs := sh_ClientTotal) 140737488351232 hA (fun j t v h1 h2 => hval j t v (by simpa using h1) (by simpa using h2)) (by kernel_rfl) (by kernel_rfl) (weights_of rfl hsz) ClientTotal_v
 rw [Array.toArray_toList] at hc
 refine hc.mono fun e W' ⟨he, hb⟩ => ?_
 subst he
 exact ⟨_, rfl, law_post laidOut (par_of (by kernel_rfl)) rfl rfl Tryz.underlying4 (by have hl := trodAll_len hA; clear hc; match ds, hl with | [_, _], _ => rfl) hW' hb⟩
set_option maxRecDepth 100000 in
theorem proved : Rows.ClientTotalSaid :=
 OpenClaim.holds_of_wide 5 Tryz.f5 rfl rfl rfl rfl rfl rfl rfl ⟨rfl, rfl, rfl, rfl, rfl⟩ rfl rfl rfl rfl rfl (by as_aux_lemma => kernel_rfl) Tryz.func5 closed
  (of_decide_eq_true (by kernel_rfl)) (by unfold Func.isWrapper; first | (rw [if_pos (by decide +kernel)]; kernel_rfl) | (rw [if_neg (by decide +kernel)]; exact ⟨rfl, rfl⟩))
  (fun os started H enc _ => lifted os started H enc)
end Go.Proofs.YtfhljcbbgckdiaaGreat.clientTotal