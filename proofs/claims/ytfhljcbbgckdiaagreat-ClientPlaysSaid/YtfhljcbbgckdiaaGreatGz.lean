/- Part Gz of the proof: laws used by the law of this claim. -/
import Derived.Test.YtfhljcbbgckdiaaGreatGk
import Derived.Test.YtfhljcbbgckdiaaGreatGf
set_option linter.all false
namespace Go.Am
open Go Go.RowKit Go.Bas
noncomputable def okG (p : Prop) : Bool := @decide p (Classical.propDecidable p)
theorem okG_t {p : Prop} (h : p) : okG p = true := @decide_eq_true p (Classical.propDecidable p) h
theorem okG_p {p : Prop} (h : okG p = true) : p := @of_decide_eq_true p (Classical.propDecidable p) h
def lkD (s : S) (t : Nat) : V := match look s.sl t with | some v => v | none => .undef
def bkD (s : S) (i : Nat) : V := match lookH s.hp i with | some (.var _ v) => v | some (.row _ _ v) => v | some (.view v) => v | none => .undef
def aG (v : V) (j : Nat) : V := (toG v).getD j .undef
noncomputable def gX {X : Type} (get : S → X) (st : X → S) (I : X → Prop) (out : X → Tr) (s : S) : Option (Bool × Tr) := some (okG (s = st (get s) ∧ I (get s)), out (get s))
theorem Covers.refl {s : S} (h : s.ob = true) : Covers s s := ⟨rfl, rfl, h, fun _ _ h => h, fun _ _ h => h⟩
theorem loopX_ok {E : Env} (hE : EnvOk E) {d : Nat} {c : AC} (hl : LoopsOk E.P c) (f : Ex → List Nat) (vs : List Nat) {X : Type} (get : S → X) (st : X → S) (out : X → Tr) (I : X → Prop) (m : X → Nat) (hob : ∀ x, (st x).ob = true)
  (hb : ∀ x, I x → (∃ x', aev E (inlN E d) c (bodyF f vs) (st x) = some (.normal, st x') ∧ I x' ∧ m x' < m x ∧ (∀ e s, Leaf (out x') e s → Leaf (out x) e s)) ∨
   (∃ e s', aev E (inlN E d) c (bodyF f vs) (st x) = some (e, s') ∧ e ≠ .normal ∧ Leaf (out x) e s')) :
  LoopOk E.P c.erase vs (gX get st I out) := by
 refine loopF_ok hE hl f vs _ st out I m (fun s t h => ?_) hb
 injection h with h; injection h with h ht
 obtain ⟨h1, h2⟩ := okG_p h
 exact ⟨get s, by rw [← h1]; exact .refl (by rw [h1]; exact hob _), h2, ht.symm⟩
theorem slots_inj : ∀ {ys bs : List V} {i : Nat}, slots i ys = slots i bs → ys = bs
 | [], [], _, _ => rfl
 | [], _ :: _, _, h => by cases h
 | _ :: _, [], _, h => by cases h
 | a :: ys, b :: bs, i, h => by
  simp only [slots] at h
  injection h with h1 h2
  injection h1 with _ h1
  rw [h1, slots_inj h2]
def nlV (id : Nat) (sh : Sh) : V → V
 | .nils => .own id 0 sh
 | v => v
def nlT (id : Nat) (sh : Sh) : V → V
 | .tup l => .tup (l.map (nlV id sh))
 | v => nlV id sh v
section
variable {ι ι' : Nat → Option Cn} {O : Nat → Prop} {w0 : Zone} {w : World} {s : S} {a : Act}
theorem nlV_rep {X Y : Nat → Prop} {id : Nat} {T : TypeId} {sh : Sh} (he : Ext ι ι' X Y w w) (hi : ι' id = some (.row none 0 0 T sh)) {v : V} {c : Value} (h : VRep ι X w v c) : VRep ι' Y w (nlV id sh v) c := by
 by_cases hv : v = .nils
 ·subst hv
  cases h.nils_inv
  exact .one (.own hi (fun h => absurd h (by omega)) (by omega)) rfl
 ·have e : nlV id sh v = v := by cases v <;> first | rfl | exact absurd rfl hv
  rw [e]; exact h.ext he
theorem nlVs_rep {X Y : Nat → Prop} {id : Nat} {T : TypeId} {sh : Sh} (he : Ext ι ι' X Y w w) (hi : ι' id = some (.row none 0 0 T sh)) : ∀ {l : List V} {cs : List Value}, VReps ι X w l cs → VReps ι' Y w (l.map (nlV id sh)) cs
 | [], _, h => by cases h; exact .nil
 | v :: l, _, h => by cases h with | cons p q => exact .cons (nlV_rep he hi p) (nlVs_rep he hi q)
theorem nlT_rep {X Y : Nat → Prop} {id : Nat} {T : TypeId} {sh : Sh} (he : Ext ι ι' X Y w w) (hi : ι' id = some (.row none 0 0 T sh)) {v : V} {c : Value} (h : VRep ι X w v c) : VRep ι' Y w (nlT id sh v) c := by
 cases v with
 | tup l =>
  obtain ⟨cs, rfl, hq⟩ := h.tup_inv
  exact .tup (nlVs_rep he hi hq)
 | _ => exact nlV_rep he hi h
theorem MSim.empty (h : MSim ι O w0 s w) (T : TypeId) (sh : Sh) : MSim (updI ι s.nx (.row none 0 0 T sh)) O w0 { s with hp := (s.nx, some (.row T sh (.rows sh []))) :: s.hp, nx := s.nx + 1 } w ∧
  Ext ι (updI ι s.nx (.row none 0 0 T sh)) (XS ι O s) (XS (updI ι s.nx (.row none 0 0 T sh)) O { s with hp := (s.nx, some (.row T sh (.rows sh []))) :: s.hp, nx := s.nx + 1 }) w w := by
 have hn := h.fresh s.nx (Nat.le_refl _)
 obtain ⟨a1, a2, a3⟩ := h.mem.newRow (w' := w) (nid := s.nx) hn [] T sh (.rows sh []) (A := none) (n := 0) (c := 0) (ds := []) ⟨rfl, rfl, rfl, Nat.le_refl _, fun _ _ => rfl⟩ (fun _ _ _ => rfl) (fun a ha => by cases ha) (World.ownsRow_nil w _ _ _)
 have e : lookH ((s.nx, some (.row T sh (.rows sh []))) :: s.hp) = updH ([].map (fun i => (i, none)) ++ [(s.nx, some (.row T sh (.rows sh [])))]) (lookH s.hp) := lookH_append [(s.nx, some (.row T sh (.rows sh [])))] s.hp
 refine ⟨⟨?_, fun id hid => ?_⟩, ?_⟩
 ·show HSim _ O w0 (lookH ((s.nx, some (.row T sh (.rows sh []))) :: s.hp)) w
  rw [e]
  exact a3 (.rows (by simp) .nil)
 ·have hid : s.nx + 1 ≤ id := hid
  unfold updI
  rw [if_neg (by omega)]
  exact h.fresh id (by omega)
 ·unfold XS
  show Ext _ _ _ (Ex1 _ (lookH ((s.nx, some (.row T sh (.rows sh []))) :: s.hp)) O) w w
  rw [e]
  exact a1
def retB (T : TypeId) (sh : Sh) (us : List V) (vs : List Nat) (v : V) (s : S) : Option S :=
 match Am.norm (List.range' 1 us.length ++ [0]) ⟨slots 1 us ++ [(0, nlT s.nx sh v)], (s.nx, some (.row T sh (.rows sh []))) :: s.hp, s.nx + 1, s.ob, us.length + 1⟩ with
 | some (L, s3) => bif fixOk L vs then some s3 else none
 | none => none
theorem keepS_mem {s : S} : ∀ {ts : List Nat} {l : List (Nat × V)} {t : Nat}, keepS s ts = some l → t ∈ ts → ∃ v, look l t = some v
 | [], _, _, _, h => by cases h
 | x :: r, l, t, hk, hm => by
  simp only [keepS] at hk
  split at hk
  ·rename_i v hv
   split at hk
   ·rename_i l' hl'
    injection hk with hk; subst hk
    simp only [look]
    cases hq : Nat.beq x t with
    | true => exact ⟨v, rfl⟩
    | false =>
     simp only [cond_false]
     refine keepS_mem hl' ?_
     rcases List.mem_cons.1 hm with e | e
     ·subst e; simp at hq
     ·exact e
   ·cases hk
  ·cases hk
theorem renS_mem {ρ : Nat → Option Nat} : ∀ {l l' : List (Nat × V)} {t : Nat}, renS ρ l = some l' → (∃ v, look l t = some v) → ∃ v, look l' t = some v
 | [], _, _, _, ⟨v, h⟩ => by cases h
 | (x, y) :: r, l', t, hr, ⟨v, h⟩ => by
  simp only [renS] at hr
  split at hr
  ·rename_i y' hy
   split at hr
   ·rename_i r' hr'
    injection hr with hr; subst hr
    simp only [look] at h ⊢
    cases hq : Nat.beq x t with
    | true => exact ⟨y', rfl⟩
    | false =>
     rw [hq] at h
     simp only [cond_false] at h ⊢
     exact renS_mem hr' ⟨v, h⟩
   ·cases hr
  ·cases hr
theorem norm_mem {s s3 : S} {ts L : List Nat} {t : Nat} (hn : Am.norm ts s = some (L, s3)) (ht : t ∈ ts) : ∃ u, look s3.sl t = some u := by
 unfold Am.norm at hn
 split at hn
 ·rename_i l hl
  simp only at hn
  split at hn
  ·rename_i sl hsl
   split at hn
   ·injection hn with hn; injection hn with e1 e2; subst e1; subst e2
    exact renS_mem hsl (keepS_mem hl ht)
   ·cases hn
  ·cases hn
 ·cases hn
theorem look_app0 {us : List V} {v x : V} {t : Nat} (h : look (slots 1 us ++ [(0, v)]) t = some x) : look (slots 0 (v :: us)) t = some x := by
 have app : ∀ (l m : List (Nat × V)), look (l ++ m) t = (match look l t with | some y => some y | none => look m t) := by
  intro l m
  induction l with
  | nil => rfl
  | cons p l ih =>
   obtain ⟨a, b⟩ := p
   simp only [List.cons_append, look]
   cases Nat.beq a t with
   | true => rfl
   | false => simp only [cond_false]; exact ih
 rw [app] at h
 simp only [slots, look]
 cases hq : Nat.beq 0 t with
 | true =>
  have e := Nat.eq_of_beq_eq_true hq
  subst e
  have none0 : ∀ (l : List V) (i : Nat), 0 < i → look (slots i l) 0 = none := by
   intro l
   induction l with
   | nil => intro i _; rfl
   | cons y l ih =>
    intro i hi
    have hb : Nat.beq i 0 = false := Bool.eq_false_iff.2 fun e => by have := Nat.eq_of_beq_eq_true e; omega
    simp only [slots, look, hb, cond_false]
    exact ih (i + 1) (by omega)
  rw [none0 us 1 (by omega)] at h
  exact h
 | false =>
  simp only [cond_false]
  split at h
  ·rename_i y hy
   exact hy.trans h
  ·simp only [look, hq, cond_false] at h
   cases h
theorem refB_ok {E : Env} (hE : EnvOk E) {f : FuncId} {af : AF} (haf : AfOk E.P f af) (T : TypeId) (sh : Sh) (vs : List Nat) (F : S → Option (Bool × Tr)) (hF : ∀ s1 t, F s1 = some (true, t) → ∀ us, s1.sl = slots 0 us → ∃ s3, inlN E 6 af us s1 (retB T sh us vs) = some s3 ∧ ∃ ex, Leaf t ex s3) : RefOk E.P f vs F := by
 intro s1 t h ι O w0 w us cs hsl hob hm hv
 obtain ⟨s3, h1, ex, hlf⟩ := hF s1 t h us hsl
 refine (inlN_ok hE 6 f af haf us s1 _ _ h1 ι O w0 w cs hm hob hv).mono ?_
 rintro e w' ⟨c, v', s'', ι', rfl, hk, hob', q1, q2, q3⟩
 unfold retB at hk
 split at hk
 case h_2 => cases hk
 rename_i L s4 h2
 obtain ⟨h3, hk⟩ := ofBif hk
 injection hk with hk; subst hk
 obtain ⟨p1, p2⟩ := q1.empty T sh
 have hva := VReps.cons (nlT_rep p2 updI_self q3) ((hv.ext q2).ext p2)
 have hsim := Sim.start (n := (nlT s''.nx sh v' :: us).length) p1 hva (Nat.le_refl _)
 have hcov : Covers { { s'' with hp := (s''.nx, some (.row T sh (.rows sh []))) :: s''.hp, nx := s''.nx + 1 } with sl := slots 0 (nlT s''.nx sh v' :: us), n := (nlT s''.nx sh v' :: us).length } ⟨slots 1 us ++ [(0, nlT s''.nx sh v')], (s''.nx, some (.row T sh (.rows sh []))) :: s''.hp, s''.nx + 1, s''.ob, us.length + 1⟩ :=
  ⟨rfl, rfl, hob', fun t x hx => look_app0 hx, fun _ _ h => h⟩
 obtain ⟨hsim2, hx2⟩ := hsim.cover hcov
 obtain ⟨v, hv0⟩ := norm_mem h2 (t := 0) (by simp)
 obtain ⟨ι4, r1, r2, r3⟩ := hsim2.norm h2 h3
 have hmem : MSim ι4 O w0 s4 w' := ⟨r1.mem, r1.fresh⟩
 have q := (r1.slots 0 v hv0).2
 have e : ((c :: cs).toArray ++ Array.replicate ((nlT s''.nx sh v' :: us).length - (c :: cs).toArray.size) Go.undef).getD 0 Go.undef = c := by simp [Array.getD]
 rw [show ({ tmps := (c :: cs).toArray ++ Array.replicate ((nlT s''.nx sh v' :: us).length - (c :: cs).toArray.size) Go.undef, defers := [] } : Act).tmps.getD 0 Go.undef = c from e] at q
 exact ⟨ex, s4, c, v, ι4, hlf, rfl, hv0, hmem, (((q2.part _).trans (p2.part _)).trans (hx2.part _)).trans r2, q⟩
theorem refXB_ok {E : Env} (hE : EnvOk E) {f : FuncId} {af : AF} (haf : AfOk E.P f af) (T : TypeId) (sh : Sh) (vs : List Nat) {X : Type} (get : S → X) (st : X → S) (I : X → Prop) (out : X → Tr) (args : X → List V) (hsl : ∀ x, (st x).sl = slots 0 (args x))
  (hb : ∀ x, I x → ∃ s3, inlN E 6 af (args x) (st x) (retB T sh (args x) vs) = some s3 ∧ ∃ ex, Leaf (out x) ex s3) : RefOk E.P f vs (gX get st I out) := by
 refine refB_ok hE haf T sh vs _ (fun s1 t h ys has => ?_)
 injection h with h; injection h with h ht
 obtain ⟨h1, h2⟩ := okG_p h
 subst ht
 have e : ys = args (get s1) := by
  have h3 := hsl (get s1)
  rw [← h1, has] at h3
  exact slots_inj h3
 subst e
 obtain ⟨s3, q1, q2⟩ := hb (get s1) h2
 rw [← h1] at q1
 exact ⟨s3, q1, q2⟩
end
end Go.Am
namespace Go.Am
open Go Go.RowKit Go.Bas
structure Wk (id j : Nat) (T : TypeId) (sh : Sh) (s s' : S) : Prop where
 n : s'.n = s.n
 sl : s'.sl = s.sl
 ob : s'.ob = s.ob
 nx : s'.nx = s.nx + 1
 var : ∃ ss l, lookH s.hp id = some (.var (.agg ss) (.agg l)) ∧ nthL ss j = some (.rows sh) ∧ nthL l j = some .nils ∧ lookH s'.hp id = some (.var (.agg ss) (.agg (setL l j (.own s.nx 0 sh))))
 row : lookH s'.hp s.nx = some (.row T sh (.rows sh []))
 rest : ∀ i, i ≠ id → i ≠ s.nx → lookH s'.hp i = lookH s.hp i
section
variable {ι ι' : Nat → Option Cn} {O : Nat → Prop} {w0 : Zone} {w : World} {s s' : S} {a : Act}
theorem MSim.wk {id j : Nat} {T : TypeId} {sh : Sh} (h : MSim ι O w0 s w) (hw : Wk id j T sh s s') : MSim (updI ι s.nx (.row none 0 0 T sh)) O w0 s' w ∧ Ext ι (updI ι s.nx (.row none 0 0 T sh)) (XS ι O s) (XS (updI ι s.nx (.row none 0 0 T sh)) O s') w w := by
 obtain ⟨p1, p2⟩ := h.empty T sh
 obtain ⟨ss, l, v1, v2, v3, v4⟩ := hw.var
 have hne : id ≠ s.nx := by
  intro e
  obtain ⟨c, hc⟩ := h.mem.known v1
  rw [e, h.fresh s.nx (Nat.le_refl _)] at hc
  cases hc
 have e1 : ∀ i, lookH ((s.nx, some (.row T sh (.rows sh []))) :: s.hp) i = if s.nx = i then some (.row T sh (.rows sh [])) else lookH s.hp i := by
  intro i
  simp only [lookH]
  by_cases hq : s.nx = i
  ·subst hq; simp
  ·rw [if_neg hq, show Nat.beq s.nx i = false from Bool.eq_false_iff.2 fun e => hq (Nat.eq_of_beq_eq_true e)]
   rfl
 generalize hhp1 : lookH ((s.nx, some (.row T sh (.rows sh []))) :: s.hp) = hp1 at *
 have p1m : HSim (updI ι s.nx (.row none 0 0 T sh)) O w0 hp1 w := by rw [← hhp1]; exact p1.mem
 have p2m : Ext ι (updI ι s.nx (.row none 0 0 T sh)) (XS ι O s) (Ex1 (updI ι s.nx (.row none 0 0 T sh)) hp1 O) w w := by rw [← hhp1]; exact p2
 have hf1 := p1.fresh
 clear p1 p2
 generalize hι : updI ι s.nx (.row none 0 0 T sh) = ι1 at *
 have hself : ι1 s.nx = some (.row none 0 0 T sh) := by rw [← hι]; exact updI_self
 have e2 : ∀ i, lookH s'.hp i = if i = id then some (.var (.agg ss) (.agg (setL l j (.own s.nx 0 sh)))) else hp1 i := by
  intro i
  by_cases hi : i = id
  ·rw [if_pos hi, hi]; exact v4
  ·rw [if_neg hi, e1]
   by_cases hn : s.nx = i
   ·rw [if_pos hn, ← hn]; exact hw.row
   ·rw [if_neg hn]; exact hw.rest i hi (Ne.symm hn)
 have old : hp1 id = some (.var (.agg ss) (.agg l)) := by rw [e1, if_neg (Ne.symm hne)]; exact v1
 have mine : ∀ i b, Mine ι1 (lookH s'.hp) i b → Mine ι1 hp1 i b := by
  rintro i b ⟨k, c, h1, h2, h3, h4⟩
  rw [e2] at h1
  by_cases hi : i = id
  ·subst hi
   exact ⟨_, c, old, rfl, h3, h4⟩
  ·rw [if_neg hi] at h1
   exact ⟨k, c, h1, h2, h3, h4⟩
 have he : Ext ι1 ι1 (Ex1 ι1 hp1 O) (Ex1 ι1 (lookH s'.hp) O) w w := Ext.mk (Nat.le_refl _) (fun _ _ e => e) (fun _ _ _ => rfl) (fun b hb => .inl (hb.imp (fun h => h) fun ⟨i, hm⟩ => ⟨i, mine i b hm⟩))
 refine ⟨⟨p1m.upd (fun _ => False) he ⟨rfl, rfl, rfl, Nat.le_refl _, fun _ _ => rfl⟩ (fun _ _ _ => rfl) (fun i k hk => ?_) (fun i i' b h1 h2 => p1m.one i i' b (mine i b h1) (mine i' b h2)) (fun i b hm => p1m.fresh i b (mine i b hm)), fun i hi => hf1 i (by rw [hw.nx] at hi; exact hi)⟩, p2m.trans he⟩
 rw [e2] at hk
 by_cases hi : i = id
 ·subst hi
  rw [if_pos rfl] at hk
  injection hk with hk; subst hk
  cases p1m.blk i _ old with
  | var hi hs hg hr =>
   cases hr with
   | agg hr =>
    obtain ⟨pre, cs, post, rfl, hc, hset⟩ := hr.nth v3
    cases hc
    have hown : CRep ι1 (Ex1 ι1 hp1 O) w (.own s.nx 0 sh) [.slice none 0 0] := .own hself (fun h => absurd h (by omega)) (by omega)
    exact .inr (.var hi (by simp only [isSh] at hs ⊢; exact isShs_set hs v2 (by simp [isSh, Sh.beq_self])) hg ((CRep.agg (hset _ _ hown)).ext he))
 ·rw [if_neg hi] at hk
  exact .inl ⟨hk, fun _ _ h => h⟩
theorem Sim.wk {id j : Nat} {T : TypeId} {sh : Sh} (h : Sim ι O w0 s a w) (hw : Wk id j T sh s s') : Sim (updI ι s.nx (.row none 0 0 T sh)) O w0 s' a w ∧ Ext ι (updI ι s.nx (.row none 0 0 T sh)) (XS ι O s) (XS (updI ι s.nx (.row none 0 0 T sh)) O s') w w := by
 obtain ⟨p1, p2⟩ := h.toMSim.wk hw
 refine ⟨⟨p1, by rw [hw.n]; exact h.size, fun t v hv => ?_, h.defers⟩, p2⟩
 rw [hw.sl] at hv
 obtain ⟨h1, h2⟩ := h.slots t v hv
 exact ⟨by rw [hw.n]; exact h1, h2.ext p2⟩
noncomputable def gW (id j : Nat) (T : TypeId) (sh : Sh) {X : Type} (get : S → X) (st : X → S) (I : X → Prop) (out : X → Tr) (s : S) : Option (Bool × Tr) := some (okG ((s = st (get s) ∨ Wk id j T sh s (st (get s))) ∧ I (get s)), out (get s))
theorem gW_cases {id j : Nat} {T : TypeId} {sh : Sh} {X : Type} {get : S → X} {st : X → S} {I : X → Prop} {out : X → Tr} (hgs : ∀ x, I x → get (st x) = x) {t : Tr} (h : gW id j T sh get st I out s = some (true, t)) :
  gX get st I out s = some (true, t) ∨ ∃ s', Wk id j T sh s s' ∧ gX get st I out s' = some (true, t) := by
 injection h with h; injection h with h ht
 obtain ⟨h1, h2⟩ := okG_p h
 rcases h1 with h1 | h1
 ·left
  unfold gX
  rw [okG_t ⟨h1, h2⟩, ht]
 ·refine .inr ⟨st (get s), h1, ?_⟩
  unfold gX
  rw [hgs _ h2, okG_t ⟨rfl, h2⟩, ht]
theorem refW {P : Program} {f : FuncId} {vs : List Nat} {id j : Nat} {T : TypeId} {sh : Sh} {X : Type} {get : S → X} {st : X → S} {I : X → Prop} {out : X → Tr} (hgs : ∀ x, I x → get (st x) = x) (h : RefOk P f vs (gX get st I out)) : RefOk P f vs (gW id j T sh get st I out) := by
 intro s t hg ι O w0 w us cs hsl hob hm hv
 rcases gW_cases hgs hg with hg | ⟨s', hw, hg⟩
 ·exact h s t hg ι O w0 w us cs hsl hob hm hv
 ·obtain ⟨p1, p2⟩ := hm.wk hw
  refine (h s' t hg _ O w0 w us cs (by rw [hw.sl]; exact hsl) (by rw [hw.ob]; exact hob) p1 (hv.ext p2)).mono ?_
  rintro e w' ⟨ex, s2, c, v, ι', h1, h2, h3, h4, h5, h6⟩
  exact ⟨ex, s2, c, v, ι', h1, h2, h3, h4, (p2.part _).trans h5, h6⟩
end
end Go.Am
namespace Go.Am
open Go Go.RowKit Go.Bas
def Weak (s s' : S) : Prop := ∀ (ι : Nat → Option Cn) (O : Nat → Prop) (w0 : Zone) (a : Act) (w : World), Sim ι O w0 s a w → ∃ ι', Sim ι' O w0 s' a w ∧ Ext ι ι' (XS ι O s) (XS ι' O s') w w
theorem Weak.refl (s : S) : Weak s s := fun ι _ _ _ _ h => ⟨ι, h, Ext.refl⟩
theorem Weak.trans {s s' s'' : S} (h : Weak s s') (k : Weak s' s'') : Weak s s'' := fun ι O w0 a w hs => by
 obtain ⟨ι1, h1, h2⟩ := h ι O w0 a w hs
 obtain ⟨ι2, k1, k2⟩ := k ι1 O w0 a w h1
 exact ⟨ι2, k1, h2.trans k2⟩
theorem Weak.wk {id j : Nat} {T : TypeId} {sh : Sh} {s s' : S} (h : Wk id j T sh s s') : Weak s s' := fun _ _ _ _ _ hs => ⟨_, (hs.wk h).1, (hs.wk h).2⟩
theorem Weak.cover {s s' : S} (h : Covers s s') : Weak s s' := fun ι _ _ _ _ hs => ⟨ι, (hs.cover h).1, (hs.cover h).2⟩
structure WkS (t : Nat) (T : TypeId) (sh : Sh) (s s' : S) : Prop where
 n : s'.n = s.n
 nx : s'.nx = s.nx + 1
 at0 : look s.sl t = some .nils
 at1 : look s'.sl t = some (.own s.nx 0 sh)
 sl : ∀ u, u ≠ t → look s'.sl u = look s.sl u
 row : lookH s'.hp s.nx = some (.row T sh (.rows sh []))
 rest : ∀ i, i ≠ s.nx → lookH s'.hp i = lookH s.hp i
theorem Weak.slot {t : Nat} {T : TypeId} {sh : Sh} {s s' : S} (h : WkS t T sh s s') : Weak s s' := by
 intro ι O w0 a w hs
 obtain ⟨p1, p2⟩ := hs.toMSim.empty T sh
 have e : lookH s'.hp = lookH ((s.nx, some (.row T sh (.rows sh []))) :: s.hp) := by
  funext i
  simp only [lookH]
  by_cases hq : s.nx = i
  ·subst hq
   rw [show Nat.beq s.nx s.nx = true by simp]
   exact h.row
  ·rw [show Nat.beq s.nx i = false from Bool.eq_false_iff.2 fun e => hq (Nat.eq_of_beq_eq_true e)]
   exact h.rest i (Ne.symm hq)
 have hX : XS (updI ι s.nx (.row none 0 0 T sh)) O s' = XS (updI ι s.nx (.row none 0 0 T sh)) O { s with hp := (s.nx, some (.row T sh (.rows sh []))) :: s.hp, nx := s.nx + 1 } := by
  unfold XS
  rw [e]
 refine ⟨updI ι s.nx (.row none 0 0 T sh), ⟨⟨?_, fun id hid => p1.fresh id (by rw [h.nx] at hid; exact hid)⟩, by rw [h.n]; exact hs.size, fun u v hv => ?_, hs.defers⟩, ?_⟩
 ·rw [e]; exact p1.mem
 ·rw [hX, h.n]
  by_cases hu : u = t
  ·subst hu
   rw [h.at1] at hv
   injection hv with hv; subst hv
   obtain ⟨q1, q2⟩ := hs.slots u _ h.at0
   refine ⟨q1, ?_⟩
   have := nlV_rep p2 updI_self q2 (T := T) (sh := sh)
   exact this
  ·rw [h.sl u hu] at hv
   obtain ⟨q1, q2⟩ := hs.slots u v hv
   exact ⟨q1, q2.ext p2⟩
 ·rw [hX]; exact p2
structure WkR (id j : Nat) (sh : Sh) (s s' : S) : Prop where
 n : s'.n = s.n
 sl : s'.sl = s.sl
 nx : s'.nx = s.nx
 var : ∃ ss l, lookH s.hp id = some (.var (.agg ss) (.agg l)) ∧ nthL ss j = some (.rows sh) ∧ nthL l j = some .nils ∧ lookH s'.hp id = some (.var (.agg ss) (.agg (setL l j (.rows sh []))))
 rest : ∀ i, i ≠ id → lookH s'.hp i = lookH s.hp i
theorem Weak.rows {id j : Nat} {sh : Sh} {s s' : S} (hw : WkR id j sh s s') : Weak s s' := by
 intro ι O w0 a w hs
 obtain ⟨ss, l, v1, v2, v3, v4⟩ := hw.var
 have e2 : ∀ i, lookH s'.hp i = if i = id then some (.var (.agg ss) (.agg (setL l j (.rows sh [])))) else lookH s.hp i := by
  intro i
  by_cases hi : i = id
  ·rw [if_pos hi, hi]; exact v4
  ·rw [if_neg hi]; exact hw.rest i hi
 have mine : ∀ i b, Mine ι (lookH s'.hp) i b → Mine ι (lookH s.hp) i b := by
  rintro i b ⟨k, c, h1, h2, h3, h4⟩
  rw [e2] at h1
  by_cases hi : i = id
  ·subst hi
   exact ⟨_, c, v1, rfl, h3, h4⟩
  ·rw [if_neg hi] at h1
   exact ⟨k, c, h1, h2, h3, h4⟩
 have he : Ext ι ι (XS ι O s) (XS ι O s') w w := Ext.mk (Nat.le_refl _) (fun _ _ e => e) (fun _ _ _ => rfl) (fun b hb => .inl (hb.imp (fun h => h) fun ⟨i, hm⟩ => ⟨i, mine i b hm⟩))
 refine ⟨ι, ⟨⟨hs.mem.upd (fun _ => False) he ⟨rfl, rfl, rfl, Nat.le_refl _, fun _ _ => rfl⟩ (fun _ _ _ => rfl) (fun i k hk => ?_) (fun i i' b h1 h2 => hs.mem.one i i' b (mine i b h1) (mine i' b h2)) (fun i b hm => hs.mem.fresh i b (mine i b hm)), fun i hi => hs.fresh i (by rw [hw.nx] at hi; exact hi)⟩, by rw [hw.n]; exact hs.size, fun u v hv => ?_, hs.defers⟩, he⟩
 ·rw [e2] at hk
  by_cases hi : i = id
  ·subst hi
   rw [if_pos rfl] at hk
   injection hk with hk; subst hk
   cases hs.mem.blk i _ v1 with
   | var hi hsh hg hr =>
    cases hr with
    | agg hr =>
     obtain ⟨pre, cs, post, rfl, hc, hset⟩ := hr.nth v3
     cases hc
     have hown : CRep ι (Ex1 ι (lookH s.hp) O) w (.rows sh []) [.slice none 0 0] := .rows (ds := []) rfl (Nat.le_refl _) (by omega) (by simp) .nil fun h => absurd rfl h
     exact .inr (.var hi (by simp only [isSh] at hsh ⊢; exact isShs_set hsh v2 (by simp [isSh, Sh.beq_self])) hg ((CRep.agg (hset _ _ hown)).ext he))
  ·rw [if_neg hi] at hk
   exact .inl ⟨hk, fun _ _ h => h⟩
 ·rw [hw.sl] at hv
  obtain ⟨h1, h2⟩ := hs.slots u v hv
  exact ⟨by rw [hw.n]; exact h1, h2.ext he⟩
noncomputable def gK {X : Type} (get : S → X) (st : X → S) (I : X → Prop) (out : X → Tr) (s : S) : Option (Bool × Tr) := some (okG (Weak s (st (get s)) ∧ I (get s)), out (get s))
theorem loopK {P : Program} {c : Code} {vs : List Nat} {X : Type} {get : S → X} {st : X → S} {I : X → Prop} {out : X → Tr} (hob : ∀ x, (st x).ob = true) (hgs : ∀ x, I x → get (st x) = x) (h : LoopOk P c vs (gX get st I out)) : LoopOk P c vs (gK get st I out) := by
 intro s t hg ι O w0 a w hs _
 injection hg with hg; injection hg with hg ht
 obtain ⟨h1, h2⟩ := okG_p hg
 obtain ⟨ι', p1, p2⟩ := h1 ι O w0 a w hs
 have hX : gX get st I out (st (get s)) = some (true, t) := by
  unfold gX
  rw [hgs _ h2, okG_t ⟨rfl, h2⟩, ht]
 refine Code.wp_mono ?_ (h _ t hX ι' O w0 a w p1 (hob _))
 rintro e a' w' ⟨e', s2, h1, h2, ι2, h3, h4⟩
 exact ⟨e', s2, h1, h2, ι2, h3, (p2.part _).trans h4⟩
mutual
def isI0 : V → Bool
 | .int _ _ | .bool _ | .barr _ _ | .nils => true
 | .agg l => isI0s l
 | _ => false
def isI0s : List V → Bool
 | [] => true
 | v :: l => isI0 v && isI0s l
end
section
variable {ι ι' : Nat → Option Cn} {X Y : Nat → Prop} {w : World}
mutual
theorem isI0_rep : ∀ (v : V) {cs : List Value}, isI0 v = true → CRep ι X w v cs → CRep ι' Y w v cs ∧ True
 | .int k n, cs, _, h => by cases h with | int h => exact ⟨.int h, trivial⟩
 | .bool b, cs, _, h => by cases h; exact ⟨.bool, trivial⟩
 | .barr n l, cs, _, h => by cases h with | barr h => exact ⟨.barr h, trivial⟩
 | .nils, cs, _, h => by cases h; exact ⟨.nils, trivial⟩
 | .agg l, cs, hi, h => by cases h with | agg h => exact ⟨.agg (isI0s_rep l hi h).1, trivial⟩
theorem isI0s_rep : ∀ (v : List V) {cs : List Value}, isI0s v = true → CReps ι X w v cs → CReps ι' Y w v cs ∧ True
 | [], cs, _, h => by cases h; exact ⟨.nil, trivial⟩
 | v :: l, cs, hi, h => by
  have hi := (Bool.and_eq_true _ _).mp hi
  cases h with | cons p q => exact ⟨.cons (isI0_rep v hi.1 p).1 (isI0s_rep l hi.2 q).1, trivial⟩
end
end
def newOf (P : Program) (af : AF) (s : S) : Option (Sh × V) :=
 match resV P s af.results with
 | some [.ref id [] 0 sh] => match lookH s.hp id with
  | some (.var sh' v) => bif Sh.beq sh sh' && isI0 v then some (sh, v) else none
  | _ => none
 | _ => none
def callN (E : Env) (af : AF) (vs : List V) : Option (Sh × V) :=
 bif Nat.ble vs.length af.n then aev E (inlN E 6) af.ac (fun e s => match e with
  | .normal | .ret => newOf E.P af s
  | _ => none) ⟨slots 0 vs, [], 0, true, af.n⟩ else none
theorem callN_ok {E : Env} (hE : EnvOk E) {f : FuncId} {af : AF} (haf : AfOk E.P f af) {vs : List V} {sh : Sh} {v : V} (T : TypeId) (h : callN E af vs = some (sh, v)) : SpecV E.P f vs (.ownv T (.vref sh v)) := by
 intro O w cs hO hv
 have hgd := hO.good
 obtain ⟨hn, hx⟩ := ofBif h
 obtain ⟨fn, h1, h2, h3, h4⟩ := haf.code
 have hle : vs.length ≤ af.n := Nat.le_of_ble_eq_true hn
 have hnone : ∀ {X : Nat → Prop}, Ex1 no (lookH []) X = X := by
  intro X
  funext b
  apply propext
  exact ⟨fun h => h.elim id fun ⟨_, _, _, h, _⟩ => (by cases h), .inl⟩
 have hm : MSim no O (allOf w hgd) ⟨[], [], 0, true, 0⟩ w := by
  refine ⟨⟨Keeps.refl _ _, fun _ h => h, hO.lt, fun id k hk => (by cases hk), fun id id' b h => ?_, fun id b h => ?_⟩, fun _ _ => rfl⟩
  ·obtain ⟨_, _, h, _⟩ := h; cases h
  ·obtain ⟨_, _, h, _⟩ := h; cases h
 have hv' : VReps no (XS no O ⟨[], [], 0, true, 0⟩) w vs cs := by unfold XS; rw [hnone]; exact hv
 have hs := Sim.start (n := af.n) hm hv' hle
 refine calls_of_wp h1 h2 ?_
 rw [h4]
 refine Code.wp_mono ?_ (aev_ok hE (inlN_ok hE 6) af.ac _ _ (sh, v) haf.loops hx no O (allOf w hgd) _ w hs rfl)
 rintro e a' w' ⟨e', s', rfl, hk, hob', ι', q1, q2⟩
 have fin : newOf E.P af s' = some (sh, v) → bodyPost E.P fn (fun e w' => Below w.heap.size w w' ∧ ∃ c, e = .returned c ∧ OutRep O w w' (.ownv T (.vref sh v)) c) .ret a' w' := by
  intro hk
  unfold newOf at hk
  split at hk
  ·rename_i id sh0 hres
   split at hk
   ·rename_i sh' u hz
    obtain ⟨hc, hk⟩ := ofBif hk
    injection hk with hk; injection hk with e1 e2; subst e1; subst e2
    obtain ⟨hc1, hc2⟩ := (Bool.and_eq_true _ _).mp hc
    have := Sh.beq_eq hc1
    subst this
    rw [← h3] at hres
    obtain ⟨cs', r1, r2⟩ := results_ok hres q1
    obtain ⟨c, rfl, r3⟩ := r1.one_inv
    cases r3 with
    | one a b =>
     cases a with
     | ref hr =>
      rename_i g
      cases q1.mem.blk id _ hz with
      | var b1 b2 b3 b4 =>
       rcases hr with ⟨s0, k1, _⟩ | ⟨_, _, _, _, _, _, k1⟩
       ·rw [b1] at k1
        injection k1 with k1; injection k1 with k1 k2
        subst k1
        have hmine : Mine ι' (lookH s'.hp) id _ := ⟨_, _, hz, rfl, b1, rfl⟩
        have hfr := (q1.mem.fresh id _ hmine).1
        exact ⟨q1.defers, _, r2, q1.mem.below.below, _, rfl, .new b2 (fun Y => (isI0_rep _ hc2 b4).1) b3 (Nat.le_of_not_lt hfr)⟩
       ·exact absurd rfl k1
    | agg a b => cases b
   ·cases hk
  ·cases hk
 cases e' with
 | normal => exact fin hk
 | ret => exact fin hk
 | exit id => cases hk
 | goto l => cases hk
 | pan ch => cases hk
end Go.Am
namespace Go.Am
open Go Go.RowKit Go.Bas
theorem refXE_ok {P : Program} {f : FuncId} (T : TypeId) (sh : Sh) (vs : List Nat) {X : Type} (get : S → X) (st : X → S) (I : X → Prop) (out : X → Tr) (args : X → List V) (hsl : ∀ x, (st x).sl = slots 0 (args x))
  (hb : ∀ x, I x → ∃ E af, EnvOk E ∧ E.P = P ∧ AfOk P f af ∧ ∃ s3, inlN E 6 af (args x) (st x) (retB T sh (args x) vs) = some s3 ∧ ∃ ex, Leaf (out x) ex s3) : RefOk P f vs (gX get st I out) := by
 intro s1 t h
 have h0 := h
 injection h with h; injection h with h ht
 obtain ⟨h1, h2⟩ := okG_p h
 obtain ⟨E, af, hE, rfl, haf, s3, q1, q2⟩ := hb (get s1) h2
 refine refB_ok hE haf T sh vs (fun s => bif okG (s = s1) then gX get st I out s else none) (fun s t' hF us has => ?_) s1 t (by show (bif okG (s1 = s1) then gX get st I out s1 else none) = _; rw [okG_t rfl]; exact h0)
 have hF : (bif okG (s = s1) then gX get st I out s else none) = some (true, t') := hF
 obtain ⟨hs, hF2⟩ := ofBif hF
 clear hF
 have hs := okG_p hs
 subst hs
 have hF := (show gX get st I out s = some (true, t) from h0).symm.trans hF2
 injection hF with hF; injection hF with _ hF
 have e : us = args (get s) := by
  have h3 := hsl (get s)
  rw [← h1, has] at h3
  exact slots_inj h3
 subst e
 subst hF
 rw [← h1] at q1
 exact ⟨s3, q1, by rw [← ht]; exact q2⟩
def gN (n : Nat) (F : S → Option (Bool × Tr)) (s : S) : Option (Bool × Tr) := F { s with n := n }
theorem refN {P : Program} {f : FuncId} {vs : List Nat} {n : Nat} {F : S → Option (Bool × Tr)} (h : RefOk P f vs F) : RefOk P f vs (gN n F) := fun s1 t hF ι O w0 w us cs hsl hob hm hv =>
 h { s1 with n := n } t hF ι O w0 w us cs hsl hob ⟨hm.mem, hm.fresh⟩ hv
end Go.Am