/- Part Gz of the proof: laws used by the law of this claim. -/
import Derived.Test.YtfhljcbbgckdiaaGreatGk
import Derived.Test.YtfhljcbbgckdiaaGreatGf
set_option linter.all false
namespace Go.Am
open Go Go.RowKit Go.Bas
/-- is it so? -/
noncomputable def okG (p : Prop) : Bool := @decide p (Classical.propDecidable p)
theorem okG_t {p : Prop} (h : p) : okG p = true := @decide_eq_true p (Classical.propDecidable p) h
theorem okG_p {p : Prop} (h : okG p = true) : p := @of_decide_eq_true p (Classical.propDecidable p) h
def lkD (s : S) (t : Nat) : V := match look s.sl t with | some v => v | none => .undef
def bkD (s : S) (i : Nat) : V := match lookH s.hp i with | some (.var _ v) => v | some (.row _ _ v) => v | some (.view v) => v | none => .undef
def aG (v : V) (j : Nat) : V := (toG v).getD j .undef
/-- what is said of a loop: x is read off the state; the state must be just that of x -/
noncomputable def gX {X : Type} (get : S → X) (st : X → S) (I : X → Prop) (out : X → Tr) (s : S) : Option (Bool × Tr) := some (okG (s = st (get s) ∧ I (get s)), out (get s))
theorem Covers.refl {s : S} (h : s.ob = true) : Covers s s := ⟨rfl, rfl, h, fun _ _ h => h, fun _ _ h => h⟩
theorem loopX_ok {E : Env} (hE : EnvOk E) {d : Nat} {c : AC} (hl : LoopsOk E.P c) (f : Ex → List Nat) (vs : List Nat) {X : Type} (get : S → X) (st : X → S) (out : X → Tr) (I : X → Prop) (m : X → Nat) (hob : ∀ x, (st x).ob = true)
    (hb : ∀ x, I x → (∃ x', aev E (inlN E d) c (bodyF f vs) (st x) = some (.normal, st x') ∧ I x' ∧ m x' < m x ∧ (∀ e s, Leaf (out x') e s → Leaf (out x) e s)) ∨
      (∃ e s', aev E (inlN E d) c (bodyF f vs) (st x) = some (e, s') ∧ e ≠ .normal ∧ Leaf (out x) e s')) :
    LoopOk E.P c.erase vs (gX get st I out) := by
  refine loopF_ok hE hl f vs _ st out I m (fun s t h => ?_) hb
  injection h with h; injection h with h ht
  obtain ⟨h1, h2⟩ := okG_p h
  exact ⟨get s, by rw [← h1]; exact .refl (by rw [h1]; exact hob _), h2, ht.symm⟩
end Go.Am

namespace Go.Am
open Go Go.RowKit Go.Bas
end Go.Am

namespace Go.Am
open Go Go.RowKit Go.Bas
/-! ### nothing, told as a row -/
def nlV (id : Nat) (sh : Sh) : V → V
  | .nils => .own id 0 sh
  | v => v
section
variable {ι ι' : Nat → Option Cn} {O : Nat → Prop} {w0 : Zone} {w : World} {s : S} {a : Act}
theorem nlV_rep {X Y : Nat → Prop} {id : Nat} {T : TypeId} {sh : Sh} (he : Ext ι ι' X Y w w) (hi : ι' id = some (.row none 0 0 T sh)) {v : V} {c : Value} (h : VRep ι X w v c) : VRep ι' Y w (nlV id sh v) c := by
  by_cases hv : v = .nils
  · subst hv
    cases h.nils_inv
    exact .one (.own hi (fun h => absurd h (by omega)) (by omega)) rfl
  · have e : nlV id sh v = v := by cases v <;> first | rfl | exact absurd rfl hv
    rw [e]; exact h.ext he
/-- an empty row more -/
theorem MSim.empty (h : MSim ι O w0 s w) (T : TypeId) (sh : Sh) : MSim (updI ι s.nx (.row none 0 0 T sh)) O w0 { s with hp := (s.nx, some (.row T sh (.rows sh []))) :: s.hp, nx := s.nx + 1 } w ∧
    Ext ι (updI ι s.nx (.row none 0 0 T sh)) (XS ι O s) (XS (updI ι s.nx (.row none 0 0 T sh)) O { s with hp := (s.nx, some (.row T sh (.rows sh []))) :: s.hp, nx := s.nx + 1 }) w w := by
  have hn := h.fresh s.nx (Nat.le_refl _)
  obtain ⟨a1, a2, a3⟩ := h.mem.newRow (w' := w) (nid := s.nx) hn [] T sh (.rows sh []) (A := none) (n := 0) (c := 0) (ds := []) ⟨rfl, rfl, rfl, Nat.le_refl _, fun _ _ => rfl⟩ (fun _ _ _ => rfl) (fun a ha => by cases ha) (World.ownsRow_nil w _ _ _)
  have e : lookH ((s.nx, some (.row T sh (.rows sh []))) :: s.hp) = updH ([].map (fun i => (i, none)) ++ [(s.nx, some (.row T sh (.rows sh [])))]) (lookH s.hp) := lookH_append [(s.nx, some (.row T sh (.rows sh [])))] s.hp
  refine ⟨⟨?_, fun id hid => ?_⟩, ?_⟩
  · show HSim _ O w0 (lookH ((s.nx, some (.row T sh (.rows sh []))) :: s.hp)) w
    rw [e]
    exact a3 (.rows (by simp) .nil)
  · have hid : s.nx + 1 ≤ id := hid
    unfold updI
    rw [if_neg (by omega)]
    exact h.fresh id (by omega)
  · unfold XS
    show Ext _ _ _ (Ex1 _ (lookH ((s.nx, some (.row T sh (.rows sh []))) :: s.hp)) O) w w
    rw [e]
    exact a1
/-! ### the end of a call that was handed blocks -/
end
end Go.Am

namespace Go.Am
open Go Go.RowKit Go.Bas
section
variable {ι ι' : Nat → Option Cn} {O : Nat → Prop} {w0 : Zone} {w : World} {s s' : S} {a : Act}
end
end Go.Am

namespace Go.Am
open Go Go.RowKit Go.Bas
/-- what holds of s holds of s' -/
def Weak (s s' : S) : Prop := ∀ (ι : Nat → Option Cn) (O : Nat → Prop) (w0 : Zone) (a : Act) (w : World), Sim ι O w0 s a w → ∃ ι', Sim ι' O w0 s' a w ∧ Ext ι ι' (XS ι O s) (XS ι' O s') w w
theorem Weak.refl (s : S) : Weak s s := fun ι _ _ _ _ h => ⟨ι, h, Ext.refl⟩
theorem Weak.trans {s s' s'' : S} (h : Weak s s') (k : Weak s' s'') : Weak s s'' := fun ι O w0 a w hs => by
  obtain ⟨ι1, h1, h2⟩ := h ι O w0 a w hs
  obtain ⟨ι2, k1, k2⟩ := k ι1 O w0 a w h1
  exact ⟨ι2, k1, h2.trans k2⟩
theorem Weak.cover {s s' : S} (h : Covers s s') : Weak s s' := fun ι _ _ _ _ hs => ⟨ι, (hs.cover h).1, (hs.cover h).2⟩
/-- slot t is told as an empty row -/
structure WkS (t : Nat) (T : TypeId) (sh : Sh) (s s' : S) : Prop where
  n : s'.n = s.n
  nx : s'.nx = s.nx + 1
  at0 : look s.sl t = some .nils
  at1 : look s'.sl t = some (.own s.nx 0 sh)
  sl : ∀ u, u ≠ t → look s'.sl u = look s.sl u
  row : lookH s'.hp s.nx = some (.row T sh (.rows sh []))
  rest : ∀ i, i ≠ s.nx → lookH s'.hp i = lookH s.hp i
theorem Weak.slot {t : Nat} {T : TypeId} {sh : Sh} {s s' : S} (h : WkS t T sh s s') : Weak s s' := by
  intro ι O w0 a w hs
  obtain ⟨p1, p2⟩ := hs.toMSim.empty T sh
  have e : lookH s'.hp = lookH ((s.nx, some (.row T sh (.rows sh []))) :: s.hp) := by
    funext i
    simp only [lookH]
    by_cases hq : s.nx = i
    · subst hq
      rw [show Nat.beq s.nx s.nx = true by simp]
      exact h.row
    · rw [show Nat.beq s.nx i = false from Bool.eq_false_iff.2 fun e => hq (Nat.eq_of_beq_eq_true e)]
      exact h.rest i (Ne.symm hq)
  have hX : XS (updI ι s.nx (.row none 0 0 T sh)) O s' = XS (updI ι s.nx (.row none 0 0 T sh)) O { s with hp := (s.nx, some (.row T sh (.rows sh []))) :: s.hp, nx := s.nx + 1 } := by
    unfold XS
    rw [e]
  refine ⟨updI ι s.nx (.row none 0 0 T sh), ⟨⟨?_, fun id hid => p1.fresh id (by rw [h.nx] at hid; exact hid)⟩, by rw [h.n]; exact hs.size, fun u v hv => ?_, hs.defers⟩, ?_⟩
  · rw [e]; exact p1.mem
  · rw [hX, h.n]
    by_cases hu : u = t
    · subst hu
      rw [h.at1] at hv
      injection hv with hv; subst hv
      obtain ⟨q1, q2⟩ := hs.slots u _ h.at0
      refine ⟨q1, ?_⟩
      have := nlV_rep p2 updI_self q2 (T := T) (sh := sh)
      exact this
    · rw [h.sl u hu] at hv
      obtain ⟨q1, q2⟩ := hs.slots u v hv
      exact ⟨q1, q2.ext p2⟩
  · rw [hX]; exact p2
/-- part j of the variable id is told as an empty slice -/
structure WkR (id j : Nat) (sh : Sh) (s s' : S) : Prop where
  n : s'.n = s.n
  sl : s'.sl = s.sl
  nx : s'.nx = s.nx
  var : ∃ ss l, lookH s.hp id = some (.var (.agg ss) (.agg l)) ∧ nthL ss j = some (.rows sh) ∧ nthL l j = some .nils ∧ lookH s'.hp id = some (.var (.agg ss) (.agg (setL l j (.rows sh []))))
  rest : ∀ i, i ≠ id → lookH s'.hp i = lookH s.hp i
theorem Weak.rows {id j : Nat} {sh : Sh} {s s' : S} (hw : WkR id j sh s s') : Weak s s' := by
  intro ι O w0 a w hs
  obtain ⟨ss, l, v1, v2, v3, v4⟩ := hw.var
  have e2 : ∀ i, lookH s'.hp i = if i = id then some (.var (.agg ss) (.agg (setL l j (.rows sh [])))) else lookH s.hp i := by
    intro i
    by_cases hi : i = id
    · rw [if_pos hi, hi]; exact v4
    · rw [if_neg hi]; exact hw.rest i hi
  have mine : ∀ i b, Mine ι (lookH s'.hp) i b → Mine ι (lookH s.hp) i b := by
    rintro i b ⟨k, c, h1, h2, h3, h4⟩
    rw [e2] at h1
    by_cases hi : i = id
    · subst hi
      exact ⟨_, c, v1, rfl, h3, h4⟩
    · rw [if_neg hi] at h1
      exact ⟨k, c, h1, h2, h3, h4⟩
  have he : Ext ι ι (XS ι O s) (XS ι O s') w w := Ext.mk (Nat.le_refl _) (fun _ _ e => e) (fun _ _ _ => rfl) (fun b hb => .inl (hb.imp (fun h => h) fun ⟨i, hm⟩ => ⟨i, mine i b hm⟩))
  refine ⟨ι, ⟨⟨hs.mem.upd (fun _ => False) he ⟨rfl, rfl, rfl, Nat.le_refl _, fun _ _ => rfl⟩ (fun _ _ _ => rfl) (fun i k hk => ?_) (fun i i' b h1 h2 => hs.mem.one i i' b (mine i b h1) (mine i' b h2)) (fun i b hm => hs.mem.fresh i b (mine i b hm)), fun i hi => hs.fresh i (by rw [hw.nx] at hi; exact hi)⟩, by rw [hw.n]; exact hs.size, fun u v hv => ?_, hs.defers⟩, he⟩
  · rw [e2] at hk
    by_cases hi : i = id
    · subst hi
      rw [if_pos rfl] at hk
      injection hk with hk; subst hk
      cases hs.mem.blk i _ v1 with
      | var hi hsh hg hr =>
        cases hr with
        | agg hr =>
          obtain ⟨pre, cs, post, rfl, hc, hset⟩ := hr.nth v3
          cases hc
          have hown : CRep ι (Ex1 ι (lookH s.hp) O) w (.rows sh []) [.slice none 0 0] := .rows (ds := []) rfl (Nat.le_refl _) (by omega) (by simp) .nil fun h => absurd rfl h
          exact .inr (.var hi (by simp only [isSh] at hsh ⊢; exact isShs_set hsh v2 (by simp [isSh, Sh.beq_self])) hg ((CRep.agg (hset _ _ hown)).ext he))
    · rw [if_neg hi] at hk
      exact .inl ⟨hk, fun _ _ h => h⟩
  · rw [hw.sl] at hv
    obtain ⟨h1, h2⟩ := hs.slots u v hv
    exact ⟨by rw [hw.n]; exact h1, h2.ext he⟩
/-- what is said of a loop: of a state that may be told as that of x -/
noncomputable def gK {X : Type} (get : S → X) (st : X → S) (I : X → Prop) (out : X → Tr) (s : S) : Option (Bool × Tr) := some (okG (Weak s (st (get s)) ∧ I (get s)), out (get s))
theorem loopK {P : Program} {c : Code} {vs : List Nat} {X : Type} {get : S → X} {st : X → S} {I : X → Prop} {out : X → Tr} (hob : ∀ x, (st x).ob = true) (hgs : ∀ x, I x → get (st x) = x) (h : LoopOk P c vs (gX get st I out)) : LoopOk P c vs (gK get st I out) := by
  intro s t hg ι O w0 a w hs _
  injection hg with hg; injection hg with hg ht
  obtain ⟨h1, h2⟩ := okG_p hg
  obtain ⟨ι', p1, p2⟩ := h1 ι O w0 a w hs
  have hX : gX get st I out (st (get s)) = some (true, t) := by
    unfold gX
    rw [hgs _ h2, okG_t ⟨rfl, h2⟩, ht]
  refine Code.wp_mono ?_ (h _ t hX ι' O w0 a w p1 (hob _))
  rintro e a' w' ⟨e', s2, h1, h2, ι2, h3, h4⟩
  exact ⟨e', s2, h1, h2, ι2, h3, (p2.part _).trans h4⟩
end Go.Am

namespace Go.Am
open Go Go.RowKit Go.Bas
mutual
def isI0 : V → Bool
  | .int _ _ | .bool _ | .barr _ _ | .nils => true
  | .agg l => isI0s l
  | _ => false
def isI0s : List V → Bool
  | [] => true
  | v :: l => isI0 v && isI0s l
end
section
variable {ι ι' : Nat → Option Cn} {X Y : Nat → Prop} {w : World}
mutual
theorem isI0_rep : ∀ (v : V) {cs : List Value}, isI0 v = true → CRep ι X w v cs → CRep ι' Y w v cs ∧ True
  | .int k n, cs, _, h => by cases h with | int h => exact ⟨.int h, trivial⟩
  | .bool b, cs, _, h => by cases h; exact ⟨.bool, trivial⟩
  | .barr n l, cs, _, h => by cases h with | barr h => exact ⟨.barr h, trivial⟩
  | .nils, cs, _, h => by cases h; exact ⟨.nils, trivial⟩
  | .agg l, cs, hi, h => by cases h with | agg h => exact ⟨.agg (isI0s_rep l hi h).1, trivial⟩
theorem isI0s_rep : ∀ (v : List V) {cs : List Value}, isI0s v = true → CReps ι X w v cs → CReps ι' Y w v cs ∧ True
  | [], cs, _, h => by cases h; exact ⟨.nil, trivial⟩
  | v :: l, cs, hi, h => by
    have hi := (Bool.and_eq_true _ _).mp hi
    cases h with | cons p q => exact ⟨.cons (isI0_rep v hi.1 p).1 (isI0s_rep l hi.2 q).1, trivial⟩
end
end
/-- what a function hands over, if that is a new variable -/
def newOf (P : Program) (af : AF) (s : S) : Option (Sh × V) :=
  match resV P s af.results with
  | some [.ref id [] 0 sh] => match lookH s.hp id with
    | some (.var sh' v) => bif Sh.beq sh sh' && isI0 v then some (sh, v) else none
    | _ => none
  | _ => none
def callN (E : Env) (af : AF) (vs : List V) : Option (Sh × V) :=
  bif Nat.ble vs.length af.n then aev E (inlN E 6) af.ac (fun e s => match e with
    | .normal | .ret => newOf E.P af s
    | _ => none) ⟨slots 0 vs, [], 0, true, af.n⟩ else none
theorem callN_ok {E : Env} (hE : EnvOk E) {f : FuncId} {af : AF} (haf : AfOk E.P f af) {vs : List V} {sh : Sh} {v : V} (T : TypeId) (h : callN E af vs = some (sh, v)) : SpecV E.P f vs (.ownv T (.vref sh v)) := by
  intro O w cs hO hv
  have hgd := hO.good
  obtain ⟨hn, hx⟩ := ofBif h
  obtain ⟨fn, h1, h2, h3, h4⟩ := haf.code
  have hle : vs.length ≤ af.n := Nat.le_of_ble_eq_true hn
  have hnone : ∀ {X : Nat → Prop}, Ex1 no (lookH []) X = X := by
    intro X
    funext b
    apply propext
    exact ⟨fun h => h.elim id fun ⟨_, _, _, h, _⟩ => (by cases h), .inl⟩
  have hm : MSim no O (allOf w hgd) ⟨[], [], 0, true, 0⟩ w := by
    refine ⟨⟨Keeps.refl _ _, fun _ h => h, hO.lt, fun id k hk => (by cases hk), fun id id' b h => ?_, fun id b h => ?_⟩, fun _ _ => rfl⟩
    · obtain ⟨_, _, h, _⟩ := h; cases h
    · obtain ⟨_, _, h, _⟩ := h; cases h
  have hv' : VReps no (XS no O ⟨[], [], 0, true, 0⟩) w vs cs := by unfold XS; rw [hnone]; exact hv
  have hs := Sim.start (n := af.n) hm hv' hle
  refine calls_of_wp h1 h2 ?_
  rw [h4]
  refine Code.wp_mono ?_ (aev_ok hE (inlN_ok hE 6) af.ac _ _ (sh, v) haf.loops hx no O (allOf w hgd) _ w hs rfl)
  rintro e a' w' ⟨e', s', rfl, hk, hob', ι', q1, q2⟩
  have fin : newOf E.P af s' = some (sh, v) → bodyPost E.P fn (fun e w' => Below w.heap.size w w' ∧ ∃ c, e = .returned c ∧ OutRep O w w' (.ownv T (.vref sh v)) c) .ret a' w' := by
    intro hk
    unfold newOf at hk
    split at hk
    · rename_i id sh0 hres
      split at hk
      · rename_i sh' u hz
        obtain ⟨hc, hk⟩ := ofBif hk
        injection hk with hk; injection hk with e1 e2; subst e1; subst e2
        obtain ⟨hc1, hc2⟩ := (Bool.and_eq_true _ _).mp hc
        have := Sh.beq_eq hc1
        subst this
        rw [← h3] at hres
        obtain ⟨cs', r1, r2⟩ := results_ok hres q1
        obtain ⟨c, rfl, r3⟩ := r1.one_inv
        cases r3 with
        | one a b =>
          cases a with
          | ref hr =>
            rename_i g
            cases q1.mem.blk id _ hz with
            | var b1 b2 b3 b4 =>
              rcases hr with ⟨s0, k1, _⟩ | ⟨_, _, _, _, _, _, k1⟩
              · rw [b1] at k1
                injection k1 with k1; injection k1 with k1 k2
                subst k1
                have hmine : Mine ι' (lookH s'.hp) id _ := ⟨_, _, hz, rfl, b1, rfl⟩
                have hfr := (q1.mem.fresh id _ hmine).1
                exact ⟨q1.defers, _, r2, q1.mem.below.below, _, rfl, .new b2 (fun Y => (isI0_rep _ hc2 b4).1) b3 (Nat.le_of_not_lt hfr)⟩
              · exact absurd rfl k1
        | agg a b => cases b
      · cases hk
    · cases hk
  cases e' with
  | normal => exact fin hk
  | ret => exact fin hk
  | exit id => cases hk
  | goto l => cases hk
  | pan ch => cases hk
end Go.Am

namespace Go.Am
open Go Go.RowKit Go.Bas
end Go.Am
