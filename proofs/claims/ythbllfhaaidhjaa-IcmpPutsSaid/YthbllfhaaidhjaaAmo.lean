/- The abstract machine, fifteenth part: code does what it is said to do. -/
import Derived.Test.YthbllfhaaidhjaaAmw
namespace Go.Am
open Go Go.RowKit Go.Bas
section
variable {ι : Nat → Option Cn} {O : Nat → Prop} {w0 : Zone} {w : World} {P : Program} {s : S} {a : Act}
theorem look_put {sl : List (Nat × V)} {d : Option Nat} {v : V} {t : Nat} : look (put sl d v) t = if d = some t then some v else look sl t := by
  cases d with
  | none => simp [put]
  | some x =>
    simp only [put, look]
    by_cases h : x = t
    · subst h; simp
    · have : Nat.beq x t = false := Bool.eq_false_iff.2 (fun hb => h (Nat.eq_of_beq_eq_true hb))
      rw [this, if_neg (by simpa using h)]; rfl
theorem put_size {d : Option Nat} {c : Value} : (a.put d c).tmps.size = a.tmps.size := by cases d <;> simp [Act.put]
theorem put_defers {d : Option Nat} {c : Value} : (a.put d c).defers = a.defers := by cases d <;> simp [Act.put]
theorem put_getD {d : Option Nat} {c : Value} {t : Nat} (ht : t < a.tmps.size) : (a.put d c).tmps.getD t Go.undef = if d = some t then c else a.tmps.getD t Go.undef := by
  cases d with
  | none => simp [Act.put]
  | some x =>
    simp only [Act.put, Array.getD_eq_getD_getElem?, Array.getElem?_setIfInBounds]
    by_cases h : x = t
    · subst h; simp [ht]
    · simp [h]
theorem dstOk_lt {n t : Nat} (h : dstOk n (some t) = true) : t < n := Nat.le_of_ble_eq_true h
/-- a slot gets a value, the memory goes on -/
theorem Sim.put' (h : Sim ι O w0 s a w) {ι' : Nat → Option Cn} {d : Option Nat} {v : V} {c : Value} {w' : World} {s' : S} (hd : dstOk s.n d = true) (hm : MSim ι' O w0 s' w') (he : Ext ι ι' (XS ι O s) (XS ι' O s') w w')
    (hv : VRep ι' (XS ι' O s') w' v c) (hsl : s'.sl = put s.sl d v) (hn : s'.n = s.n) : Sim ι' O w0 s' (a.put d c) w' := by
  refine ⟨hm, by rw [put_size, hn]; exact h.size, fun t u hu => ?_, by rw [put_defers]; exact h.defers⟩
  rw [hsl, look_put] at hu
  by_cases ht : d = some t
  · subst ht
    rw [if_pos rfl] at hu; injection hu with hu; subst hu
    have := dstOk_lt hd
    refine ⟨by rw [hn]; exact this, ?_⟩
    rw [put_getD (by rw [h.size]; exact this), if_pos rfl]
    exact hv
  · rw [if_neg ht] at hu
    obtain ⟨h1, h2⟩ := h.slots t u hu
    refine ⟨by rw [hn]; exact h1, ?_⟩
    rw [put_getD (by rw [h.size]; exact h1), if_neg ht]
    exact h2.ext he
theorem Sim.nxt (h : Sim ι O w0 s a w) {d : Option Nat} {v : V} {wr : List (Nat × Option Blk)} {c : Value} {w' : World} {ob : Bool} (hd : dstOk s.n d = true) (hp : Post ι O w0 (lookH s.hp) w s.nx v wr w' c) :
    Nxt ι O w0 s w ⟨put s.sl d v, wr ++ s.hp, s.nx + 1, ob, s.n⟩ (a.put d c) w' := by
  obtain ⟨ι', h1, h2, h3, h4⟩ := hp
  have e : lookH (wr ++ s.hp) = updH wr (lookH s.hp) := lookH_append _ _
  have hx : XS ι' O ⟨put s.sl d v, wr ++ s.hp, s.nx + 1, ob, s.n⟩ = Ex1 ι' (updH wr (lookH s.hp)) O := by unfold XS; rw [e]
  have he : Ext ι ι' (XS ι O s) (XS ι' O ⟨put s.sl d v, wr ++ s.hp, s.nx + 1, ob, s.n⟩) w w' := by rw [hx]; exact h2
  refine ⟨ι', h.put' hd ⟨by show HSim _ _ _ (lookH (wr ++ s.hp)) _; rw [e]; exact h1, fun id hid => ?_⟩ he (by rw [hx]; exact h3) rfl rfl, he⟩
  have hid : s.nx + 1 ≤ id := hid
  rw [h4 id (by omega)]
  exact h.fresh id (by omega)
theorem Sim.ob (h : Sim ι O w0 s a w) (b : Bool) : Sim ι O w0 { s with ob := b } a w := ⟨⟨h.mem, h.fresh⟩, h.size, h.slots, h.defers⟩
theorem Sim.skip (h : Sim ι O w0 s a w) {o : Oper} (hd : dstOk s.n o.dst = true) : Nxt ι O w0 s w (skipO o s) (a.put o.dst Go.undef) w :=
  ⟨ι, h.put' hd ⟨h.mem, fun id hid => h.fresh id (by have : s.nx + 1 ≤ id := hid; omega)⟩ Ext.refl .void rfl rfl, Ext.refl⟩
theorem Sim.setS (h : Sim ι O w0 s a w) {t : Nat} {b c : Bool} (ht : look s.sl t = some (.bool b)) (hb : b = c) : Sim ι O w0 (setS s t c) a w := by
  subst hb
  refine ⟨⟨h.mem, h.fresh⟩, h.size, fun u v hu => ?_, h.defers⟩
  have hu : look ((t, V.bool b) :: s.sl) u = some v := hu
  simp only [look] at hu
  cases hq : Nat.beq t u with
  | true =>
    rw [hq] at hu; injection hu with hu; subst hu
    have := Nat.eq_of_beq_eq_true hq
    subst this
    exact h.slots t _ ht
  | false => rw [hq] at hu; exact h.slots u v hu
theorem Nxt.trans {s1 s2 : S} {a1 : Act} {w1 w2 : World} {a2 : Act} (h : Nxt ι O w0 s w s1 a1 w1) (k : ∀ ι1, Sim ι1 O w0 s1 a1 w1 → Nxt ι1 O w0 s1 w1 s2 a2 w2) : Nxt ι O w0 s w s2 a2 w2 := by
  obtain ⟨ι1, h1, h2⟩ := h
  obtain ⟨ι2, k1, k2⟩ := k ι1 h1
  exact ⟨ι2, k1, h2.trans k2⟩

/-! ### operands -/
theorem cv_rep {v : V} {c : Value} {X : Nat → Prop} (h : cv c = some v) : VRep ι X w v c := by
  unfold cv at h
  split at h <;> first | (cases h; done) | skip
  · rename_i k n
    obtain ⟨h8, h⟩ := ofBif h
    injection h with h; subst h
    refine VRep.i fun hk => ?_
    subst hk
    simpa [u8Ok] using h8
  all_goals injection h with h; subst h
  · exact VRep.b
  · rename_i s
    have := VRep.s (ι := ι) (O := X) (w := w) (l := s.data.toList)
    simpa using this
  · exact .one .nils rfl
  · exact .one .nilp rfl
  · exact .one .nilf rfl
  · exact .one .nili rfl
  · exact .one .nilm rfl
theorem Sim.evO (h : Sim ι O w0 s a w) {x : Operand} {v : V} (hx : evO s.sl x = some v) : VRep ι (XS ι O s) w v (a.eval x) := by
  cases x with
  | tmp t => exact (h.slots t v hx).2
  | const c => exact cv_rep hx
  | func f =>
    injection hx with hx; subst hx
    exact .one (.fn .nil .nil) rfl
  | global g => cases hx
theorem Sim.evOs (h : Sim ι O w0 s a w) : ∀ (xs : List Operand) {vs : List V}, mapO (Am.evO s.sl) xs = some vs → VReps ι (XS ι O s) w vs (xs.map a.eval)
  | [], vs, hx => by injection hx with hx; subst hx; exact .nil
  | x :: xs, vs, hx => by
    simp only [mapO] at hx
    cases h1 : Am.evO s.sl x with
    | none => rw [h1] at hx; cases hx
    | some v =>
      cases h2 : mapO (Am.evO s.sl) xs with
      | none => rw [h1, h2] at hx; cases hx
      | some l =>
        rw [h1, h2] at hx; injection hx with hx; subst hx
        exact .cons (h.evO h1) (h.evOs xs h2)

/-! ### what is known of the functions that are called -/
/-- how code may end -/
def exOf : Ex → Exit
  | .normal => .normal
  | .exit id => .exit id
  | .ret => .ret
inductive Leaf : Tr → Ex → S → Prop
  | leaf {e s} : Leaf (.leaf e s) e s
  | t {x y e s} (h : Leaf x e s) : Leaf (.br true x y) e s
  | f {x y e s} (h : Leaf y e s) : Leaf (.br false x y) e s
/-- a loop comes to what is said -/
def LoopOk (P : Program) (c : Code) (vs : List Nat) (g : S → Option Tr) : Prop :=
  ∀ s t, g s = some t → ∀ (ι : Nat → Option Cn) (O : Nat → Prop) (w0 : Zone) (a : Act) (w : World), Sim ι O w0 s a w → s.ob = true →
    (Code.loop c).wp P (fun e a' w' => ∃ e' s', Leaf t e' s' ∧ e = exOf e' ∧ ∃ ι', Sim ι' O w0 s' a' w' ∧ ExtP (· ∈ vs) ι ι' (XS ι O s) (XS ι' O s') w w') a w
def LoopsOk (P : Program) : AC → Prop
  | .seq a b => LoopsOk P a ∧ LoopsOk P b
  | .cond _ a b => LoopsOk P a ∧ LoopsOk P b
  | .block _ a => LoopsOk P a
  | .loop c _ vs g => LoopOk P c.erase vs g
  | .unr _ c => LoopsOk P c
  | _ => True
/-- a call comes to what is said: of the blocks that it is handed, and of new ones -/
def RefOk (P : Program) (f : FuncId) (vs : List Nat) (F : S → Option S) : Prop :=
  ∀ s1 s2, F s1 = some s2 → ∀ (ι : Nat → Option Cn) (O : Nat → Prop) (w0 : Zone) (w : World) (as : List V) (cs : List Value), s1.sl = slots 0 as → s1.ob = true → MSim ι O w0 s1 w → VReps ι (XS ι O s1) w as cs →
    Calls P f cs.toArray w fun e w' => ∃ c v ι', e = .returned c ∧ look s2.sl 0 = some v ∧ MSim ι' O w0 s2 w' ∧ ExtP (· ∈ vs) ι ι' (XS ι O s1) (XS ι' O s2) w w' ∧ VRep ι' (XS ι' O s2) w' v c
/-- a function's annotated code is its code -/
structure AfOk (P : Program) (f : FuncId) (af : AF) : Prop where
  enter : ∀ (args : Array Value) (w : World), (callFunc f args).run P w = .ok (.enter f args) w
  code : ∃ fn, P.funcs[f]? = some fn ∧ fn.body = some af.ac.erase ∧ fn.results.toList = af.results ∧ fn.ntmps = af.n
  loops : LoopsOk P af.ac
structure EnvOk (E : Env) : Prop where
  mixed : E.P.follows .mixedOrders = true
  con : GOk E.P E.G
  inl : ∀ f af, look E.I f = some af → AfOk E.P f af
  ref : ∀ f vs F, look E.C f = some (vs, F) → (∀ (args : Array Value) (w : World), (callFunc f args).run E.P w = .ok (.enter f args) w) ∧ RefOk E.P f vs F
end
section
variable {R : Type} {E : Env} {inl : AF → List V → S → (V → S → Option R) → Option R}
def InlOk (E : Env) (inl : AF → List V → S → (V → S → Option R) → Option R) : Prop :=
  ∀ f af, AfOk E.P f af → ∀ (as : List V) (s : S) (k : V → S → Option R) (r : R), inl af as s k = some r → ∀ (ι : Nat → Option Cn) (O : Nat → Prop) (w0 : Zone) (w : World) (cs : List Value), MSim ι O w0 s w → s.ob = true →
    VReps ι (XS ι O s) w as cs → Calls E.P f cs.toArray w fun e w' => ∃ c v s' ι', e = .returned c ∧ k v s' = some r ∧ s'.ob = true ∧ MSim ι' O w0 s' w' ∧ Ext ι ι' (XS ι O s) (XS ι' O s') w w' ∧ VRep ι' (XS ι' O s') w' v c
def Strict (k : S → Option R) : Prop := ∀ s, s.ob = false → k s = none
variable {ι : Nat → Option Cn} {O : Nat → Prop} {w0 : Zone} {w : World} {s : S} {a : Act}
theorem inlOf_spec {o : Oper} {vs : List V} {f : FuncId} {af : AF} {as : List V} (h : inlOf E o vs = some (f, af, as)) : target o vs = some (f, as) ∧ look E.I f = some af := by
  unfold inlOf at h
  cases h1 : target o vs with
  | none => rw [h1] at h; cases h
  | some p =>
    obtain ⟨f', as'⟩ := p
    cases h2 : look E.I f' with
    | none => simp only [h1, h2] at h; cases h
    | some af' =>
      simp only [h1, h2, Option.some.injEq, Prod.mk.injEq] at h
      obtain ⟨rfl, rfl, rfl⟩ := h
      exact ⟨rfl, h2⟩
theorem target_run {P : Program} {X : Nat → Prop} {o : Oper} {vs : List V} {f : FuncId} {as : List V} (h : target o vs = some (f, as)) (hv : VReps ι X w vs ((opnds o).map a.eval)) :
    ∃ cs, VReps ι X w as cs ∧ (execOp a.eval o).run P w = (callFunc f cs.toArray).run P w := by
  obtain ⟨dst, op, type, pos, aft, guard⟩ := o
  cases op with
  | call c =>
    obtain ⟨cal, args, ats⟩ := c
    have e : args.map a.eval = (args.toList.map a.eval).toArray := Array.ext' (by simp)
    cases cal with
    | value x =>
      have gen : ∀ {f' b c vs''}, vs = .fn f' b c :: vs'' → (f', b ++ vs'' ++ c) = (f, as) → VReps ι X w vs (a.eval x :: args.toList.map a.eval) → ∃ cs, VReps ι X w as cs ∧ (execOp a.eval ⟨dst, .call ⟨.value x, args, ats⟩, type, pos, aft, guard⟩).run P w = (callFunc f cs.toArray).run P w := by
        rintro f' b c vs'' rfl he hv'
        injection he with e1 e2; subst e1; subst e2
        obtain ⟨d, ds, hcs, p, q⟩ := VReps.cons_inv hv'
        injection hcs with h1 h2
        obtain ⟨cas, cbs, hc, pa, pb⟩ := p.fn_inv
        rw [hc] at h1
        refine ⟨_, (pa.append q).append pb, ?_⟩
        simp [execOp, resolve, invoke, h1, Deferred.ofValue, e, h2]
      cases x with
      | func f' =>
        injection h with h; injection h with e1 e2; subst e1; subst e2
        have hv' : VReps ι X w vs (args.toList.map a.eval) := hv
        exact ⟨_, hv', by simp [execOp, resolve, invoke, Act.eval, Deferred.ofValue, e]⟩
      | _ =>
        cases vs with
        | nil => cases h
        | cons v vs =>
          cases v with
          | fn f' b c => injection h with h; exact gen rfl h hv
          | _ => cases h
    | _ => cases vs <;> cases h
  | _ => cases vs <;> cases h
theorem refOf_spec {o : Oper} {vs : List V} {ws : List Nat} {F : S → Option S} {as : List V} (h : refOf E o vs = some (ws, F, as)) : ∃ f, target o vs = some (f, as) ∧ look E.C f = some (ws, F) := by
  unfold refOf at h
  cases h1 : target o vs with
  | none => rw [h1] at h; cases h
  | some p =>
    obtain ⟨f', as'⟩ := p
    cases h2 : look E.C f' with
    | none => simp only [h1, h2] at h; cases h
    | some q =>
      obtain ⟨ws', F'⟩ := q
      simp only [h1, h2, Option.some.injEq, Prod.mk.injEq] at h
      obtain ⟨rfl, rfl, rfl⟩ := h
      exact ⟨f', rfl, h2⟩
theorem look_slots {t : Nat} : ∀ (as : List V) (i : Nat), i ≤ t → look (slots i as) t = as[t - i]?
  | [], i, h => by simp [slots, look]
  | x :: as, i, h => by
    simp only [slots, look]
    rcases Nat.lt_or_ge i t with h1 | h1
    · have hb : Nat.beq i t = false := Bool.eq_false_iff.2 fun e => by have := Nat.eq_of_beq_eq_true e; omega
      rw [hb, cond_false, look_slots as (i + 1) h1]
      rw [show t - i = (t - (i + 1)) + 1 by omega, List.getElem?_cons_succ]
    · have e : i = t := by omega
      subst e
      simp
theorem keepS_slots {s : S} : ∀ (as : List V) (i : Nat) {l : List (Nat × V)}, (∀ j, j < as.length → look s.sl (i + j) = as[j]?) → keepS s (List.range' i as.length) = some l → l = slots i as
  | [], i, l, _, h => by injection h with h; exact h.symm
  | x :: as, i, l, hl, h => by
    simp only [List.length_cons, List.range'_succ, keepS] at h
    have h0 := hl 0 (by simp)
    simp only [Nat.add_zero, List.getElem?_cons_zero] at h0
    rw [h0] at h
    split at h
    · rename_i v hv
      injection hv with hv; subst hv
      split at h
      · rename_i l' hl'
        injection h with h; subst h
        rw [keepS_slots as (i + 1) (fun j hj => by
          have := hl (j + 1) (by simp; omega)
          rw [show i + 1 + j = i + (j + 1) by omega, this, List.getElem?_cons_succ]) hl']
        rfl
      · cases h
    · cases h
theorem renS_slots {ρ : Nat → Option Nat} : ∀ (as : List V) (i : Nat) {l : List (Nat × V)}, renS ρ (slots i as) = some l → ∃ bs, renVs ρ as = some bs ∧ l = slots i bs
  | [], i, l, h => by injection h with h; subst h; exact ⟨[], rfl, rfl⟩
  | x :: as, i, l, h => by
    simp only [slots, renS] at h
    split at h
    · rename_i y hy
      split at h
      · rename_i l' hl'
        injection h with h; subst h
        obtain ⟨bs, h1, h2⟩ := renS_slots as (i + 1) hl'
        exact ⟨y :: bs, by simp only [renVs, hy, h1], by rw [h2]; rfl⟩
      · cases h
    · cases h
/-- a call by what it does with the blocks that it is handed -/
theorem callR_ok (hE : EnvOk E) {f : FuncId} {ws : List Nat} {F : S → Option S} (hf : look E.C f = some (ws, F)) {as : List V} {v : V} {s' : S} (hx : callR ws F as s = some (v, s')) {cs : List Value} (hm : MSim ι O w0 s w) (hv : VReps ι (XS ι O s) w as cs) :
    Calls E.P f cs.toArray w fun e w' => ∃ c ι', e = .returned c ∧ MSim ι' O w0 s' w' ∧ Ext ι ι' (XS ι O s) (XS ι' O s') w w' ∧ VRep ι' (XS ι' O s') w' v c := by
  obtain ⟨_, hR⟩ := hE.ref f ws F hf
  unfold callR at hx
  split at hx
  · rename_i L s1 hn
    obtain ⟨hvo, hx⟩ := ofBif hx
    split at hx
    · rename_i s2 hF
      split at hx
      · rename_i s3 hb
        split at hx
        · rename_i v' hlk
          injection hx with hx; injection hx with e1 e2; subst e1; subst e2
          have hS := norm_small hn
          have hm0 : MSim ι O w0 { s with sl := slots 0 as } w := ⟨hm.mem, hm.fresh⟩
          obtain ⟨q1, q2, q3⟩ := hm0.front hS
          have hargs : ∃ bs, renVs (idxN L) as = some bs ∧ s1.sl = slots 0 bs := by
            unfold Am.norm at hn
            split at hn
            · rename_i l hl
              have e : l = slots 0 as := keepS_slots (s := { s with sl := slots 0 as }) as 0 (fun j hj => by
                have := look_slots (t := 0 + j) as 0 (Nat.zero_le _)
                rw [this]; simp) (by rw [← List.range_eq_range']; exact hl)
              subst e
              simp only at hn
              split at hn
              · rename_i sl hsl
                split at hn
                · injection hn with hn; injection hn with e1 e2; subst e1; subst e2
                  exact renS_slots as 0 hsl
                · cases hn
              · cases hn
            · cases hn
          obtain ⟨bs, r1, r2⟩ := hargs
          have hv1 := (rens_rep (ι := ι) (w := w) (X := XS ι O s) (Y := XS (ιL ι L) (OL ι O { s with sl := slots 0 as } L s1) s1) (Ren.idx (L := L)) q2 as r1).2 hv
          refine (hR s1 s2 hF _ _ _ w bs cs r2 hS.ob q1 hv1).mono ?_
          rintro e w' ⟨c, u, ι', rfl, hu, p1, p2, p3⟩
          unfold back at hb
          split at hb
          · rename_i sl hsl
            split at hb
            · rename_i hp hhp
              injection hb with hb; subst hb
              obtain ⟨ι2, z1, z2, z3⟩ := hm0.back hS hvo p1 p2 hhp (s' := ⟨sl, hp ++ (L.map (fun i => (i, none)) ++ s.hp), s.nx + s2.nx, true, s2.n⟩) rfl rfl
              obtain ⟨u', k1, k2⟩ := renS_look hsl hlk
              rw [hu] at k1; injection k1 with k1; subst k1
              exact ⟨c, ι2, rfl, z1, z2, z3 _ _ _ k2 p3⟩
            · cases hb
          · cases hb
        · cases hx
      · cases hx
    · cases hx
  · cases hx
theorem exec_ok (hE : EnvOk E) (hI : InlOk E inl) {o : Oper} {k : S → Option R} {r : R} (hk : Strict k) (hx : exec E inl o s k = some r) (hs : Sim ι O w0 s a w) (hob : s.ob = true)
    {K : Act → World → Prop} {Q : Exit → Act → World → Prop} (hK : ∀ s' a' w', k s' = some r → s'.ob = true → Nxt ι O w0 s w s' a' w' → K a' w') : o.wp E.P a w K Q := by
  unfold exec at hx
  obtain ⟨hd, hx⟩ := ofBif hx
  split at hx
  · cases hx
  · rename_i vs hvs
    have hv := hs.evOs _ hvs
    split at hx
    · rename_i f af as hin
      obtain ⟨_, hx⟩ := ofBif hx
      obtain ⟨h1, h2⟩ := inlOf_spec hin
      obtain ⟨cs, h3, h4⟩ := target_run (P := E.P) h1 hv
      have haf := hE.inl f af h2
      rw [haf.enter] at h4
      refine wp_enter h4 (hI f af haf as s _ r hx ι O w0 w cs hs.toMSim hob h3) ?_
      rintro e w' ⟨c, v, s', ι', rfl, hkr, hob', hm, he, hvr⟩
      refine ⟨c, rfl, hK _ _ _ hkr hob' ⟨ι', ?_, he⟩⟩
      exact hs.put' (s' := { s' with sl := put s.sl o.dst v, nx := s'.nx + 1, n := s.n }) hd ⟨hm.mem, fun id hid => hm.fresh id (by have : s'.nx + 1 ≤ id := hid; omega)⟩ he hvr rfl rfl
    · split at hx
      · rename_i ws F as hrf
        obtain ⟨_, hx⟩ := ofBif hx
        split at hx
        · rename_i v s' hcr
          obtain ⟨f, h1, h2⟩ := refOf_spec hrf
          obtain ⟨cs, h3, h4⟩ := target_run (P := E.P) h1 hv
          rw [(hE.ref f ws F h2).1] at h4
          refine wp_enter h4 (callR_ok hE h2 hcr hs.toMSim h3) ?_
          rintro e w' ⟨c, ι', rfl, hm, he, hvr⟩
          refine ⟨c, rfl, hK _ _ _ hx rfl ⟨ι', ?_, he⟩⟩
          exact hs.put' (s' := ⟨put s.sl o.dst v, s'.hp, s'.nx + 1, true, s.n⟩) hd ⟨hm.mem, fun id hid => hm.fresh id (by have : s'.nx + 1 ≤ id := hid; omega)⟩ he hvr rfl rfl
        · cases hx
      split at hx
      · rename_i res hact
        cases hro : res.ob with
        | false =>
          rw [hk _ (by show andT s.ob res.ob = false; rw [hro]; rfl)] at hx
          cases hx
        | true =>
          refine act_ok hE.con hs.mem (hs.fresh _ (Nat.le_refl _)) hv hact hro fun c w' hp => hK _ _ _ hx (by show andT s.ob res.ob = true; rw [hro, hob]; rfl) ?_
          exact hs.nxt hd hp
      · cases hx
theorem runOps_strict {all : List Oper} : ∀ (ops : List Oper) {k : S → Option R}, Strict k → ∀ s, s.ob = false → runOps E inl all ops s k = none := by
  intro ops
  induction ops with
  | nil => intro k hk s hs; exact hk s hs
  | cons o ops ih =>
    intro k hk s hs
    have he : ∀ s : S, s.ob = false → exec E inl o s (fun s => runOps E inl all ops s k) = none := by
      intro s hs
      unfold exec
      cases dstOk s.n o.dst with
      | false => rfl
      | true =>
        simp only [cond_true]
        split
        · rfl
        · split
          · rw [hs]; rfl
          · split
            · rw [hs]; rfl
            · split
              · rename_i r0 _; exact ih hk _ (by show andT s.ob r0.ob = false; rw [hs]; cases r0.ob <;> rfl)
              · rfl
    have hsk : ∀ (n : Nat) (s : S), s.ob = false → (bif dstOk n o.dst then runOps E inl all ops (skipO o s) k else none) = none := by
      intro n s hs
      cases dstOk n o.dst with
      | false => rfl
      | true => exact ih hk _ hs
    unfold runOps
    split
    · exact he s hs
    · rename_i want _
      split
      · rfl
      · split
        · rename_i b _
          cases b
          · cases want
            · exact he _ hs
            · exact hsk _ _ hs
          · cases want
            · exact hsk _ _ hs
            · exact he _ hs
        · exact hsk _ _ hs
        · rfl
end
end Go.Am
