/- The abstract machine, sixteenth part: code, functions walked into, functions from values to values. -/
import Derived.Test.YthbllfhaaidhjaaAmu
import Derived.LoopN
namespace Go.Am
open Go Go.RowKit Go.Bas
section
variable {R : Type} {E : Env} {inl : AF → List V → S → (V → S → Option R) → Option R}
variable {ι : Nat → Option Cn} {O : Nat → Prop} {w0 : Zone} {w : World} {s : S} {a : Act}
theorem Nxt.refl (h : Sim ι O w0 s a w) : Nxt ι O w0 s w s a w := ⟨ι, h, Ext.refl⟩
theorem runOps_ok (hE : EnvOk E) (hI : InlOk E inl) {all : List Oper} {k : S → Option R} {r : R} (hk : Strict k) {Q : Exit → Act → World → Prop} : ∀ (ops : List Oper) {ι : Nat → Option Cn} {s : S} {a : Act} {w : World}, runOps E inl all ops s k = some r → Sim ι O w0 s a w →
    (∀ s' a' w', k s' = some r → s'.ob = true → Nxt ι O w0 s w s' a' w' → Q .normal a' w') → wpList E.P all.toArray Q ops a w := by
  intro ops
  induction ops with
  | nil =>
    intro ι s a w hx hs hQ
    have hob : s.ob = true := by
      cases hq : s.ob with
      | true => rfl
      | false => rw [runOps_strict [] hk s hq] at hx; cases hx
    exact hQ s a w hx hob (Nxt.refl hs)
  | cons o ops ih =>
    intro ι s a w hx hs hQ
    have hob : s.ob = true := by
      cases hq : s.ob with
      | true => rfl
      | false => rw [runOps_strict (o :: ops) hk s hq] at hx; cases hx
    have hkk : Strict fun s => runOps E inl all ops s k := fun s hs => runOps_strict ops hk s hs
    have go : ∀ {s1 : S}, Sim ι O w0 s1 a w → s1.ob = true → (∀ s' a' w', Nxt ι O w0 s1 w s' a' w' → Nxt ι O w0 s w s' a' w') → exec E inl o s1 (fun s => runOps E inl all ops s k) = some r →
        ∀ K : Act → World → Prop, (∀ a w, wpList E.P all.toArray Q ops a w → K a w) → o.wp E.P a w K Q := by
      intro s1 h1 ho1 hn he K hK
      refine exec_ok hE hI hkk he h1 ho1 fun s' a' w' hr hob' hnx => hK _ _ ?_
      obtain ⟨ι', q1, q2⟩ := hn _ _ _ hnx
      exact ih hr q1 fun s2 a2 w2 hk2 ho2 hn2 => hQ s2 a2 w2 hk2 ho2 (by obtain ⟨ι2, z1, z2⟩ := hn2; exact ⟨ι2, z1, q2.trans z2⟩)
    have sk : ∀ {s1 : S}, Sim ι O w0 s1 a w → (∀ s' a' w', Nxt ι O w0 s1 w s' a' w' → Nxt ι O w0 s w s' a' w') → ∀ {n}, n = s1.n → (bif dstOk n o.dst then runOps E inl all ops (skipO o s1) k else none) = some r →
        ∀ K : Act → World → Prop, (∀ a w, wpList E.P all.toArray Q ops a w → K a w) → K (a.put o.dst Go.undef) w := by
      intro s1 h1 hn n hnn he K hK
      subst hnn
      obtain ⟨hd, he⟩ := ofBif he
      obtain ⟨ι', q1, q2⟩ := hn _ _ _ (h1.skip hd)
      exact hK _ _ (ih he q1 fun s2 a2 w2 hk2 ho2 hn2 => hQ s2 a2 w2 hk2 ho2 (by obtain ⟨ι2, z1, z2⟩ := hn2; exact ⟨ι2, z1, q2.trans z2⟩))
    refine wpList_step fun K hK => ?_
    unfold runOps at hx
    split at hx
    · rename_i hg
      have hw : Region.wanted o (yielded all.toArray a.tmps) = true := by simp [Region.wanted, hg]
      rw [if_pos hw]
      exact go hs hob (fun _ _ _ h => h) hx K hK
    · rename_i j want hg
      split at hx
      · cases hx
      · rename_i t ht
        obtain ⟨y1, y2⟩ := hs.yields (all := all) ht
        split at hx
        · rename_i b hb
          have hy := y1 b hb
          cases b
          · have hs1 := hs.setS (c := false) hb rfl
            cases want
            · have hw : Region.wanted o (yielded all.toArray a.tmps) = true := by simp [Region.wanted, hg, hy]
              rw [if_pos hw]
              exact go hs1 hob (fun _ _ _ h => h) hx K hK
            · have hw : Region.wanted o (yielded all.toArray a.tmps) = false := by simp [Region.wanted, hg, hy]
              rw [hw]
              exact sk hs1 (fun _ _ _ h => h) rfl hx K hK
          · have hs1 := hs.setS (c := true) hb rfl
            cases want
            · have hw : Region.wanted o (yielded all.toArray a.tmps) = false := by simp [Region.wanted, hg, hy]
              rw [hw]
              exact sk hs1 (fun _ _ _ h => h) rfl hx K hK
            · have hw : Region.wanted o (yielded all.toArray a.tmps) = true := by simp [Region.wanted, hg, hy]
              rw [if_pos hw]
              exact go hs1 hob (fun _ _ _ h => h) hx K hK
        · rename_i hb
          have hy := y2 hb
          have hw : Region.wanted o (yielded all.toArray a.tmps) = false := by simp [Region.wanted, hg, hy]
          rw [hw]
          exact sk hs (fun _ _ _ h => h) rfl hx K hK
        · cases hx
theorem runTr_leaf {k : Ex → S → Option R} {r : R} {t : Tr} {e : Ex} {s : S} (h : Leaf t e s) (hx : runTr k t = some r) : k e s = some r := by
  induction h with
  | leaf => exact hx
  | t _ ih => exact ih hx
  | f _ ih => exact ih hx
theorem st_none {its : Nat → It} : ∀ n, stN its s (fun _ => false) n = s
  | 0 => rfl
  | n + 1 => st_none n
theorem drawOk_spec {all : List Oper} {l : List It} {s : S} (h : drawOk all l = true) (hm : ∀ j o, all[j]? = some o → Makes E all (s.nx + j) o (stN (itf l) s (fun _ => true) j) (itf l j)) : Drawn E all (itf l) s := by
  simp only [drawOk, Bool.and_eq_true] at h
  obtain ⟨⟨h1, h2⟩, h3⟩ := h
  have hlen := Nat.eq_of_beq_eq_true h1
  refine ⟨hm, fun j hj i hi => ?_, fun j o ho i hi => ?_⟩
  · have := allLt_spec (allLt_spec h2 j hj) i hi
    simp only [okPair, Bool.or_eq_true] at this
    rcases this with h | h
    · have := memNat_spec h
      cases hq : nthL (ancs all []) j with
      | none => rw [hq] at this; simp at this
      | some l' =>
        rw [hq] at this
        rw [nthL_eq] at hq
        exact .inl ⟨l', hq, by simpa using this⟩
    · right
      have g : ∀ m, m < all.length → nthL l m = some (itf l m) := by
        intro m hm
        rw [nthL_eq, itf, List.getD_eq_getElem?_getD, List.getElem?_eq_getElem (by omega)]
        rfl
      rw [g i (by omega), g j hj] at h
      exact indep_spec h
  · have hj : j < all.length := (List.getElem?_eq_some_iff.1 ho).1
    have := allLt_spec h3 j hj
    rw [nthL_eq, ho] at this
    have := List.all_eq_true.1 this i hi
    exact Nat.le_of_ble_eq_true this
/-- a region that draws its order -/
theorem runDr_ok (hE : EnvOk E) {id : Nat} {ops : List Oper} {k : Ex → S → Option R} {r : R} (hx : runDr E ops ops s (fun s its => bif s.ob && drawOk ops its then k .normal { s with ob := true } else none) = some r) (hs : Sim ι O w0 s a w) :
    (Code.region id ops.toArray true).wp E.P (fun e a' w' => ∃ e' s', e = exOf e' ∧ k e' s' = some r ∧ s'.ob = true ∧ Nxt ι O w0 s w s' a' w') a w := by
  obtain ⟨l, sF, h1, h2, h3, h4, h5, h6⟩ := runDr_spec ops s _ r hx
  obtain ⟨hb, hk⟩ := ofBif h1
  simp only [Bool.and_eq_true] at hb
  have hD := drawOk_spec hb.2 (h6 hb.1)
  have hbel : Below w.heap.size w w.drew := (Below.refl _ _).drew
  obtain ⟨p1, p2⟩ := hs.mem.pass hbel
  have hst : sD (itf l) s ops.length (fun _ => false) = { s with nx := s.nx + ops.length, ob := true } := by unfold sD; rw [st_none]
  have hsim : Sim ι O w0 (sD (itf l) s ops.length (fun _ => false)) a w.drew := by
    rw [hst]
    exact ⟨⟨p1, fun id hid => hs.fresh id (by have : s.nx + ops.length ≤ id := hid; omega)⟩, hs.size, fun t v hv => ⟨(hs.slots t v hv).1, (hs.slots t v hv).2.ext p2⟩, hs.defers⟩
  have hpl : pL (Array.replicate ops.length false) = fun _ => false := by
    funext j
    simp only [pL, Array.getD_eq_getD_getElem?, Array.getElem?_replicate]
    split <;> rfl
  have hsz : ops.toArray.size = ops.length := by simp
  refine wp_region_any hE.mixed ?_
  rw [hsz]
  refine drawn_ok hE hD (ι0 := ι) (X0 := XS ι O s) (w1 := w) (O := O) (w0 := w0) ?_ ops.length _ ι a w.drew (by simp) ?_ ?_ (by rw [hpl]; exact ⟨hsim, fun j hj _ => hs.fresh _ (by omega)⟩) (by rw [hpl, hst]; exact p2)
  · intro ι' a' w' q1 q2
    have heq : Eqv (sD (itf l) s ops.length (fun _ => true)) { sF with ob := true } := Eqv.trans (s2 := stN (itf l) s (fun _ => true) ops.length) ⟨fun _ => rfl, fun _ => rfl, rfl⟩ (Eqv.trans (s2 := sF) h3.symm ⟨fun _ => rfl, fun _ => rfl, rfl⟩)
    have hxs : XS ι' O (sD (itf l) s ops.length (fun _ => true)) = XS ι' O { sF with ob := true } := by unfold XS; rw [show lookH _ = lookH _ from funext heq.hp]
    refine ⟨.normal, { sF with ob := true }, rfl, hk, rfl, ι', q1.sim.eqv heq h4, ?_⟩
    rw [← hxs]
    exact q2
  · rw [hpl]
    have : ∀ (n : Nat) (p : Nat → Bool), cnt p n ≤ n := by
      intro n p
      induction n with
      | zero => exact Nat.le_refl _
      | succ n ih =>
        simp only [cnt]
        cases p n <;> simp <;> omega
    exact this _ _
  · rw [hpl]
    intro j o h; cases h
/-- code does what it is said to do -/
theorem Nxt.after {ι' : Nat → Option Cn} {s' s2 : S} {a2 : Act} {w' w2 : World} (h2 : Ext ι ι' (XS ι O s) (XS ι' O s') w w') (h : Nxt ι' O w0 s' w' s2 a2 w2) : Nxt ι O w0 s w s2 a2 w2 := by
  obtain ⟨ι2, h3, h4⟩ := h
  exact ⟨ι2, h3, h2.trans h4⟩
theorem rounds_mono {P : Program} {c : Code} {Q Q' : Exit → Act → World → Prop} (hq : ∀ e a w, Q e a w → Q' e a w) : ∀ n a w, Code.rounds P c Q n a w → Code.rounds P c Q' n a w
  | 0, _, _, h => h
  | n + 1, a, w, h => by
    rw [rounds_succ] at h ⊢
    refine Code.wp_mono ?_ h
    intro e a' w' h'
    cases e with
    | normal => exact rounds_mono hq n a' w' h'
    | _ => exact hq _ _ _ h'
/-- rounds, one by one -/
theorem loopN_ok {c : Code} {body : (Ex → S → Option R) → S → Option R} (hb : ∀ (k : Ex → S → Option R) (s : S) (r : R), body k s = some r → ∀ (ι : Nat → Option Cn) (O : Nat → Prop) (w0 : Zone) (a : Act) (w : World), Sim ι O w0 s a w → s.ob = true →
      c.wp E.P (fun e a' w' => ∃ e' s', e = exOf e' ∧ k e' s' = some r ∧ s'.ob = true ∧ Nxt ι O w0 s w s' a' w') a w) (k : Ex → S → Option R) (r : R) : ∀ (n : Nat) (s : S), loopN body k n s = some r → ∀ (ι : Nat → Option Cn) (O : Nat → Prop) (w0 : Zone) (a : Act) (w : World), Sim ι O w0 s a w → s.ob = true →
      Code.rounds E.P c (fun e a' w' => ∃ e' s', e = exOf e' ∧ k e' s' = some r ∧ s'.ob = true ∧ Nxt ι O w0 s w s' a' w') n a w := by
  intro n
  induction n with
  | zero => intro s hx; cases hx
  | succ n ih =>
    intro s hx ι O w0 a w hs hob
    rw [rounds_succ]
    refine Code.wp_mono ?_ (hb _ s r hx ι O w0 a w hs hob)
    rintro e a' w' ⟨e', s', rfl, hk, hob', hn⟩
    cases e' with
    | normal =>
      obtain ⟨ι', h1, h2⟩ := hn
      have := ih s' hk ι' O w0 a' w' h1 hob'
      refine (rounds_mono ?_ n a' w' this : _)
      rintro e2 a2 w2 ⟨e2', s2, h3, h4, h5, h6⟩
      exact ⟨e2', s2, h3, h4, h5, h6.after h2⟩
    | exit id => exact ⟨.exit id, s', rfl, hk, hob', hn⟩
    | ret => exact ⟨.ret, s', rfl, hk, hob', hn⟩
theorem aev_ok (hE : EnvOk E) (hI : InlOk E inl) : ∀ (c : AC) (k : Ex → S → Option R) (s : S) (r : R), LoopsOk E.P c → aev E inl c k s = some r → ∀ (ι : Nat → Option Cn) (O : Nat → Prop) (w0 : Zone) (a : Act) (w : World), Sim ι O w0 s a w → s.ob = true →
    c.erase.wp E.P (fun e a' w' => ∃ e' s', e = exOf e' ∧ k e' s' = some r ∧ s'.ob = true ∧ Nxt ι O w0 s w s' a' w') a w := by
  intro c
  induction c with
  | skip => intro k s r _ hx ι O w0 a w hs hob; exact wp_skip ⟨.normal, s, rfl, hx, hob, Nxt.refl hs⟩
  | exit id => intro k s r _ hx ι O w0 a w hs hob; exact wp_exit ⟨.exit id, s, rfl, hx, hob, Nxt.refl hs⟩
  | ret => intro k s r _ hx ι O w0 a w hs hob; exact wp_ret ⟨.ret, s, rfl, hx, hob, Nxt.refl hs⟩
  | bad c => intro k s r _ hx; cases hx
  | region id ops d =>
    intro k s r _ hx ι O w0 a w hs hob
    cases d with
    | true =>
      refine Code.wp_mono ?_ (runDr_ok hE hx hs)
      rintro e a' w' ⟨e', s', h1, h2, h3, h4⟩
      exact ⟨e', s', h1, h2, h3, h4⟩
    | false =>
      refine wp_region_lit (runOps_ok hE hI (k := fun s => bif s.ob then k .normal { s with ob := true } else none) (fun s hs => by show (bif s.ob then k .normal { s with ob := true } else none) = none; rw [hs]; rfl) ops hx hs ?_)
      intro s' a' w' hk hob' hn
      obtain ⟨_, hk⟩ := ofBif hk
      obtain ⟨ι', h1, h2⟩ := hn
      exact ⟨.normal, { s' with ob := true }, rfl, hk, rfl, ι', h1.ob true, h2⟩
  | seq x y ihx ihy =>
    intro k s r hl hx ι O w0 a w hs hob
    refine wp_seq (Code.wp_mono ?_ (ihx _ s r hl.1 hx ι O w0 a w hs hob))
    rintro e a' w' ⟨e', s', rfl, hk, hob', ι', h1, h2⟩
    cases e' with
    | normal =>
      refine Code.wp_mono ?_ (ihy _ s' r hl.2 hk ι' O w0 a' w' h1 hob')
      rintro e a2 w2 ⟨e2, s2, rfl, hk2, hob2, ι2, h3, h4⟩
      exact ⟨e2, s2, rfl, hk2, hob2, ι2, h3, h2.trans h4⟩
    | exit id => exact ⟨.exit id, s', rfl, hk, hob', ι', h1, h2⟩
    | ret => exact ⟨.ret, s', rfl, hk, hob', ι', h1, h2⟩
  | cond c x y ihx ihy =>
    intro k s r hl hx ι O w0 a w hs hob
    simp only [aev] at hx
    split at hx
    · rename_i t
      split at hx
      · rename_i b hb
        have hc : a.eval (.tmp t) = .bool b := ((hs.slots t _ hb).2).bool_inv
        cases b
        · exact wp_cond_false hc (ihy k _ r hl.2 hx ι O w0 a w (hs.setS hb rfl) hob)
        · exact wp_cond_true hc (ihx k _ r hl.1 hx ι O w0 a w (hs.setS hb rfl) hob)
      · cases hx
    · rename_i b
      cases b
      · exact wp_cond_false rfl (ihy k _ r hl.2 hx ι O w0 a w hs hob)
      · exact wp_cond_true rfl (ihx k _ r hl.1 hx ι O w0 a w hs hob)
    · cases hx
  | block id c ih =>
    intro k s r hl hx ι O w0 a w hs hob
    refine wp_block (Code.wp_mono ?_ (ih _ s r hl hx ι O w0 a w hs hob))
    rintro e a' w' ⟨e', s', rfl, hk, hob', hn⟩
    cases e' with
    | normal => exact ⟨.normal, s', rfl, hk, hob', hn⟩
    | ret => exact ⟨.ret, s', rfl, hk, hob', hn⟩
    | exit i =>
      simp only [exOf, Exit.inBlock]
      cases hq : Nat.beq i id with
      | true =>
        rw [if_pos (Nat.eq_of_beq_eq_true hq)]
        simp only [hq] at hk
        exact ⟨.normal, s', rfl, hk, hob', hn⟩
      | false =>
        rw [if_neg (fun e => by subst e; simp at hq)]
        simp only [hq] at hk
        exact ⟨.exit i, s', rfl, hk, hob', hn⟩
  | loop c ts vs g ih =>
    intro k s r hl hx ι O w0 a w hs hob
    simp only [aev] at hx
    split at hx
    · rename_i L s1 hn
      obtain ⟨hvo, hx⟩ := ofBif hx
      split at hx
      · rename_i t ht
        have hS := norm_small hn
        obtain ⟨q1, q2, q3⟩ := hs.toMSim.front hS
        have hsim : Sim (ιL ι L) (OL ι O s L s1) (zoneL ι L s1 w) s1 a w := by
          refine ⟨q1, by rw [hS.n]; exact hs.size, fun t v hv => ?_, hs.defers⟩
          obtain ⟨u, h1, h2⟩ := hS.sl t v hv
          obtain ⟨h4, h5⟩ := hs.slots t u h1
          exact ⟨by rw [hS.n]; exact h4, renV_rep Ren.idx q2 h2 h5⟩
        refine Code.wp_mono ?_ (hl s1 t ht _ _ _ a w hsim hS.ob)
        rintro e a' w' ⟨e', s2, hlf, rfl, ι', p1, p2⟩
        have hk := runTr_leaf hlf hx
        split at hk
        · rename_i s' hb
          unfold back at hb
          split at hb
          · rename_i sl hsl
            split at hb
            · rename_i hp hhp
              injection hb with hb; subst hb
              obtain ⟨ι2, z1, z2, z3⟩ := hs.toMSim.back hS hvo p1.toMSim p2 hhp (s' := ⟨sl, hp ++ (L.map (fun i => (i, none)) ++ s.hp), s.nx + s2.nx, true, s2.n⟩) rfl rfl
              refine ⟨e', _, rfl, hk, rfl, ι2, ⟨z1, p1.size, fun t v hv => ?_, p1.defers⟩, z2⟩
              obtain ⟨u, k1, k2⟩ := renS_look hsl hv
              obtain ⟨h4, h5⟩ := p1.slots t u k1
              exact ⟨h4, z3 _ _ _ k2 h5⟩
            · cases hb
          · cases hb
        · cases hk
      · cases hx
    · cases hx
  | unr n c ih =>
    intro k s r hl hx ι O w0 a w hs hob
    exact wp_loop_rounds n (loopN_ok (fun k s r hx ι O w0 a w hs hob => ih k s r hl hx ι O w0 a w hs hob) k r n s hx ι O w0 a w hs hob)

/-! ### functions -/
def resM (tmps : Array Value) : ResultVar → Sem Value
  | .tmp t => pure (tmps.getD t Go.undef)
  | .cell x t => do loadVar t (← asAddr (tmps.getD x Go.undef))
theorem resV_ok : ∀ (rs : List ResultVar) {l : List V}, resV E.P s rs = some l → Sim ι O w0 s a w →
    ∃ cs, (rs.mapM (resM a.tmps)).run E.P w = .ok cs w ∧ VReps ι (XS ι O s) w l cs
  | [], l, h, hs => by injection h with h; subst h; exact ⟨[], by simp, .nil⟩
  | .tmp t :: rs, l, h, hs => by
    simp only [resV] at h
    cases h1 : look s.sl t with
    | none => rw [h1] at h; cases h
    | some v =>
      cases h2 : resV E.P s rs with
      | none => rw [h1, h2] at h; cases h
      | some l' =>
        rw [h1, h2] at h; injection h with h; subst h
        obtain ⟨cs, q1, q2⟩ := resV_ok rs h2 hs
        exact ⟨_ :: cs, by rw [List.mapM_cons]; simp only [resM, Sem.run_bind, Sem.run_pure, Result.andThen_ok]; rw [q1]; rfl, .cons (hs.slots t v h1).2 q2⟩
  | .cell t ty :: rs, l, h, hs => by
    simp only [resV] at h
    split at h
    · rename_i id p off sh h1
      split at h
      · rename_i b hb
        split at h
        · rename_i v hg
          split at h
          · rename_i l' h2
            obtain ⟨hl, h⟩ := ofBif h
            injection h with h; subst h
            obtain ⟨cs, q1, q2⟩ := resV_ok rs h2 hs
            have hv := (hs.slots t _ h1).2
            obtain ⟨g, hc, _⟩ := hv.ref_inv
            obtain ⟨d, r1, r2⟩ := op_load (P := E.P) (t := ty) hs.mem hv (.inl ⟨id, p, off, sh, b, rfl, hb, hg, hl⟩)
            rw [hc] at r1
            have r1' : (loadVar ty ⟨g, off, none⟩).run E.P w = .ok d w := by simpa [Instr.loadAt, Instr.sureAddr] using r1
            refine ⟨d :: cs, ?_, .cons r2 q2⟩
            have e : resM a.tmps (.cell t ty) = loadVar ty ⟨g, off, none⟩ := by
              show (do loadVar ty (← asAddr (a.tmps.getD t Go.undef))) = _
              rw [hc]
              rfl
            rw [List.mapM_cons, Sem.run_bind, e, r1', Result.andThen_ok, Sem.run_bind, q1]
            rfl
          · cases h
        · cases h
      · cases h
    · cases h
theorem tupV_rep {X : Nat → Prop} {l : List V} {cs : List Value} (h : VReps ι X w l cs) : VRep ι X w (tupV l) (if h : cs.toArray.size = 1 then cs.toArray[0] else .tuple cs.toArray) := by
  have hl := h.length
  match l, cs, h, hl with
  | [], [], h, _ => exact .tup h
  | [v], [c], h, _ => cases h with | cons a b => exact a
  | u :: v :: l, c :: d :: cs, h, _ => exact VRep.tup h
theorem results_ok {fn : Func} {l : List V} (h : resV E.P s fn.results.toList = some l) (hs : Sim ι O w0 s a w) : ∃ cs : List Value, VReps ι (XS ι O s) w l cs ∧ (results fn a.tmps).run E.P w = .ok (if h : cs.toArray.size = 1 then cs.toArray[0] else .tuple cs.toArray) w := by
  obtain ⟨cs, h1, h2⟩ := resV_ok _ h hs
  refine ⟨cs, h2, ?_⟩
  have hres : results fn a.tmps = (do let vs ← fn.results.mapM (resM a.tmps); pure (if h : vs.size = 1 then vs[0] else .tuple vs)) := by
    unfold results
    congr
  rw [hres, Array.mapM_eq_mapM_toList, Sem.run_bind, map_eq_pure_bind, Sem.run_bind, h1]
  rfl
theorem slots_look : ∀ (vs : List V) (i t : Nat) {v : V}, look (slots i vs) t = some v → ∃ j, t = i + j ∧ vs[j]? = some v
  | [], i, t, v, h => by cases h
  | x :: vs, i, t, v, h => by
    simp only [slots, look] at h
    cases hq : Nat.beq i t with
    | true =>
      rw [hq] at h; injection h with h; subst h
      exact ⟨0, (Nat.eq_of_beq_eq_true hq).symm, rfl⟩
    | false =>
      rw [hq] at h
      obtain ⟨j, h1, h2⟩ := slots_look vs (i + 1) t h
      exact ⟨j + 1, by omega, by simpa using h2⟩
theorem Sim.start {vs : List V} {cs : List Value} {n : Nat} (hm : MSim ι O w0 s w) (hv : VReps ι (XS ι O s) w vs cs) (hn : vs.length ≤ n) :
    Sim ι O w0 { s with sl := Am.slots 0 vs, n := n } { tmps := cs.toArray ++ Array.replicate (n - cs.toArray.size) Go.undef, defers := [] } w := by
  have hl := hv.length
  refine ⟨⟨hm.mem, hm.fresh⟩, by simp; omega, fun t v ht => ?_, rfl⟩
  obtain ⟨j, e, hj⟩ := slots_look vs 0 t ht
  have e : t = j := by omega
  subst e
  rw [← nthL_eq] at hj
  obtain ⟨c, h1, h2⟩ := hv.nth hj
  have hlt : t < cs.length := (List.getElem?_eq_some_iff.1 h1).1
  refine ⟨by show t < n; omega, ?_⟩
  have : (cs.toArray ++ Array.replicate (n - cs.toArray.size) Go.undef).getD t Go.undef = c := by
    rw [Array.getD_eq_getD_getElem?, Array.getElem?_append_left (by simpa using hlt)]
    simp [h1]
  rw [this]
  exact h2
theorem inlN_ok (hE : EnvOk E) : ∀ d, InlOk (R := R) E (inlN E d)
  | 0 => by intro f af _ as s k r hx; cases hx
  | d + 1 => by
    intro f af haf as s k r hx ι O w0 w cs hm hob hv
    obtain ⟨hn, hx⟩ := ofBif hx
    obtain ⟨fn, h1, h2, h3, h4⟩ := haf.code
    have hle : as.length ≤ af.n := Nat.le_of_ble_eq_true hn
    have hs := Sim.start (n := af.n) hm hv hle
    refine calls_of_wp h1 h2 ?_
    rw [h4]
    refine Code.wp_mono ?_ (aev_ok hE (inlN_ok hE d) af.ac _ _ r haf.loops hx ι O w0 _ w hs hob)
    rintro e a' w' ⟨e', s', rfl, hk, hob', ι', q1, q2⟩
    have fin : (match resV E.P s' af.results with | some l => k (tupV l) s' | none => none) = some r → bodyPost E.P fn (fun e w' => ∃ c v s' ι', e = .returned c ∧ k v s' = some r ∧ s'.ob = true ∧ MSim ι' O w0 s' w' ∧ Ext ι ι' (XS ι O s) (XS ι' O s') w w' ∧ VRep ι' (XS ι' O s') w' v c) .ret a' w' := by
      intro hk
      split at hk
      · rename_i l hl
        rw [← h3] at hl
        obtain ⟨cs', r1, r2⟩ := results_ok hl q1
        exact ⟨q1.defers, _, r2, _, _, s', ι', rfl, hk, hob', q1.toMSim, q2, tupV_rep r1⟩
      · cases hk
    cases e' with
    | normal => exact fin hk
    | ret => exact fin hk
    | exit id => cases hk
theorem RowC.any {ι' : Nat → Option Cn} {X : Nat → Prop} {n e v ds} (h : RowC ι X w n e v ds) : RowC ι' X w n e v ds := by
  cases h with
  | bytes => exact .bytes
  | rows he hr => exact .rows he (CReps.any_of (fun p q => CRep.any p q) hr he)
theorem sub_ext {X Y : Nat → Prop} (h : ∀ b, Y b → X b) : Ext no no X Y w w := Ext.mk (Nat.le_refl _) (fun _ _ e => e) (fun _ _ _ => rfl) (fun b hb => .inl (h b hb))
theorem ownsRow_up {base base' : Nat} {T : TypeId} {size n c m : Nat} {A : Option Addr} {ds : List Value} (h : w.ownsRow base T size (.slice A n c) m ds) (hb : ∀ a, A = some a → base' ≤ a.block) : w.ownsRow base' T size (.slice A n c) m ds := by
  refine ⟨h.1, h.2.imp id ?_⟩
  rintro ⟨g, cap, cur, e, hg, r⟩
  refine ⟨g, cap, cur, e, ?_, r⟩
  injection e with e1 _ _
  exact hb _ e1
theorem packs_out {hp : Nat → Option Blk} {w' : World} (h : HSim ι O (allOf w) hp w') {tys : List (Sh × TypeId)} {l l' : List V} {cs : List Value} (hp' : packs hp tys l = some l') (hv : VReps ι (Ex1 ι hp O) w' l cs) :
    OutRep O w w' (tupV l') (if h : cs.toArray.size = 1 then cs.toArray[0] else .tuple cs.toArray) := by
  have outer : ∀ hp b, O b → Ex1 ι hp O b := fun _ b hb => .inl hb
  cases tys with
  | nil =>
    cases l with
    | nil => injection hp' with hp'; subst hp'; cases hv; exact .val (.tup .nil)
    | cons v l => cases hp'
  | cons s tys =>
    cases l with
    | nil => cases hp'
    | cons v l =>
      cases hv with
      | cons hv0 hvr =>
        rename_i c cs
        simp only [packs] at hp'
        split at hp'
        · rename_i x y hpk hlw
          obtain ⟨hid, hp'⟩ := ofBif hp'
          injection hp' with hp'; subst hp'
          obtain ⟨hs1, hx1⟩ := h.seals (idss l)
          have hrest := lows_rep h hx1 l hlw (Lent.seal h _) hvr
          have hlen := hrest.length
          -- by value
          have plain : VRep no O w' x c → OutRep O w w' (tupV (x :: y)) (if h : (c :: cs).toArray.size = 1 then (c :: cs).toArray[0] else .tuple (c :: cs).toArray) := by
            intro hx
            exact .val (tupV_rep (.cons hx (hrest.ext (sub_ext fun b hb => .inl hb))))
          -- a row that is handed over
          have handed : ∀ {T : TypeId} {u : V} {A : Option Addr} {n k : Nat} {ds : List Value}, x = .ownv T u → c = .slice A n k → RowC no (fun b => O b ∨ A.map (·.block) = some b) w' n (elSh u) u ds → w'.ownsRow w.heap.size T (elSh u).size (.slice A n k) n ds →
              (∀ b, A.map (·.block) = some b → Ex1 ι (updH (sealB hp (idss l)) hp) O b) → OutRep O w w' (tupV (x :: y)) (if h : (c :: cs).toArray.size = 1 then (c :: cs).toArray[0] else .tuple (c :: cs).toArray) := by
            rintro T u A n k ds rfl rfl hr ho hb
            have hrest' := hrest.ext (sub_ext (w := w') (Y := fun b => O b ∨ A.map (·.block) = some b) fun b hb' => hb'.elim (fun h => .inl h) (hb b))
            cases y with
            | nil =>
              cases hrest
              exact .own hr ho
            | cons y0 y =>
              cases cs with
              | nil => simp at hlen
              | cons c0 cs =>
                have := OutRep.tup hr ho hrest'
                exact this
          have byLow : low hp s.1 v = some x → OutRep O w w' (tupV (x :: y)) (if h : (c :: cs).toArray.size = 1 then (c :: cs).toArray[0] else .tuple (c :: cs).toArray) := by
            intro hl
            obtain ⟨hs2, hx2⟩ := h.seals (ids v)
            exact plain ((low_repV h hx2 hl (Lent.seal h _) hv0).ext (sub_ext fun b hb => .inl hb))
          cases v with
          | own id n sh =>
            simp only [pack] at hpk
            obtain ⟨A, k, T0, rfl, hi, hA⟩ := hv0.own_inv
            split at hpk
            · rename_i T sh' u hk
              injection hpk with hpk
              cases h.blk id _ hk with
              | row h1 h2 h3 =>
                rw [hi] at h1; injection h1 with h1; injection h1 with e1 e2 e3 e4 e5
                subst e1; subst e2; subst e3; subst e4; subst e5
                have hel := h2.elSh
                have hmine : ∀ b, A.map (·.block) = some b → Mine ι hp id b := by
                  intro b hb
                  cases A with
                  | none => cases hb
                  | some a' => injection hb with hb; subst hb; exact ⟨_, _, hk, rfl, hi, rfl⟩
                refine handed hpk.symm rfl (by rw [hel]; exact (h2.any (ι' := no)).ext (sub_ext fun b hb => hb.elim (fun h => .inl h) fun hb => .inr ⟨id, hmine b hb⟩)) (by rw [hel]; exact ownsRow_up h3 fun a' ha' => Nat.not_lt.1 (h.fresh id _ (hmine _ (by rw [ha']; rfl))).1) ?_
                intro b hb
                obtain ⟨kk, cc, m1, m2, m3, m4⟩ := hmine b hb
                refine .inr ⟨id, kk, cc, ?_, m2, m3, m4⟩
                rw [seal_at, if_neg (by simpa [idOk] using hid)]
                exact m1
            · rename_i u hk
              injection hpk with hpk; subst hpk
              rcases own_cont h hi hk with ⟨ds, _, _, h3⟩ | ⟨h1, h2, _, _⟩
              · cases h3
              · refine plain (.one ((row_any h2 h1).ext (sub_ext fun b hb => .inl hb)) ?_)
                revert h2
                cases u <;> simp [isRow, contV, V.isAgg]
            · cases hpk
          | nils =>
            simp only [pack] at hpk
            obtain ⟨u, hu, hx⟩ := Option.map_eq_some_iff.1 hpk
            cases hv0.nils_inv
            have hform : u = .bytes [] ∨ ∃ e, u = .rows e [] := by
              revert hu
              cases s.1 <;> simp [low] <;> intro h <;> first | exact .inl h.symm | exact .inr ⟨_, h.symm⟩
            rcases hform with rfl | ⟨e, rfl⟩
            · exact handed hx.symm rfl (.bytes (l := [])) (World.ownsRow_nil w' _ _ _) fun b hb => by cases hb
            · exact handed hx.symm rfl (.rows (l := []) (by simp) .nil) (World.ownsRow_nil w' _ _ _) fun b hb => by cases hb
          | _ => exact byLow hpk
        · cases hp'
/-- a function, of values, does what it is said to do -/
theorem callV_ok (hE : EnvOk E) {f : FuncId} {af : AF} (haf : AfOk E.P f af) {vs : List V} {v : V} (h : callV E af vs = some v) : SpecV E.P f vs v := by
  intro O w cs hO hv
  obtain ⟨hn, hx⟩ := ofBif h
  obtain ⟨fn, h1, h2, h3, h4⟩ := haf.code
  have hle : vs.length ≤ af.n := Nat.le_of_ble_eq_true hn
  have hnone : ∀ {X : Nat → Prop}, Ex1 no (lookH []) X = X := by
    intro X
    funext b
    apply propext
    exact ⟨fun h => h.elim id fun ⟨_, _, _, h, _⟩ => (by cases h), .inl⟩
  have hm : MSim no O (allOf w) ⟨[], [], 0, true, 0⟩ w := by
    refine ⟨⟨Keeps.refl _ _, fun _ h => h, hO, fun id k hk => (by cases hk), fun id id' b h => ?_, fun id b h => ?_⟩, fun _ _ => rfl⟩
    · obtain ⟨_, _, h, _⟩ := h; cases h
    · obtain ⟨_, _, h, _⟩ := h; cases h
  have hv' : VReps no (XS no O ⟨[], [], 0, true, 0⟩) w vs cs := by unfold XS; rw [hnone]; exact hv
  have hs := Sim.start (n := af.n) hm hv' hle
  refine calls_of_wp h1 h2 ?_
  rw [h4]
  refine Code.wp_mono ?_ (aev_ok hE (inlN_ok hE 6) af.ac _ _ v haf.loops hx no O (allOf w) _ w hs rfl)
  rintro e a' w' ⟨e', s', rfl, hk, hob', ι', q1, q2⟩
  have fin : (match resV E.P s' af.results with | some l => (packs (lookH s'.hp) af.rty l).map tupV | none => none) = some v → bodyPost E.P fn (fun e w' => Below w.heap.size w w' ∧ ∃ c, e = .returned c ∧ OutRep O w w' v c) .ret a' w' := by
    intro hk
    split at hk
    · rename_i l hl
      rw [← h3] at hl
      obtain ⟨cs', r1, r2⟩ := results_ok hl q1
      obtain ⟨l', hl', rfl⟩ := Option.map_eq_some_iff.1 hk
      exact ⟨q1.defers, _, r2, q1.mem.below.below, _, rfl, packs_out q1.mem hl' r1⟩
    · cases hk
  cases e' with
  | normal => exact fin hk
  | ret => exact fin hk
  | exit id => cases hk
end
end Go.Am
