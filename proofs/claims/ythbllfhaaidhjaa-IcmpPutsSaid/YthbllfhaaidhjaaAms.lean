/- The abstract machine: a region that draws its order does what it does in the order of the text. -/
import Derived.Test.YthbllfhaaidhjaaAmr
namespace Go.Am
open Go Go.RowKit Go.Bas
section
variable {E : Env} {all : List Oper} {R : Type}
/-- what the guard of an operation says in a state -/
def GuardRun (all : List Oper) (o : Oper) (s : S) : Prop := o.guard = none ∨ ∃ j want t, o.guard = some (j, want) ∧ (nthL all j).bind (·.dst) = some t ∧ look s.sl t = some (.bool want)
def GuardSkip (all : List Oper) (o : Oper) (s : S) : Prop := ∃ j want t, o.guard = some (j, want) ∧ (nthL all j).bind (·.dst) = some t ∧ (look s.sl t = some .void ∨ look s.sl t = some (.bool (!want)))
/-- what operation o comes to in state s -/
structure Makes (E : Env) (all : List Oper) (nid : Nat) (o : Oper) (s : S) (it : It) : Prop where
  dok : dstOk s.n o.dst = true
  dst : it.dst = o.dst
  rd : it.rd = rdsO all o
  run : (GuardRun all o s ∧ ∃ vs r, mapO (evO s.sl) (opnds o) = some vs ∧ inlOf E o vs = none ∧ act E.P E.G o vs (lookH s.hp) nid = some r ∧ r.ob = true ∧ it.v = r.v ∧ it.wr = r.wr ∧ it.tch = tchOf o vs) ∨
    (GuardSkip all o s ∧ it.v = .void ∧ it.wr = [] ∧ it.tch = [])
theorem mapO_congr {α β : Type} {f g : α → Option β} : ∀ (l : List α), (∀ x ∈ l, f x = g x) → mapO f l = mapO g l
  | [], _ => rfl
  | x :: l, h => by simp only [mapO]; rw [h x (by simp), mapO_congr l (fun y hy => h y (by simp [hy]))]
theorem tmps_mem : ∀ {l : List Operand} {t : Nat}, .tmp t ∈ l → t ∈ tmpsOf l
  | x :: l, t, h => by
    rcases List.mem_cons.1 h with rfl | h
    · simp [tmpsOf]
    · have := tmps_mem h
      cases x <;> simp [tmpsOf, this]
/-- it comes to the same where what it looks at is the same -/
theorem Makes.agree {nid : Nat} {o : Oper} {s s' : S} {it : It} (h : Makes E all nid o s it) (h1 : ∀ t ∈ it.rd, look s.sl t = look s'.sl t) (h2 : ∀ i ∈ it.tch, lookH s.hp i = lookH s'.hp i) (h3 : s.n = s'.n) : Makes E all nid o s' it := by
  have hrd := h.rd
  have hg : ∀ {j want t}, o.guard = some (j, want) → (nthL all j).bind (·.dst) = some t → look s.sl t = look s'.sl t := by
    intro j want t hg ht
    refine h1 t ?_
    rw [hrd]
    simp [rdsO, hg, ht]
  refine ⟨by rw [← h3]; exact h.dok, h.dst, h.rd, ?_⟩
  rcases h.run with ⟨g, vs, r, a1, a2, a3, a4, a5, a6, a7⟩ | ⟨⟨j, want, t, g1, g2, g3⟩, b⟩
  · refine .inl ⟨?_, vs, r, ?_, a2, ?_, a4, a5, a6, a7⟩
    · rcases g with g | ⟨j, want, t, g1, g2, g3⟩
      · exact .inl g
      · exact .inr ⟨j, want, t, g1, g2, by rw [← hg g1 g2]; exact g3⟩
    · rw [← a1]
      refine (mapO_congr _ fun x hx => ?_).symm
      cases x with
      | tmp t =>
        refine h1 t ?_
        rw [hrd]
        exact List.mem_append.2 (.inr (tmps_mem hx))
      | _ => rfl
    · rw [← a3]
      exact (act_congr fun i hi => h2 i (by rw [a7]; exact hi)).symm
  · exact .inr ⟨⟨j, want, t, g1, g2, by rw [← hg g1 g2]; exact g3⟩, b⟩
theorem Makes.eqv {nid : Nat} {o : Oper} {s s' : S} {it : It} (h : Makes E all nid o s it) (e : Eqv s s') : Makes E all nid o s' it := h.agree (fun t _ => e.sl t) (fun i _ => e.hp i) e.n
def itf (l : List It) : Nat → It := fun i => l.getD i default
theorem st_shift {it : It} {l : List It} {s : S} : ∀ m, stN (itf (it :: l)) s (fun _ => true) (m + 1) = stN (itf l) (effI it s) (fun _ => true) m
  | 0 => rfl
  | m + 1 => by
    show effI (itf (it :: l) (m + 1)) (stN (itf (it :: l)) s (fun _ => true) (m + 1)) = effI (itf l m) (stN (itf l) (effI it s) (fun _ => true) m)
    rw [st_shift m]
    rfl
theorem setS_eqv {s : S} {t : Nat} {b c : Bool} (h : look s.sl t = some (.bool b)) (e : b = c) : Eqv (setS s t c) s := by
  subst e
  refine ⟨fun u => ?_, fun _ => rfl, rfl⟩
  show look ((t, V.bool b) :: s.sl) u = _
  simp only [look]
  cases hq : Nat.beq t u with
  | true => have := Nat.eq_of_beq_eq_true hq; subst this; exact h.symm
  | false => rfl
theorem runDr_spec : ∀ (ops : List Oper) (s : S) (k : S → List It → Option R) (r : R), runDr E all ops s k = some r →
    ∃ l sF, k sF l = some r ∧ l.length = ops.length ∧ Eqv sF (stN (itf l) s (fun _ => true) ops.length) ∧ sF.nx = s.nx + ops.length ∧ (sF.ob = true → s.ob = true) ∧
      (sF.ob = true → ∀ j o, ops[j]? = some o → Makes E all (s.nx + j) o (stN (itf l) s (fun _ => true) j) (itf l j)) := by
  intro ops
  induction ops with
  | nil => intro s k r h; exact ⟨[], s, h, rfl, Eqv.refl _, rfl, id, fun _ j o hj => by simp at hj⟩
  | cons o ops ih =>
    intro s k r h
    have act1 : ∀ {s1 : S}, Eqv s1 s → s1.nx = s.nx → s1.ob = s.ob → GuardRun all o s → actD E all o s1 (fun s it => runDr E all ops s fun s l => k s (it :: l)) = some r →
        ∃ l sF, k sF l = some r ∧ l.length = (o :: ops).length ∧ Eqv sF (stN (itf l) s (fun _ => true) (o :: ops).length) ∧ sF.nx = s.nx + (o :: ops).length ∧ (sF.ob = true → s.ob = true) ∧
          (sF.ob = true → ∀ j o', (o :: ops)[j]? = some o' → Makes E all (s.nx + j) o' (stN (itf l) s (fun _ => true) j) (itf l j)) := by
      intro s1 he hnx hob hg h
      unfold actD at h
      obtain ⟨hd, h⟩ := ofBif h
      split at h
      · cases h
      · rename_i vs hvs
        split at h
        · cases h
        · rename_i hin
          split at h
          · rename_i res hact
            obtain ⟨l, sF, h1, h2, h3, h4, h5, h6⟩ := ih _ _ _ h
            have hob' : sF.ob = true → s1.ob = true ∧ res.ob = true := fun hb => by
              have : andT s1.ob res.ob = true := h5 hb
              revert this
              cases s1.ob <;> cases res.ob <;> simp [andT]
            have hE : Eqv (s1.apply o.dst res) (effI ⟨o.dst, res.v, res.wr, rdsO all o, tchOf o vs⟩ s) := Eqv.trans (s2 := effI ⟨o.dst, res.v, res.wr, rdsO all o, tchOf o vs⟩ s1) ⟨fun _ => rfl, fun _ => rfl, rfl⟩ (he.eff _)
            refine ⟨_ :: l, sF, h1, by simp [h2], ?_, by rw [h4]; show s1.nx + 1 + ops.length = _; simp; omega, fun hb => by rw [← hob]; exact (hob' hb).1, fun hb j o' hj => ?_⟩
            · rw [List.length_cons, st_shift]
              exact h3.trans (hE.st _)
            · cases j with
              | zero =>
                simp at hj; subst hj
                refine Makes.eqv (s := s1) ⟨hd, rfl, rfl, .inl ⟨?_, vs, res, hvs, hin, ?_, (hob' hb).2, rfl, rfl, rfl⟩⟩ he
                · rcases hg with g | ⟨j, want, t, g1, g2, g3⟩
                  · exact .inl g
                  · exact .inr ⟨j, want, t, g1, g2, by rw [he.sl]; exact g3⟩
                · rw [Nat.add_zero, ← hnx]; exact hact
              | succ j =>
                have := h6 hb j o' (by simpa using hj)
                rw [st_shift]
                have hm := this.eqv (hE.st (p := fun _ => true) (its := itf l) j)
                rw [show s.nx + (j + 1) = (s1.apply o.dst res).nx + j from by show _ = s1.nx + 1 + j; omega]
                exact hm
          · cases h
    have skip1 : ∀ {s1 : S}, Eqv s1 s → s1.nx = s.nx → s1.ob = s.ob → GuardSkip all o s → skipD all o s1 (fun s it => runDr E all ops s fun s l => k s (it :: l)) = some r →
        ∃ l sF, k sF l = some r ∧ l.length = (o :: ops).length ∧ Eqv sF (stN (itf l) s (fun _ => true) (o :: ops).length) ∧ sF.nx = s.nx + (o :: ops).length ∧ (sF.ob = true → s.ob = true) ∧
          (sF.ob = true → ∀ j o', (o :: ops)[j]? = some o' → Makes E all (s.nx + j) o' (stN (itf l) s (fun _ => true) j) (itf l j)) := by
      intro s1 he hnx hob hg h
      obtain ⟨hd, h⟩ := ofBif h
      obtain ⟨l, sF, h1, h2, h3, h4, h5, h6⟩ := ih _ _ _ h
      have hE : Eqv (skipO o s1) (effI ⟨o.dst, .void, [], rdsO all o, []⟩ s) := Eqv.trans (s2 := effI ⟨o.dst, .void, [], rdsO all o, []⟩ s1) ⟨fun _ => rfl, fun _ => rfl, rfl⟩ (he.eff _)
      refine ⟨_ :: l, sF, h1, by simp [h2], ?_, by rw [h4]; show s1.nx + 1 + ops.length = _; simp; omega, fun hb => by rw [← hob]; exact h5 hb, fun hb j o' hj => ?_⟩
      · rw [List.length_cons, st_shift]
        exact h3.trans (hE.st _)
      · cases j with
        | zero =>
          simp at hj; subst hj
          obtain ⟨j, want, t, g1, g2, g3⟩ := hg
          exact Makes.eqv (s := s1) ⟨hd, rfl, rfl, .inr ⟨⟨j, want, t, g1, g2, by rw [he.sl]; exact g3⟩, rfl, rfl, rfl⟩⟩ he
        | succ j =>
          have := h6 hb j o' (by simpa using hj)
          rw [st_shift]
          have hm := this.eqv (hE.st (p := fun _ => true) (its := itf l) j)
          rw [show s.nx + (j + 1) = (skipO o s1).nx + j from by show _ = s1.nx + 1 + j; omega]
          exact hm
    unfold runDr at h
    split at h
    · rename_i hg
      exact act1 (Eqv.refl s) rfl rfl (.inl hg) h
    · rename_i j want hg
      split at h
      · cases h
      · rename_i t ht
        split at h
        · rename_i b hb
          cases b
          · cases want
            · exact act1 (setS_eqv hb rfl) rfl rfl (.inr ⟨j, false, t, hg, ht, hb⟩) h
            · exact skip1 (setS_eqv hb rfl) rfl rfl ⟨j, true, t, hg, ht, .inr hb⟩ h
          · cases want
            · exact skip1 (setS_eqv hb rfl) rfl rfl ⟨j, false, t, hg, ht, .inr hb⟩ h
            · exact act1 (setS_eqv hb rfl) rfl rfl (.inr ⟨j, true, t, hg, ht, hb⟩) h
        · rename_i hb
          exact skip1 (Eqv.refl s) rfl rfl ⟨j, want, t, hg, ht, .inl hb⟩ h
        · cases h

/-! ### orders -/
theorem allLt_spec : ∀ {n : Nat} {p : Nat → Bool}, allLt n p = true → ∀ i, i < n → p i = true
  | 0, p, _, i, h => by omega
  | n + 1, p, h, i, hi => by
    simp only [allLt, Bool.and_eq_true] at h
    rcases Nat.lt_or_ge i n with h1 | h1
    · exact allLt_spec h.2 i h1
    · obtain rfl : i = n := by omega
      exact h.1
theorem memNat_spec {x : Nat} : ∀ {l : List Nat}, memNat x l = true → x ∈ l
  | [], h => by cases h
  | y :: l, h => by
    simp only [memNat, Bool.or_eq_true] at h
    rcases h with h | h
    · simp [Nat.eq_of_beq_eq_true h]
    · simp [memNat_spec h]
/-- whom an operation waits for, and whom these wait for, have come up where these are all that have -/
def Closed (all : List Oper) (p : Nat → Bool) : Prop := ∀ j o, p j = true → all[j]? = some o → ∀ i ∈ dirs o, p i = true
theorem ancs_spec (all0 : List Oper) (p : Nat → Bool) (hc : Closed all0 p) : ∀ (ops : List Oper) (acc : List (List Nat)) (b : Nat), acc.length = b → all0.drop b = ops →
    (∀ (j : Nat) (l : List Nat), acc[j]? = some l → ∀ o, all0[j]? = some o → (∀ i ∈ dirs o, p i = true) → ∀ i ∈ l, p i = true) →
    ∀ (j : Nat) (l : List Nat), (ancs ops acc)[j]? = some l → ∀ o, all0[j]? = some o → (∀ i ∈ dirs o, p i = true) → ∀ i ∈ l, p i = true
  | [], acc, b, _, _, h => h
  | o :: ops, acc, b, hb, hd, h => by
    refine ancs_spec all0 p hc ops _ (b + 1) (by simp [hb]) (by rw [← List.drop_drop, hd]; rfl) ?_
    intro j l hj o' ho' hdir i hi
    rcases Nat.lt_or_ge j acc.length with hlt | hge
    · rw [List.getElem?_append_left hlt] at hj
      exact h j l hj o' ho' hdir i hi
    · have hjl : j = acc.length := by
        have := (List.getElem?_eq_some_iff.1 hj).1
        simp at this; omega
      subst hjl
      rw [List.getElem?_append_right (Nat.le_refl _), Nat.sub_self] at hj
      injection hj with hj; subst hj
      have hoo : o' = o := by
        have : all0[b]? = some o := by
          have := congrArg (fun l : List Oper => l[0]?) hd
          simpa using this
        rw [hb, this] at ho'
        injection ho' with ho'; exact ho'.symm
      subst hoo
      rcases List.mem_append.1 hi with hi | hi
      · exact hdir i hi
      · obtain ⟨m, hm1, hm2⟩ := List.mem_flatMap.1 hi
        cases hq : nthL acc m with
        | none => simp [hq] at hm2
        | some l' =>
          rw [hq] at hm2
          rw [nthL_eq] at hq
          have hpm := hdir m hm1
          cases hom : all0[m]? with
          | none =>
            have hml : m < acc.length := (List.getElem?_eq_some_iff.1 hq).1
            have h1 := List.getElem?_eq_none_iff.1 hom
            have h2 : b < all0.length := by
              rcases Nat.lt_or_ge b all0.length with h' | h'
              · exact h'
              · rw [List.drop_eq_nil_of_le h'] at hd; cases hd
            omega
          | some om => exact h m l' hq om hom (fun i hi => hc m om hpm hom i hi) i (by simpa using hm2)
end
end Go.Am
