/- Part Gk of the proof: laws used by the law of this claim. -/
import Derived.Test.YtfhljcbbgckdiaaGreatGp
import Derived.Test.YtfhljcbbgckdiaaGreatGf
set_option linter.all false
namespace Go.Am
open Go Go.RowKit Go.Bas
theorem andT_l (a : Bool) : andT true a = a := by cases a <;> rfl
theorem tre : type_of% @dec_t ∧ type_of% @dec_f ∧ type_of% @inB_t ∧ type_of% @inC_t ∧ type_of% @andT_t ∧ type_of% @cond_true.{1} ∧ type_of% @cond_false.{1} ∧ type_of% @Bool.and_true ∧ type_of% @Bool.true_and ∧ type_of% @w64 ∧ type_of% @wu32 ∧ type_of% @wu8 ∧ type_of% @nble_t ∧ type_of% @nblt_t ∧ type_of% @Bool.not_true ∧ type_of% @Bool.not_false ∧ type_of% @Bool.not_not ∧ type_of% @ieq_t ∧ type_of% @ieq_f ∧ type_of% @ine_t ∧ type_of% @ine_f ∧ type_of% @true_and ∧ type_of% @and_true ∧ type_of% @andT_l :=
 ⟨@dec_t, @dec_f, @inB_t, @inC_t, @andT_t, @cond_true.{1}, @cond_false.{1}, @Bool.and_true, @Bool.true_and, @w64, @wu32, @wu8, @nble_t, @nblt_t, @Bool.not_true, @Bool.not_false, @Bool.not_not, @ieq_t, @ieq_f, @ine_t, @ine_f, @true_and, @and_true, @andT_l⟩
def jumpK (l : Nat) (ts xs vs : List Nat) (e : Ex) (s : S) : Option (Ex × S) :=
 match norm (match e with | .goto l' => bif Nat.beq l' l then ts else xs | _ => xs) s with
 | some (L, s') => bif fixOk L vs then some (e, s') else none
 | none => none
theorem jump_ok {E : Env} (hE : EnvOk E) {d : Nat} {c rest : AC} {l : Nat} (hf : findLabel c.erase l = some rest.erase) (hl : LoopsOk E.P rest) (ts xs vs : List Nat) (g : S → Option (Bool × Tr)) {X : Type} (st : X → S) (out : X → Tr) (I : X → Prop) (m : X → Nat)
  (hg : ∀ s t, g s = some (true, t) → ∃ x, Covers s (st x) ∧ I x ∧ t = out x)
  (hb : ∀ x, I x → (∃ x', aev E (inlN E d) rest (jumpK l ts xs vs) (st x) = some (.goto l, st x') ∧ I x' ∧ m x' < m x ∧ (∀ e s, Leaf (out x') e s → Leaf (out x) e s)) ∨
   (∃ e s', aev E (inlN E d) rest (jumpK l ts xs vs) (st x) = some (e, s') ∧ (∀ l', e ≠ .goto l') ∧ Leaf (out x) e s')) :
  JumpOk E.P c.erase l vs g := by
 intro s t ht ι O w0 a w hs0 hob
 obtain ⟨x0, hcov, hI0, rfl⟩ := hg s t ht
 obtain ⟨hs, he0⟩ := hs0.cover hcov
 have hob : (st x0).ob = true := hcov.ob
 let Inv : Nat → Act → World → Prop := fun n a' w' => ∃ x ι', m x = n ∧ I x ∧ Sim ι' O w0 (st x) a' w' ∧ (st x).ob = true ∧ ExtP (· ∈ vs) ι ι' (XS ι O s) (XS ι' O (st x)) w w' ∧ (∀ e s, Leaf (out x) e s → Leaf (out x0) e s)
 let μ : Act → World → Nat := fun a' w' => by
  classical
  exact if h : ∃ n, Inv n a' w' then (least _ h).choose else 0
 have hμ : ∀ a' w', (∃ n, Inv n a' w') → Inv (μ a' w') a' w' ∧ ∀ n, Inv n a' w' → μ a' w' ≤ n := by
  intro a' w' h
  have e : μ a' w' = (least _ h).choose := by simp only [μ, dif_pos h]
  rw [e]
  exact (least _ h).choose_spec
 refine jumpWp_of l (fun a' w' => ∃ n, Inv n a' w') μ hf ?_ ⟨_, x0, ι, rfl, hI0, hs, hob, he0.part _, fun _ _ h => h⟩
 intro a1 w1 hinv
 obtain ⟨⟨x, ι2, hm, hI, hs2, ho2, he2, hlf⟩, hmin⟩ := hμ a1 w1 hinv
 rcases hb x hI with ⟨x', h1, h2, h3, h4⟩ | ⟨e, s', h1, h2, h3⟩
 ·refine Code.wp_mono ?_ (aev_ok hE (inlN_ok hE d) rest _ _ _ hl h1 ι2 O w0 a1 w1 hs2 ho2)
  rintro e2 a2 w2 ⟨e', s', rfl, hk, hob', ι3, q1, q2⟩
  unfold jumpK at hk
  split at hk
  ·rename_i L s3 hs3
   obtain ⟨hfx, hk⟩ := ofBif hk
   injection hk with hk; injection hk with k1 k2
   subst k1; subst k2
   obtain ⟨ι4, r1, r2, r3⟩ := q1.norm hs3 hfx
   have hnew : Inv (m x') a2 w2 := ⟨x', ι4, rfl, h2, r1, r3, (he2.trans (q2.part _)).trans r2, fun e s h => hlf e s (h4 e s h)⟩
   exact ⟨rfl, ⟨_, hnew⟩, by have := (hμ a2 w2 ⟨_, hnew⟩).2 _ hnew; omega⟩
  ·cases hk
 ·refine Code.wp_mono ?_ (aev_ok hE (inlN_ok hE d) rest _ _ _ hl h1 ι2 O w0 a1 w1 hs2 ho2)
  rintro e2 a2 w2 ⟨e', s2, rfl, hk, hob', ι3, q1, q2⟩
  unfold jumpK at hk
  split at hk
  ·rename_i L s3 hs3
   obtain ⟨hfx, hk⟩ := ofBif hk
   injection hk with hk; injection hk with k1 k2
   subst k1; subst k2
   obtain ⟨ι4, r1, r2, r3⟩ := q1.norm hs3 hfx
   have fin : ∃ e2 s'', Leaf (out x0) e2 s'' ∧ exOf e' = exOf e2 ∧ ∃ ι', Sim ι' O w0 s'' a2 w2 ∧ ExtP (· ∈ vs) ι ι' (XS ι O s) (XS ι' O s'') w w2 := ⟨_, _, hlf _ _ h3, rfl, ι4, r1, (he2.trans (q2.part _)).trans r2⟩
   cases e' with
   | normal => exact fin
   | exit id => exact fin
   | ret => exact fin
   | goto l' => exact absurd rfl (h2 l')
   | pan ch => exact fin
  ·cases hk
def bodyF (f : Ex → List Nat) (vs : List Nat) (e : Ex) (s : S) : Option (Ex × S) :=
 match norm (f e) s with
 | some (L, s') => bif fixOk L vs then some (e, s') else none
 | none => none
def ways (ts xs rs : List Nat) : Ex → List Nat
 | .normal => ts
 | .ret => rs
 | _ => xs
theorem loopF_ok {E : Env} (hE : EnvOk E) {d : Nat} {c : AC} (hl : LoopsOk E.P c) (f : Ex → List Nat) (vs : List Nat) (g : S → Option (Bool × Tr)) {X : Type} (st : X → S) (out : X → Tr) (I : X → Prop) (m : X → Nat)
  (hg : ∀ s t, g s = some (true, t) → ∃ x, Covers s (st x) ∧ I x ∧ t = out x)
  (hb : ∀ x, I x → (∃ x', aev E (inlN E d) c (bodyF f vs) (st x) = some (.normal, st x') ∧ I x' ∧ m x' < m x ∧ (∀ e s, Leaf (out x') e s → Leaf (out x) e s)) ∨
   (∃ e s', aev E (inlN E d) c (bodyF f vs) (st x) = some (e, s') ∧ e ≠ .normal ∧ Leaf (out x) e s')) :
  LoopOk E.P c.erase vs g := by
 intro s t ht ι O w0 a w hs0 hob
 obtain ⟨x0, hcov, hI0, rfl⟩ := hg s t ht
 obtain ⟨hs, he0⟩ := hs0.cover hcov
 have hob : (st x0).ob = true := hcov.ob
 let Inv : Nat → Act → World → Prop := fun n a' w' => ∃ x ι', m x = n ∧ I x ∧ Sim ι' O w0 (st x) a' w' ∧ (st x).ob = true ∧ ExtP (· ∈ vs) ι ι' (XS ι O s) (XS ι' O (st x)) w w' ∧ (∀ e s, Leaf (out x) e s → Leaf (out x0) e s)
 let μ : Act → World → Nat := fun a' w' => by
  classical
  exact if h : ∃ n, Inv n a' w' then (least _ h).choose else 0
 have hμ : ∀ a' w', (∃ n, Inv n a' w') → Inv (μ a' w') a' w' ∧ ∀ n, Inv n a' w' → μ a' w' ≤ n := by
  intro a' w' h
  have e : μ a' w' = (least _ h).choose := by simp only [μ, dif_pos h]
  rw [e]
  exact (least _ h).choose_spec
 refine wp_loop (fun a' w' => ∃ n, Inv n a' w') μ ⟨_, x0, ι, rfl, hI0, hs, hob, he0.part _, fun _ _ h => h⟩ ?_
 intro a1 w1 hinv
 obtain ⟨⟨x, ι2, hm, hI, hs2, ho2, he2, hlf⟩, hmin⟩ := hμ a1 w1 hinv
 rcases hb x hI with ⟨x', h1, h2, h3, h4⟩ | ⟨e, s', h1, h2, h3⟩
 ·refine Code.wp_mono ?_ (aev_ok hE (inlN_ok hE d) c _ _ _ hl h1 ι2 O w0 a1 w1 hs2 ho2)
  rintro e2 a2 w2 ⟨e', s', rfl, hk, hob', ι3, q1, q2⟩
  unfold bodyF at hk
  split at hk
  ·rename_i L s3 hs3
   obtain ⟨hfx, hk⟩ := ofBif hk
   injection hk with hk; injection hk with k1 k2
   subst k1; subst k2
   obtain ⟨ι4, r1, r2, r3⟩ := q1.norm hs3 hfx
   have hnew : Inv (m x') a2 w2 := ⟨x', ι4, rfl, h2, r1, r3, (he2.trans (q2.part _)).trans r2, fun e s h => hlf e s (h4 e s h)⟩
   exact ⟨⟨_, hnew⟩, by have := (hμ a2 w2 ⟨_, hnew⟩).2 _ hnew; omega⟩
  ·cases hk
 ·refine Code.wp_mono ?_ (aev_ok hE (inlN_ok hE d) c _ _ _ hl h1 ι2 O w0 a1 w1 hs2 ho2)
  rintro e2 a2 w2 ⟨e', s2, rfl, hk, hob', ι3, q1, q2⟩
  unfold bodyF at hk
  split at hk
  ·rename_i L s3 hs3
   obtain ⟨hfx, hk⟩ := ofBif hk
   injection hk with hk; injection hk with k1 k2
   subst k1; subst k2
   obtain ⟨ι4, r1, r2, r3⟩ := q1.norm hs3 hfx
   have fin : ∃ e2 s'', Leaf (out x0) e2 s'' ∧ exOf e' = exOf e2 ∧ ∃ ι', Sim ι' O w0 s'' a2 w2 ∧ ExtP (· ∈ vs) ι ι' (XS ι O s) (XS ι' O s'') w w2 := ⟨_, _, hlf _ _ h3, rfl, ι4, r1, (he2.trans (q2.part _)).trans r2⟩
   cases e' with
   | normal => exact absurd rfl h2
   | exit id => exact fin
   | ret => exact fin
   | goto l => exact fin
   | pan ch => exact fin
  ·cases hk
theorem sums_one {P : Program} {ac c : AC} {ts vs : List Nat} {g : S → Option (Bool × Tr)} (e : ac.sums = [(c, ts, vs, g)]) (e' : ac.jmps = []) (h : LoopOk P c.erase vs g) : LoopsOk P ac :=
 .of (by rw [e]; intro x hx; simp only [List.mem_singleton] at hx; subst hx; exact h) (by rw [e']; intro x hx; cases hx)
theorem sums_two {P : Program} {ac c c2 : AC} {ts vs ts2 vs2 : List Nat} {g g2 : S → Option (Bool × Tr)} (e : ac.sums = [(c, ts, vs, g), (c2, ts2, vs2, g2)]) (e' : ac.jmps = []) (h : LoopOk P c.erase vs g) (h2 : LoopOk P c2.erase vs2 g2) : LoopsOk P ac :=
 .of (by
  rw [e]; intro x hx
  simp only [List.mem_cons, List.not_mem_nil, or_false] at hx
  rcases hx with rfl | rfl
  ·exact h
  ·exact h2) (by rw [e']; intro x hx; cases hx)
theorem jmps_one {P : Program} {ac c rest : AC} {l : Nat} {vs : List Nat} {g : S → Option (Bool × Tr)} (e : ac.sums = []) (e' : ac.jmps = [(c, rest, l, vs, g)]) (h : JumpOk P c.erase l vs g) : LoopsOk P ac :=
 .of (by rw [e]; intro x hx; cases hx) (by rw [e']; intro x hx; simp only [List.mem_singleton] at hx; subst hx; exact h)
end Go.Am