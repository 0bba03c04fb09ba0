/- Part Gfo of the proof: laws used by the law of this claim. -/
import Derived.Test.YtpoeinajedbfoaaDoorGa
import Derived.Test.YtpoeinajedbfoaaDoorGfl
import Derived.Test.YtpoeinajedbfoaaDoorGz
set_option linter.all false
namespace Go.Mix
open Go.RowKit
section
variable {P : Program} {ops : Array Oper} {md : Region.Mode}

def heldB (md : Region.Mode) (ops : Array Oper) (listed : Array Bool) (i : Nat) : Bool := (match nth ops.toList i with | some o => heldKind o.op | none => false) && (Region.ready md ops listed).contains i && Region.free md ops listed i
def heldsB (md : Region.Mode) (ops : Array Oper) : List (Nat × Nat) → Array Bool → Bool
  | [], _ => true
  | (i, 0) :: r, L => heldB md ops L i && heldsB md ops r (L.setIfInBounds i true)
  | (_, _ + 1) :: _, _ => false
def afterB : List (Nat × Nat) → Array Bool → Array Bool
  | [], L => L
  | (i, _) :: r, L => afterB r (L.setIfInBounds i true)

theorem anyH_held {Q : Act → World → Prop} {C : World → Prop} {fuel : Nat} {L : Array Bool} {a : Act} {w : World} {i : Nat} {K : Act → Prop} (hs : Region.noSelect ops = true) (hB : heldB md ops L i = true) (hC : C w)
    (h : qOp P ops C i K a) (hK : ∀ a', K a' → wpAnyH P md ops (Only Q) C fuel (L.setIfInBounds i true) a' w) : wpAnyH P md ops (Only Q) C (fuel + 1) L a w := by
  unfold heldB at hB
  simp only [Bool.and_eq_true] at hB
  obtain ⟨⟨hk, hr⟩, hf⟩ := hB
  cases ho : ops[i]? with
  | none => rw [nth_eq, Array.getElem?_toList, ho] at hk; cases hk
  | some o =>
    rw [nth_eq, Array.getElem?_toList, ho] at hk
    obtain ⟨v, hy, hv⟩ := yieldsIn_of_qOp ho h
    exact wpAnyH_take ho hs hf hr (fun _ _ _ h => h) (yieldsIf_of hk hy) hC (hK _ hv)

theorem wpAnyH_pre {Q K : Act → World → Prop} (hs : Region.noSelect ops = true) :
    ∀ (ord : List (Nat × Nat)) (C : World → Prop) (fuel : Nat) (L : Array Bool) (a : Act) (w : World), heldsB md ops ord L = true → C w →
      (∀ a', K a' w → wpAnyH P md ops (Only Q) C fuel (afterB ord L) a' w) → wpSegs P ops K ord C a w → wpAnyH P md ops (Only Q) C (fuel + ord.length) L a w
  | [], C, fuel, L, a, w, _, _, hK, h => hK a h
  | (i, 0) :: r, C, fuel, L, a, w, hB, hC, hK, h => by
    simp only [heldsB, Bool.and_eq_true] at hB
    exact anyH_held hs hB.1 hC h fun a' h' => wpAnyH_pre hs r C fuel _ _ _ hB.2 hC hK h'

end
end Go.Mix

namespace Go.Mix
open Go.RowKit
section
variable {P : Program} {ops : Array Oper} {md : Region.Mode}

def fork4 (P : Program) (ops : Array Oper) (Q : Act → World → Prop) (C : World → Prop) (i h j g : Nat) (r : List (Nat × Nat)) (a : Act) (w : World) : Prop :=
  wpOp P ops (fun _ _ _ => False) i (fun a1 w1 => C w1 ∧ qOp P ops C h (fun a2 => wpOp P ops (fun _ _ _ => False) j (fun a3 w3 => C w3 ∧ qOp P ops C g (fun a' => wpSegs P ops Q r C a' w3) a3) a2 w1) a1) a w ∧
  wpOp P ops (fun _ _ _ => False) j (fun a1 w1 => C w1 ∧ qOp P ops C g (fun a2 => wpOp P ops (fun _ _ _ => False) i (fun a3 w3 => C w3 ∧ qOp P ops C h (fun a' => wpSegs P ops Q r C a' w3) a3) a2 w1) a1) a w
def fork4B (md : Region.Mode) (ops : Array Oper) (i h j g : Nat) (r : List (Nat × Nat)) (L : Array Bool) : Bool :=
  (Region.ready md ops L == [i, j]) && heldB md ops (L.setIfInBounds i true) h && (Region.ready md ops ((L.setIfInBounds i true).setIfInBounds h true) == [j]) && heldB md ops (((L.setIfInBounds i true).setIfInBounds h true).setIfInBounds j true) g &&
  heldB md ops (L.setIfInBounds j true) g && (Region.ready md ops ((L.setIfInBounds j true).setIfInBounds g true) == [i]) && heldB md ops (((L.setIfInBounds j true).setIfInBounds g true).setIfInBounds i true) h &&
  mixB md ops r ((((L.setIfInBounds i true).setIfInBounds h true).setIfInBounds j true).setIfInBounds g true) && mixB md ops r ((((L.setIfInBounds j true).setIfInBounds g true).setIfInBounds i true).setIfInBounds h true)

theorem anyH_fork4 {Q : Act → World → Prop} {C : World → Prop} {fuel : Nat} {L : Array Bool} {a : Act} {w : World} {i h j g : Nat} {r : List (Nat × Nat)} (hs : Region.noSelect ops = true) (hl : r.length ≤ fuel) (hB : fork4B md ops i h j g r L = true)
    (hf : fork4 P ops Q C i h j g r a w) : wpAnyH P md ops (Only Q) C (fuel + 4) L a w := by
  unfold fork4B at hB
  simp only [Bool.and_eq_true, beq_iff_eq] at hB
  obtain ⟨⟨⟨⟨⟨⟨⟨⟨hr, hh1⟩, hr1⟩, hg1⟩, hg2⟩, hr2⟩, hh2⟩, hm1⟩, hm2⟩ := hB
  refine wpAnyH_all hr (by simp) ?_
  intro x hx
  have hx' : x = i ∨ x = j := by simpa using hx
  rcases hx' with rfl | rfl
  · refine wpOp_mono (fun a1 w1 h1 => ⟨h1.1, anyH_held hs hh1 h1.1 h1.2 fun a2 h2 => wpAnyH_all hr1 (by simp) ?_⟩) (wpOp_False hf.1)
    intro y hy
    obtain rfl : y = j := by simpa using hy
    exact wpOp_mono (fun a3 w3 h3 => ⟨h3.1, anyH_held hs hg1 h3.1 h3.2 fun a' h' => wpAnyH_of_segs hs r C fuel _ _ _ hl hm1 h3.1 h'⟩) (wpOp_False h2)
  · refine wpOp_mono (fun a1 w1 h1 => ⟨h1.1, anyH_held hs hg2 h1.1 h1.2 fun a2 h2 => wpAnyH_all hr2 (by simp) ?_⟩) (wpOp_False hf.2)
    intro y hy
    obtain rfl : y = i := by simpa using hy
    exact wpOp_mono (fun a3 w3 h3 => ⟨h3.1, anyH_held hs hh2 h3.1 h3.2 fun a' h' => wpAnyH_of_segs hs r C fuel _ _ _ hl hm2 h3.1 h'⟩) (wpOp_False h2)

theorem wp_region_fork4 {id : Nat} {Q : Exit → Act → World → Prop} {a : Act} {w : World} (C : World → Prop) (pre : List (Nat × Nat)) (i h j g : Nat) (r : List (Nat × Nat)) (hm : P.follows .mixedOrders = true)
    (hs : Region.noSelect ops = true) (hl : ops.size = r.length + 4 + pre.length) (hB : (heldsB .any ops pre (Array.replicate ops.size false) && fork4B .any ops i h j g r (afterB pre (Array.replicate ops.size false))) = true) (hC : C w.drew)
    (hw : wpSegs P ops (fun a' _ => fork4 P ops (Q .normal) C i h j g r a' w.drew) pre C a w.drew) : (Code.region id ops true).wp P Q a w := by
  simp only [Bool.and_eq_true] at hB
  have h1 : (Code.region id ops true).wp P (Only (Q .normal)) a w := by
    have hx : wpAnyH P .any ops (Only (Q .normal)) C ops.size (Array.replicate ops.size false) a w.drew := by
      have := wpAnyH_pre (fuel := r.length + 4) (Q := Q .normal) (K := fun a' _ => fork4 P ops (Q .normal) C i h j g r a' w.drew) hs pre C _ _ _ hB.1 hC (fun a' h' => anyH_fork4 hs (Nat.le_refl _) hB.2 h') hw
      rwa [← hl] at this
    exact wp_region_any hm (wpAny_of_held _ _ _ _ hx)
  exact Code.wp_mono (fun e a w hq => by cases e <;> first | exact hq | exact hq.elim) h1

/-- both orders, each with its operations as a list -/
theorem seg_fork4 {Q : Act → World → Prop} {C : World → Prop} {a : Act} {w : World} {i h j g : Nat} {r : List (Nat × Nat)} (oi oh oj og : Oper) (R : Act → World → Prop) (hi : nth ops.toList i = some oi) (hh : nth ops.toList h = some oh) (hj : nth ops.toList j = some oj) (hg : nth ops.toList g = some og)
    (hwi : oi.guard = none) (hwj : oj.guard = none)
    (h1 : ∀ K : Act → World → Prop, (∀ a1 w1, (C w1 ∧ wpQuiet P ops C (fun a2 => ∀ K' : Act → World → Prop, (∀ a3 w3, (C w3 ∧ wpQuiet P ops C (fun a' => R a' w3) [og] a3) → K' a3 w3) → oj.wp P a2 w1 K' (fun _ _ _ => False)) [oh] a1) → K a1 w1) → oi.wp P a w K (fun _ _ _ => False))
    (h2 : ∀ K : Act → World → Prop, (∀ a1 w1, (C w1 ∧ wpQuiet P ops C (fun a2 => ∀ K' : Act → World → Prop, (∀ a3 w3, (C w3 ∧ wpQuiet P ops C (fun a' => R a' w3) [oh] a3) → K' a3 w3) → oi.wp P a2 w1 K' (fun _ _ _ => False)) [og] a1) → K a1 w1) → oj.wp P a w K (fun _ _ _ => False))
    (h3 : ∀ a' w', C w' → R a' w' → wpSegs P ops Q r C a' w') :
    fork4 P ops Q C i h j g r a w := by
  rw [nth_eq, Array.getElem?_toList] at hi hj hh hg
  have step : ∀ (m : Nat) (o : Oper), ops[m]? = some o → o.guard = none → ∀ (K : Act → World → Prop) (a : Act) (w : World), o.wp P a w K (fun _ _ _ => False) → wpOp P ops (fun _ _ _ => False) m K a w := by
    intro m o ho hg K a w h
    unfold wpOp
    simp only [ho, Region.wanted, hg, if_true]
    exact .inl h
  have held : ∀ (m : Nat) (o : Oper), ops[m]? = some o → ∀ (K K' : Act → Prop) (a : Act), (∀ a', K a' → K' a') → wpQuiet P ops C K [o] a → qOp P ops C m K' a := by
    intro m o ho K K' a hk hq
    have hq' : qOp P ops C m K a := by unfold qOp; simp only [ho]; exact hq
    exact qOp_mono hk hq'
  exact ⟨step i oi hi hwi _ _ _ (h1 _ fun a1 w1 k1 => ⟨k1.1, held h oh hh _ _ _ (fun a2 k2 => step j oj hj hwj _ _ _ (k2 _ fun a3 w3 k3 => ⟨k3.1, held g og hg _ _ _ (fun a' k' => h3 a' w3 k3.1 k') k3.2⟩)) k1.2⟩),
    step j oj hj hwj _ _ _ (h2 _ fun a1 w1 k1 => ⟨k1.1, held g og hg _ _ _ (fun a2 k2 => step i oi hi hwi _ _ _ (k2 _ fun a3 w3 k3 => ⟨k3.1, held h oh hh _ _ _ (fun a' k' => h3 a' w3 k3.1 k') k3.2⟩)) k1.2⟩)⟩
/-- .. that come to one state in one world -/
theorem seg_fork4c {Q : Act → World → Prop} {C : World → Prop} {a : Act} {w : World} {i h j g : Nat} {r : List (Nat × Nat)} (oi oh oj og : Oper) (A : Act) (W : World) (hi : nth ops.toList i = some oi) (hh : nth ops.toList h = some oh) (hj : nth ops.toList j = some oj) (hg : nth ops.toList g = some og)
    (hwi : oi.guard = none) (hwj : oj.guard = none)
    (h1 : ∀ K : Act → World → Prop, (∀ a1 w1, (C w1 ∧ wpQuiet P ops C (fun a2 => ∀ K' : Act → World → Prop, (∀ a3 w3, (C w3 ∧ wpQuiet P ops C (fun a' => w3 = W ∧ a' = A) [og] a3) → K' a3 w3) → oj.wp P a2 w1 K' (fun _ _ _ => False)) [oh] a1) → K a1 w1) → oi.wp P a w K (fun _ _ _ => False))
    (h2 : ∀ K : Act → World → Prop, (∀ a1 w1, (C w1 ∧ wpQuiet P ops C (fun a2 => ∀ K' : Act → World → Prop, (∀ a3 w3, (C w3 ∧ wpQuiet P ops C (fun a' => w3 = W ∧ a' = A) [oh] a3) → K' a3 w3) → oi.wp P a2 w1 K' (fun _ _ _ => False)) [og] a1) → K a1 w1) → oj.wp P a w K (fun _ _ _ => False))
    (h3 : C W → wpSegs P ops Q r C A W) :
    fork4 P ops Q C i h j g r a w :=
  seg_fork4 oi oh oj og (fun a' w' => w' = W ∧ a' = A) hi hh hj hg hwi hwj h1 h2 fun a' w' hC ⟨e1, e2⟩ => by subst e1; subst e2; exact h3 hC
/-- a load, the same in each world of the class -/
theorem quiet_ld {C : World → Prop} {K : Act → Prop} {a : Act} {o : Oper} (v : Value) (t : TypeId) (x : Operand) (p : Value) (hop : o.op = .load t x) (hx : a.eval x = p) (hr : ∀ w, C w → (Instr.loadAt t p).run P w = .ok v w) (hk : K (a.put o.dst v)) : o.quiet P a C K :=
  ⟨v, fun w hw => by
    unfold Oper.quietAt execOp
    simp only [hop, hx, Sem.run_bind, Sem.run_pure, hr w hw, Result.andThen_ok]
    exact ⟨rfl, rfl⟩, hk⟩
end
end Go.Mix

namespace Go.Proofs.YtpoeinajedbfoaaDoor
open Go Go.Am Go.RowKit Go.Mix Go.Bas
set_option maxRecDepth 100000
def fwSh : Sh := .agg [.barr 16, .int .i64, .barr 16, .int .i64]
/-- a flow, in full -/
def fwE (v : V) : V := eta fwSh v
def fw0 (v : V) : List UInt8 := toA ((toG v).headD .undef)
def fw1 (v : V) : Int := toI ((toG v).tail.headD .undef)
def fw2 (v : V) : List UInt8 := toA ((toG v).tail.tail.headD .undef)
def fw3 (v : V) : Int := toI ((toG v).tail.tail.tail.headD .undef)
theorem fwE_eq (v : V) : fwE v = .agg [.barr 16 (fw0 v), .int .i64 (fw1 v), .barr 16 (fw2 v), .int .i64 (fw3 v)] := rfl
/-- does a flow come ahead of another one? -/
def fwLt (u v : V) : Bool := flLs (fw0 u) (fw1 u) (fw2 u) (fw3 u) (fw0 v) (fw1 v) (fw2 v) (fw3 v)
theorem fwLt_E (u v : V) : fwLt (fwE u) (fwE v) = fwLt u v := rfl
theorem fwLt_Er (u v : V) : fwLt u (fwE v) = fwLt u v := rfl
def fwOk (v : V) : Bool := decide ((fw0 v).length = 16 ∧ (fw2 v).length = 16)
theorem fwOk_of {v : V} (h : fwOk v = true) : (fw0 v).length = 16 ∧ (fw2 v).length = 16 := of_decide_eq_true h
theorem lessL_irr : ∀ a : List UInt8, lessL a a = false
  | [] => rfl
  | x :: a => by rw [lessL_eq]; exact lessL_irr a
theorem lessL_ne {x y : UInt8} {a b : List UInt8} (h : x ≠ y) : lessL (x :: a) (y :: b) = decide ((x.toNat : Int) < y.toNat) := by simp [lessL, h]
theorem lessL_trans : ∀ {a b c : List UInt8}, a.length = b.length → b.length = c.length → lessL a b = true → lessL b c = true → lessL a c = true
  | [], [], [], _, _, h, _ => h
  | [], _ :: _, _, h, _, _, _ => by cases h
  | _ :: _, [], _, h, _, _, _ => by cases h
  | _, [], _ :: _, _, h, _, _ => by cases h
  | _, _ :: _, [], _, h, _, _ => by cases h
  | x :: a, y :: b, z :: c, h1, h2, p, q => by
    by_cases e1 : x = y
    · subst e1
      rw [lessL_eq] at p
      by_cases e2 : x = z
      · subst e2
        rw [lessL_eq] at q ⊢
        exact lessL_trans (by simpa using h1) (by simpa using h2) p q
      · rw [lessL_ne e2] at q ⊢
        exact q
    · rw [lessL_ne e1] at p
      by_cases e2 : y = z
      · subst e2
        rw [lessL_ne e1]
        exact p
      · rw [lessL_ne e2] at q
        have p := of_decide_eq_true p
        have q := of_decide_eq_true q
        have e3 : x ≠ z := by rintro rfl; omega
        rw [lessL_ne e3]
        exact decide_eq_true (by omega)
theorem flLs_irr (s : List UInt8) (sp : Int) (d : List UInt8) (dp : Int) : flLs s sp d dp s sp d dp = false := by
  unfold flLs
  simp
theorem flLs_cases {s d s' d' : List UInt8} {sp dp sp' dp' : Int} : flLs s sp d dp s' sp' d' dp' = true ↔ (s ≠ s' ∧ lessL s s' = true) ∨ (s = s' ∧ sp ≠ sp' ∧ sp < sp') ∨ (s = s' ∧ sp = sp' ∧ d ≠ d' ∧ lessL d d' = true) ∨ (s = s' ∧ sp = sp' ∧ d = d' ∧ dp < dp') := by
  unfold flLs
  by_cases c1 : s = s'
  · subst c1
    by_cases c2 : sp = sp'
    · subst c2
      by_cases c3 : d = d'
      · subst c3; simp
      · simp [c3]
    · simp [c2]
  · simp [c1]
theorem lessL_neq {a b : List UInt8} (h : lessL a b = true) : a ≠ b := by
  rintro rfl
  rw [lessL_irr] at h
  cases h
theorem fwLt_trans {u v w : V} (hu : fwOk u = true) (hv : fwOk v = true) (hw : fwOk w = true) (p : fwLt u v = true) (q : fwLt v w = true) : fwLt u w = true := by
  obtain ⟨u1, u2⟩ := fwOk_of hu
  obtain ⟨v1, v2⟩ := fwOk_of hv
  obtain ⟨w1, w2⟩ := fwOk_of hw
  unfold fwLt at *
  rw [flLs_cases] at p q ⊢
  generalize fw0 u = a at *
  generalize fw1 u = b at *
  generalize fw2 u = c at *
  generalize fw3 u = d at *
  rcases p with ⟨n1, l1⟩ | ⟨rfl, n2, l2⟩ | ⟨rfl, rfl, n3, l3⟩ | ⟨rfl, rfl, rfl, l4⟩
  · rcases q with ⟨m1, k1⟩ | ⟨e1, m2, k2⟩ | ⟨e1, e2, m3, k3⟩ | ⟨e1, e2, e3, k4⟩
    · have := lessL_trans (by omega) (by omega) l1 k1
      exact .inl ⟨lessL_neq this, this⟩
    · rw [← e1]; exact .inl ⟨n1, l1⟩
    · rw [← e1]; exact .inl ⟨n1, l1⟩
    · rw [← e1]; exact .inl ⟨n1, l1⟩
  · rcases q with ⟨m1, k1⟩ | ⟨e1, m2, k2⟩ | ⟨e1, e2, m3, k3⟩ | ⟨e1, e2, e3, k4⟩
    · exact .inl ⟨m1, k1⟩
    · exact .inr (.inl ⟨e1, by omega, by omega⟩)
    · exact .inr (.inl ⟨e1, by omega, by omega⟩)
    · exact .inr (.inl ⟨e1, by omega, by omega⟩)
  · rcases q with ⟨m1, k1⟩ | ⟨e1, m2, k2⟩ | ⟨e1, e2, m3, k3⟩ | ⟨e1, e2, e3, k4⟩
    · exact .inl ⟨m1, k1⟩
    · exact .inr (.inl ⟨e1, m2, k2⟩)
    · have := lessL_trans (by omega) (by omega) l3 k3
      exact .inr (.inr (.inl ⟨e1, e2, lessL_neq this, this⟩))
    · rw [← e3]; exact .inr (.inr (.inl ⟨e1, e2, n3, l3⟩))
  · rcases q with ⟨m1, k1⟩ | ⟨e1, m2, k2⟩ | ⟨e1, e2, m3, k3⟩ | ⟨e1, e2, e3, k4⟩
    · exact .inl ⟨m1, k1⟩
    · exact .inr (.inl ⟨e1, m2, k2⟩)
    · exact .inr (.inr (.inl ⟨e1, e2, m3, k3⟩))
    · exact .inr (.inr (.inr ⟨e1, e2, e3, by omega⟩))
theorem fwLt_irr (u : V) : fwLt u u = false := flLs_irr ..
theorem fwLt_tri {u v : V} (hu : fwOk u = true) (hv : fwOk v = true) (p : fwLt u v = false) (q : fwLt v u = false) : fwE u = fwE v := by
  obtain ⟨u1, u2⟩ := fwOk_of hu
  obtain ⟨v1, v2⟩ := fwOk_of hv
  by_cases c : fw0 u = fw0 v ∧ fw1 u = fw1 v ∧ fw2 u = fw2 v ∧ fw3 u = fw3 v
  · rw [fwE_eq, fwE_eq, c.1, c.2.1, c.2.2.1, c.2.2.2]
  · have := flLs_anti u1 u2 v1 v2 c
    unfold fwLt at p q
    rw [p, q] at this
    cases this
/-! ### the least of those that come behind -/
def foLate (o : List V) (x : V) : Bool := o.isEmpty || fwLt (o.getD (o.length - 1) .undef) x
def foC (l o : List V) (i b : Int) : Bool := foLate o (l.getD i.toNat .undef) && (decide (b < 0) || fwLt (l.getD i.toNat .undef) (l.getD b.toNat .undef))
def foB (l o : List V) : Nat → Int → Int → Int
  | 0, _, b => b
  | k + 1, i, b => foB l o k (i + 1) (if foC l o i b = true then i else b)
def foP (l o : List V) (i b : Int) : Prop := (b = -1 ∧ ∀ j : Nat, (j : Int) < i → foLate o (l.getD j .undef) = false) ∨ (0 ≤ b ∧ b < i ∧ foLate o (l.getD b.toNat .undef) = true ∧ ∀ j : Nat, (j : Int) < i → foLate o (l.getD j .undef) = true → fwLt (l.getD j .undef) (l.getD b.toNat .undef) = false)
theorem foP_step {l o : List V} (hl : ∀ j : Nat, j < l.length → fwOk (l.getD j .undef) = true) {i b : Int} (h0 : 0 ≤ i) (hi : i < l.length) (h : foP l o i b) : foP l o (i + 1) (if foC l o i b = true then i else b) := by
  have hii : ((i.toNat : Nat) : Int) = i := by omega
  by_cases c : foC l o i b = true
  · rw [if_pos c]
    unfold foC at c
    obtain ⟨c1, c2⟩ := (Bool.and_eq_true _ _).mp c
    refine .inr ⟨h0, by omega, c1, fun j hj hlate => ?_⟩
    by_cases e : (j : Int) = i
    · have : j = i.toNat := by omega
      rw [this]; exact fwLt_irr _
    · rcases h with ⟨rfl, h⟩ | ⟨q0, q1, q2, q3⟩
      · have := h j (by omega)
        rw [this] at hlate; cases hlate
      · have hlt : fwLt (l.getD i.toNat .undef) (l.getD b.toNat .undef) = true := by
          rcases Bool.or_eq_true _ _ ▸ c2 with c2 | c2
          · have := of_decide_eq_true c2; omega
          · exact c2
        have hn := q3 j (by omega) hlate
        rw [Bool.eq_false_iff]
        intro hc
        have := fwLt_trans (hl j (by omega)) (hl i.toNat (by omega)) (hl b.toNat (by omega)) hc hlt
        rw [hn] at this; cases this
  · rw [if_neg c]
    have c' : foC l o i b = false := Bool.eq_false_iff.mpr c
    unfold foC at c'
    rcases h with ⟨rfl, h⟩ | ⟨q0, q1, q2, q3⟩
    · refine .inl ⟨rfl, fun j hj => ?_⟩
      by_cases e : (j : Int) = i
      · have : j = i.toNat := by omega
        rw [this]
        simpa using c'
      · exact h j (by omega)
    · refine .inr ⟨q0, by omega, q2, fun j hj hlate => ?_⟩
      by_cases e : (j : Int) = i
      · have : j = i.toNat := by omega
        rw [this] at hlate ⊢
        rw [hlate, decide_eq_false (show ¬ b < 0 by omega)] at c'
        simpa using c'
      · exact q3 j (by omega) hlate
theorem foB_P {l o : List V} (hl : ∀ j : Nat, j < l.length → fwOk (l.getD j .undef) = true) : ∀ (k : Nat) (i b : Int), 0 ≤ i → i + k = l.length → foP l o i b → foP l o l.length (foB l o k i b)
  | 0, i, b, h0, hk, h => by
    rw [show (l.length : Int) = i by omega]
    exact h
  | k + 1, i, b, h0, hk, h => foB_P hl k (i + 1) _ (by omega) (by omega) (foP_step hl h0 (by omega) h)
theorem foB_spec {l o : List V} (hl : ∀ j : Nat, j < l.length → fwOk (l.getD j .undef) = true) : foP l o l.length (foB l o l.length 0 (-1)) :=
  foB_P hl l.length 0 (-1) (Int.le_refl _) (by omega) (.inl ⟨rfl, fun j hj => by omega⟩)
/-! ### all of them, one by one -/
def foF (l : List V) : Nat → List V → List V
  | 0, o => o
  | k + 1, o => if foB l o l.length 0 (-1) < 0 then o else foF l k (o ++ [fwE (l.getD (foB l o l.length 0 (-1)).toNat .undef)])
/-- flows in order, each once -/
def foM (l : List V) : List V := foF l (l.length + 1) []
theorem foF_sorted {l M : List V} (hl : ∀ j : Nat, j < l.length → fwOk (l.getD j .undef) = true) (hM : M.Pairwise fun u v => fwLt u v = true) (hm : ∀ x, x ∈ M ↔ x ∈ l.map fwE) (hlen : M.length ≤ l.length) : ∀ (n k : Nat), n + k = M.length → foF l (l.length + 1 - k) (M.take k) = M := by
  have hok : ∀ x ∈ M, fwOk x = true := by
    intro x hx
    obtain ⟨y, hy, rfl⟩ := List.mem_map.1 ((hm x).1 hx)
    obtain ⟨j, hj, rfl⟩ := List.getElem_of_mem hy
    have := hl j hj
    rw [List.getD_eq_getElem?_getD, List.getElem?_eq_getElem hj] at this
    exact this
  have hin : ∀ j : Nat, j < l.length → ∃ q, ∃ h : q < M.length, M[q] = fwE (l.getD j .undef) := by
    intro j hj
    have : fwE (l.getD j .undef) ∈ M := (hm _).2 (List.mem_map.2 ⟨_, by rw [List.getD_eq_getElem?_getD, List.getElem?_eq_getElem hj]; exact List.getElem_mem hj, rfl⟩)
    exact List.getElem_of_mem this
  have hlt : ∀ p q (hp : p < M.length) (hq : q < M.length), p < q → fwLt M[p] M[q] = true := fun p q hp hq h => List.pairwise_iff_getElem.1 hM p q hp hq h
  have hnl : ∀ p q (hp : p < M.length) (hq : q < M.length), q ≤ p → fwLt M[p] M[q] = false := by
    intro p q hp hq h
    rcases Nat.eq_or_lt_of_le h with rfl | h
    · exact fwLt_irr _
    · rw [Bool.eq_false_iff]
      intro hc
      have := fwLt_trans (hok _ (List.getElem_mem hq)) (hok _ (List.getElem_mem hp)) (hok _ (List.getElem_mem hq)) (hlt q p hq hp h) hc
      rw [fwLt_irr] at this; cases this
  have hlate : ∀ (k : Nat) (hk : k ≤ M.length) (x : V) (q : Nat) (hq : q < M.length), M[q] = fwE x → foLate (M.take k) x = decide (k ≤ q) := by
    intro k hk x q hq hx
    unfold foLate
    have hlk : (M.take k).length = k := by rw [List.length_take]; omega
    cases k with
    | zero => rw [List.take_zero]; simp
    | succ k =>
      have hne : (M.take (k + 1)).isEmpty = false := by
        rw [List.isEmpty_eq_false_iff]
        intro e
        rw [e] at hlk; simp at hlk
      have hg : (M.take (k + 1)).getD ((M.take (k + 1)).length - 1) .undef = M[k]'(by omega) := by
        rw [hlk, List.getD_eq_getElem?_getD, Nat.add_sub_cancel, List.getElem?_take, if_pos (by omega), List.getElem?_eq_getElem (by omega)]
        rfl
      rw [hne, hg, Bool.false_or, ← fwLt_Er, ← hx]
      by_cases c : k + 1 ≤ q
      · rw [decide_eq_true c]; exact hlt k q (by omega) hq (by omega)
      · rw [decide_eq_false c]; exact hnl k q (by omega) hq (by omega)
  intro n
  induction n with
  | zero =>
    intro k hk
    have hk : k = M.length := by omega
    subst hk
    rw [show l.length + 1 - M.length = (l.length - M.length) + 1 by omega, List.take_length]
    unfold foF
    rcases foB_spec (o := M) hl with ⟨e, _⟩ | ⟨q0, q1, q2, _⟩
    · rw [if_pos (by omega)]
    · exfalso
      obtain ⟨q, hq, hx⟩ := hin (foB l M l.length 0 (-1)).toNat (by omega)
      have := hlate M.length (Nat.le_refl _) _ q hq hx
      rw [List.take_length, q2] at this
      have := of_decide_eq_true this.symm
      omega
  | succ n ih =>
    intro k hk
    have hkl : k < M.length := by omega
    rw [show l.length + 1 - k = (l.length - k) + 1 by omega]
    unfold foF
    rcases foB_spec (o := M.take k) hl with ⟨e, hn⟩ | ⟨q0, q1, q2, q3⟩
    · exfalso
      obtain ⟨y, hy, hx⟩ := List.mem_map.1 ((hm _).1 (List.getElem_mem hkl))
      obtain ⟨j, hj, rfl⟩ := List.getElem_of_mem hy
      have h1 := hn j (by omega)
      have h2 := hlate k (by omega) (l.getD j .undef) k hkl (by rw [List.getD_eq_getElem?_getD, List.getElem?_eq_getElem hj]; exact hx.symm)
      rw [h1] at h2
      have := of_decide_eq_false h2.symm
      omega
    · rw [if_neg (by omega)]
      generalize foB l (M.take k) l.length 0 (-1) = b at q0 q1 q2 q3
      obtain ⟨q, hq, hx⟩ := hin b.toNat (by omega)
      have h1 := hlate k (by omega) _ q hq hx
      rw [q2] at h1
      have hkq := of_decide_eq_true h1.symm
      obtain ⟨y, hy, hx2⟩ := List.mem_map.1 ((hm _).1 (List.getElem_mem hkl))
      obtain ⟨j, hj, rfl⟩ := List.getElem_of_mem hy
      have hjx : M[k] = fwE (l.getD j .undef) := by rw [List.getD_eq_getElem?_getD, List.getElem?_eq_getElem hj]; exact hx2.symm
      have h2 := hlate k (by omega) (l.getD j .undef) k hkl hjx
      rw [decide_eq_true (Nat.le_refl k)] at h2
      have h3 := q3 j (by omega) h2
      rw [← fwLt_E, ← hjx, ← hx] at h3
      have hqk : q = k := by
        rcases Nat.lt_or_ge k q with h | h
        · rw [hlt k q hkl hq h] at h3; cases h3
        · omega
      subst hqk
      rw [← hx, ← List.take_succ_eq_append_getElem hkl]
      have := ih (q + 1) (by omega)
      rw [show l.length + 1 - (q + 1) = l.length - q by omega] at this
      exact this
theorem foM_sorted {l M : List V} (hl : ∀ j : Nat, j < l.length → fwOk (l.getD j .undef) = true) (hM : M.Pairwise fun u v => fwLt u v = true) (hm : ∀ x, x ∈ M ↔ x ∈ l.map fwE) (hlen : M.length ≤ l.length) : foM l = M := by
  have := foF_sorted hl hM hm hlen M.length 0 (by omega)
  rw [List.take_zero] at this
  exact this
end Go.Proofs.YtpoeinajedbfoaaDoor

namespace Go.Proofs.YtpoeinajedbfoaaDoor
open Go Go.Am Go.RowKit Go.Mix Go.Bas
set_option maxRecDepth 100000
def foW (o : List V) : Option Blk := some (.row 40 fwSh (.rows fwSh o))
def foAll (l : List V) : Bool := Nat.ble l.length 1000 && l.all fwOk
theorem foAll_len {l : List V} (h : foAll l = true) : l.length ≤ 1000 := Nat.le_of_ble_eq_true ((Bool.and_eq_true _ _).mp h).1
theorem foAll_at {l : List V} (h : foAll l = true) {i : Nat} (hi : i < l.length) : fwOk (l.getD i .undef) = true := by
  refine List.all_eq_true.1 ((Bool.and_eq_true _ _).mp h).2 _ ?_
  rw [List.getD_eq_getElem?_getD, List.getElem?_eq_getElem hi]
  exact List.getElem_mem hi
/-! ### the least that comes behind -/
def fiA (l : List V) (b i : Int) : S := ⟨[(0, .rows fwSh l), (3, .nils), (4, .int .i64 b), (5, .int .i64 i)], [], 0, true, 61⟩
def fiB (l o : List V) (b i : Int) : S := ⟨[(0, .rows fwSh l), (3, .own 0 o.length fwSh), (4, .int .i64 b), (5, .int .i64 i)], [(0, foW o)], 1, true, 61⟩
def fiXA (l : List V) (b : Int) : S := ⟨[(0, .rows fwSh l), (3, .nils), (4, .int .i64 b)], [], 0, true, 61⟩
def fiXB (l o : List V) (b : Int) : S := ⟨[(0, .rows fwSh l), (3, .own 0 o.length fwSh), (4, .int .i64 b)], [(0, foW o)], 1, true, 61⟩
structure FiI where
  (l o : List V)
  (b i : Int)
def fiGet (s : S) : FiI := ⟨toR (lkD s 0), toR (bkD s 0), toI (lkD s 4), toI (lkD s 5)⟩
def fiSt (x : FiI) : S := if x.o.isEmpty = true then fiA x.l x.b x.i else fiB x.l x.o x.b x.i
/-- what came out already -/
def fiOk (o : List V) : Prop := o.length ≤ 1001 ∧ ∀ v ∈ o, fwOk v = true
def fiI (x : FiI) : Prop := 0 ≤ x.i ∧ x.i ≤ x.l.length ∧ -1 ≤ x.b ∧ x.b < x.l.length ∧ foAll x.l = true ∧ fiOk x.o
def fiO (x : FiI) : Tr := .br x.o.isEmpty (.leaf (.exit 2) (fiXA x.l (foB x.l x.o (x.l.length - x.i.toNat) x.i x.b))) (.leaf (.exit 2) (fiXB x.l x.o (foB x.l x.o (x.l.length - x.i.toNat) x.i x.b)))
noncomputable def fiG : S → Option (Bool × Tr) := gX fiGet fiSt fiI fiO
def foD : S → Option (Bool × Tr) := fun _ => none
noncomputable def af_FoSortP : AF := afOf Tryd.prog Tryd.f27 [.sum [0, 3, 4, 5] [] fiG, .sum [0, 3] [] foD]
noncomputable def foPC : AC := (af_FoSortP.ac.sums.headD (.skip, [], [], fun _ => none)).1
noncomputable def fiC : AC := (foPC.sums.headD (.skip, [], [], fun _ => none)).1
noncomputable def GEfob : List (Nat × Con) := [(29, .val [.agg [.barr 16, .int .i64, .barr 16, .int .i64], .agg [.barr 16, .int .i64, .barr 16, .int .i64]] cFlLess)]
theorem GEfob_ok : GOk Tryd.prog GEfob := .cons (enters_of Tryd.func29 (by kernel_rfl) rfl) rFlLess_con <| .nil
noncomputable def IEfob : List (Nat × AF) := []
theorem IEfob_ok : IOk Tryd.prog IEfob := .nil
noncomputable def CEfob : List (Nat × (List Nat × (S → Option (Bool × Tr)))) := []
theorem CEfob_ok : COk Tryd.prog CEfob := .nil
noncomputable def XEfob : List (Nat × (List Sh × (List V → PT))) := []
theorem XEfob_ok : XOk Tryd.prog XEfob := .nil
noncomputable def Efob : Env := ⟨Tryd.prog, GEfob, IEfob, CEfob, XEfob⟩
theorem Efob_ok : EnvOk Efob := ⟨by kernel_rfl, GEfob_ok, IEfob_ok, CEfob_ok, XEfob_ok⟩
def evZ0 : V := .undef
def fwTwo (u v : V) : Bool := decide (((fw0 u).length = 16 ∧ (fw0 v).length = 16) ∧ (fw2 u).length = 16 ∧ (fw2 v).length = 16)
theorem fwTwo_t {u v : V} (hu : fwOk u = true) (hv : fwOk v = true) : fwTwo u v = true := decide_eq_true ⟨⟨(fwOk_of hu).1, (fwOk_of hv).1⟩, (fwOk_of hu).2, (fwOk_of hv).2⟩
def fiN (l : List V) (b i : Int) (mk : Int → S) : Option (Ex × S) := bif decide (b < 0) then some (.normal, mk i) else bif andT (andT (andT true (inB i l.length)) (inB b l.length)) (fwTwo (l.getD i.toNat .undef) (l.getD b.toNat .undef)) && true then (bif fwLt (l.getD i.toNat .undef) (l.getD b.toNat .undef) then some (.normal, mk i) else some (.normal, mk b)) else none
theorem fiA_u (l : List V) (b i : Int) : aev Efob (inlN Efob 6) fiC (bodyF (Am.ways [0, 3, 4, 5] [0, 3, 4] []) []) (fiA l b i) = bif decide (i < (l.length : Int)) then fiN l b i (fun c => fiA l c (IntKind.i64.wrap (i + 1))) else some (.exit 2, fiXA l b) := by kernel_rfl
theorem fiB_u (l o : List V) (b i : Int) : aev Efob (inlN Efob 6) fiC (bodyF (Am.ways [0, 3, 4, 5] [0, 3, 4] []) []) (fiB l o b i) = bif decide (i < (l.length : Int)) then (bif (o.length : Int) == 0 then fiN l b i (fun c => fiB l o c (IntKind.i64.wrap (i + 1))) else bif andT (andT (andT true (inB (IntKind.i64.wrap ((o.length : Int) - 1)) o.length)) (inB i l.length)) (fwTwo (o.getD (IntKind.i64.wrap ((o.length : Int) - 1)).toNat .undef) (l.getD i.toNat .undef)) && true then (bif fwLt (o.getD (IntKind.i64.wrap ((o.length : Int) - 1)).toNat .undef) (l.getD i.toNat .undef) then fiN l b i (fun c => fiB l o c (IntKind.i64.wrap (i + 1))) else some (.normal, fiB l o b (IntKind.i64.wrap (i + 1)))) else none) else some (.exit 2, fiXB l o b) := by kernel_rfl
theorem fiN_eq {l : List V} {b i : Int} (mk : Int → S) (hA : foAll l = true) (h0 : 0 ≤ i) (hi : i < l.length) (hb0 : -1 ≤ b) (hb1 : b < l.length) : fiN l b i mk = some (.normal, mk (if (decide (b < 0) || fwLt (l.getD i.toNat .undef) (l.getD b.toNat .undef)) = true then i else b)) := by
  unfold fiN
  by_cases c : b < 0
  · rw [decide_eq_true c]; rfl
  · rw [decide_eq_false c, inB_t h0 hi, inB_t (show 0 ≤ b by omega) hb1, fwTwo_t (foAll_at hA (by omega)) (foAll_at hA (by omega))]
    cases fwLt (l.getD i.toNat .undef) (l.getD b.toNat .undef) <;> rfl
set_option maxRecDepth 8000 in
set_option maxHeartbeats 1000000 in
theorem fi_loop : LoopOk Tryd.prog fiC.erase [] fiG := by
  refine loopX_ok Efob_ok (d := 6) (AC.flat_ok (by kernel_rfl)) (Am.ways [0, 3, 4, 5] [0, 3, 4] []) [] fiGet fiSt fiO fiI (fun x => (x.l.length - x.i).toNat) (fun x => by unfold fiSt; split <;> rfl) ?_
  rintro ⟨l, o, b, i⟩ ⟨h0, h1, hb0, hb1, hA, ho1, ho2⟩
  simp only at h0 h1 hb0 hb1 hA ho1 ho2 ⊢
  have hL := foAll_len hA
  have next : i < l.length → ∃ b', b' = (if foC l o i b = true then i else b) ∧ fiI ⟨l, o, b', i + 1⟩ ∧ (∀ e s, Leaf (fiO ⟨l, o, b', i + 1⟩) e s → Leaf (fiO ⟨l, o, b, i⟩) e s) := by
    intro hi
    refine ⟨_, rfl, ⟨by dsimp only; omega, by dsimp only; omega, ?_, ?_, hA, ho1, ho2⟩, leaf_eq ?_⟩
    · dsimp only; split <;> omega
    · dsimp only; split <;> omega
    · unfold fiO
      dsimp only
      rw [show l.length - i.toNat = (l.length - (i + 1).toNat) + 1 by omega]
      rfl
  cases o with
  | nil =>
    rw [show fiSt ⟨l, [], b, i⟩ = fiA l b i from if_pos rfl, fiA_u]
    by_cases hi : i < l.length
    · obtain ⟨b', hb', hI, hle⟩ := next hi
      rw [dec_t hi, w64 (x := i + 1) (by omega) (by omega)]
      refine .inl ⟨⟨l, [], b', i + 1⟩, ?_, hI, by dsimp only; omega, hle⟩
      rw [cond_true, show fiSt ⟨l, [], b', i + 1⟩ = fiA l b' (i + 1) from if_pos rfl]
      rw [fiN_eq _ hA h0 hi hb0 hb1, hb']
      have e : foC l [] i b = (decide (b < 0) || fwLt (l.getD i.toNat .undef) (l.getD b.toNat .undef)) := rfl
      rw [e]
    · refine .inr ⟨.exit 2, fiXA l b, ?_, nofun, ?_⟩
      · rw [dec_f hi]
        rfl
      · unfold fiO
        dsimp only
        rw [show l.length - i.toNat = 0 by omega]
        exact leaf_t rfl .leaf
  | cons y o =>
    rw [show fiSt ⟨l, y :: o, b, i⟩ = fiB l (y :: o) b i from if_neg (by simp), fiB_u]
    by_cases hi : i < l.length
    · obtain ⟨b', hb', hI, hle⟩ := next hi
      have hlast : fwOk ((y :: o).getD ((y :: o).length - 1) .undef) = true := by
        refine ho2 _ ?_
        rw [List.getD_eq_getElem?_getD, List.getElem?_eq_getElem (by simp)]
        exact List.getElem_mem _
      have e1 : (((y :: o).length : Int) == 0) = false := by simp; omega
      have e2 : IntKind.i64.wrap (((y :: o).length : Int) - 1) = (((y :: o).length - 1 : Nat) : Int) := by
        have : 0 < (y :: o).length := by simp
        rw [w64 (by omega) (by omega)]; omega
      rw [dec_t hi, e1, e2, Int.toNat_natCast, inB_t (i := (((y :: o).length - 1 : Nat) : Int)) (by omega) (by simp; omega), inB_t h0 hi, fwTwo_t hlast (foAll_at hA (by omega)), w64 (x := i + 1) (by omega) (by omega)]
      refine .inl ⟨⟨l, y :: o, b', i + 1⟩, ?_, hI, by dsimp only; omega, hle⟩
      have e : foC l (y :: o) i b = (fwLt ((y :: o).getD ((y :: o).length - 1) .undef) (l.getD i.toNat .undef) && (decide (b < 0) || fwLt (l.getD i.toNat .undef) (l.getD b.toNat .undef))) := rfl
      rw [show fiSt ⟨l, y :: o, b', i + 1⟩ = fiB l (y :: o) b' (i + 1) from if_neg (by simp)]
      rw [hb', e, cond_true, cond_false]
      cases hq : fwLt ((y :: o).getD ((y :: o).length - 1) .undef) (l.getD i.toNat .undef) with
      | true =>
        show (bif true then fiN l b i (fun c => fiB l (y :: o) c (i + 1)) else some (Ex.normal, fiB l (y :: o) b (i + 1))) = _
        rw [cond_true, fiN_eq _ hA h0 hi hb0 hb1, Bool.true_and]
      | false => rfl
    · refine .inr ⟨.exit 2, fiXB l (y :: o) b, ?_, nofun, ?_⟩
      · rw [dec_f hi]
        rfl
      · unfold fiO
        dsimp only
        rw [show l.length - i.toNat = 0 by omega]
        exact leaf_f rfl .leaf
/-! ### one by one -/
def foSA (l : List V) : S := ⟨[(0, .rows fwSh l), (3, .nils)], [], 0, true, 61⟩
def foSB (l o : List V) : S := ⟨[(0, .rows fwSh l), (3, .own 0 o.length fwSh)], [(0, foW o)], 1, true, 61⟩
def foXA : S := ⟨[(3, .nils)], [], 0, true, 61⟩
def foXB (o : List V) : S := ⟨[(3, .own 0 o.length fwSh)], [(0, foW o)], 1, true, 61⟩
structure FoI where
  (l o : List V)
def foGet (s : S) : FoI := ⟨toR (lkD s 0), toR (bkD s 0)⟩
def foSt (x : FoI) : S := if x.o.isEmpty = true then foSA x.l else foSB x.l x.o
def foI (x : FoI) : Prop := foAll x.l = true ∧ x.o.length ≤ x.l.length + 1 ∧ ∀ v ∈ x.o, fwOk v = true
def foO (x : FoI) : Tr := .br (foF x.l (x.l.length + 1 - x.o.length) x.o).isEmpty (.leaf (.exit 0) foXA) (.leaf (.exit 0) (foXB (foF x.l (x.l.length + 1 - x.o.length) x.o)))
noncomputable def foG : S → Option (Bool × Tr) := gX foGet foSt foI foO
noncomputable def af_FoSort : AF := afOf Tryd.prog Tryd.f27 [.sum [0, 3, 4, 5] [] fiG, .sum [0, 3] [] foG]
noncomputable def foSC : AC := (af_FoSort.ac.sums.headD (.skip, [], [], fun _ => none)).1
def foBb (l o : List V) : Int := foB l o (l.length - (0 : Int).toNat) 0 (-1)
theorem foA_u (l : List V) : aev Efob (inlN Efob 6) foSC (bodyF (Am.ways [0, 3] [3] []) []) (foSA l) = bif decide ((0 : Int) ≤ (l.length : Int)) then (bif okG (fiA l (-1) 0 = fiSt ⟨l, [], -1, 0⟩ ∧ fiI ⟨l, [], -1, 0⟩) then (bif decide (foBb l [] < 0) then some (.exit 0, foXA) else bif andT true (inB (foBb l []) l.length) then some (.normal, foSB l (fwE (l.getD (foBb l []).toNat .undef) :: List.replicate 0 evZ0)) else none) else none) else some (.exit 0, foXA) := by kernel_rfl
theorem foB_u (l o : List V) : aev Efob (inlN Efob 6) foSC (bodyF (Am.ways [0, 3] [3] []) []) (foSB l o) = bif decide ((o.length : Int) ≤ (l.length : Int)) then (bif okG (fiB l o (-1) 0 = fiSt ⟨l, o, -1, 0⟩ ∧ fiI ⟨l, o, -1, 0⟩) then (bif o.isEmpty then (bif decide (foBb l o < 0) then some (.exit 0, foXA) else bif andT true (inB (foBb l o) l.length) then some (.normal, foSB l (fwE (l.getD (foBb l o).toNat .undef) :: List.replicate 0 evZ0)) else none) else (bif decide (foBb l o < 0) then some (.exit 0, foXB o) else bif andT (andT true (inB (foBb l o) l.length)) (((o ++ fwE (l.getD (foBb l o).toNat .undef) :: List.replicate 0 evZ0).length * 48).ble 140737488355328) then some (.normal, foSB l (o ++ fwE (l.getD (foBb l o).toNat .undef) :: List.replicate 0 evZ0)) else none)) else none) else some (.exit 0, foXB o) := by kernel_rfl
theorem foB_rng {l o : List V} (hA : foAll l = true) : -1 ≤ foBb l o ∧ foBb l o < l.length := by
  have h := foB_spec (l := l) (o := o) fun j hj => foAll_at hA hj
  have e : foBb l o = foB l o l.length 0 (-1) := rfl
  rw [e]
  rcases h with ⟨h, _⟩ | ⟨h1, h2, _⟩ <;> omega
theorem foF_step {l o : List V} (h : o.length ≤ l.length) : foF l (l.length + 1 - o.length) o = if foBb l o < 0 then o else foF l (l.length + 1 - (o ++ [fwE (l.getD (foBb l o).toNat .undef)]).length) (o ++ [fwE (l.getD (foBb l o).toNat .undef)]) := by
  rw [show l.length + 1 - o.length = (l.length - o.length) + 1 by omega]
  conv => lhs; unfold foF
  rw [List.length_append, List.length_singleton, show l.length + 1 - (o.length + 1) = l.length - o.length by omega]
  rfl
theorem foF_end {l o : List V} (h : ¬ o.length ≤ l.length) : foF l (l.length + 1 - o.length) o = o := by
  rw [show l.length + 1 - o.length = 0 by omega]
  rfl
theorem fwOk_E {v : V} : fwOk (fwE v) = fwOk v := rfl
theorem foSC_ok : LoopsOk Tryd.prog foSC := sums_one (c := fiC) (ts := [0, 3, 4, 5]) (by kernel_rfl) (by kernel_rfl) fi_loop
theorem fo_loop : LoopOk Tryd.prog foSC.erase [] foG := by
  refine loopX_ok Efob_ok (d := 6) foSC_ok (Am.ways [0, 3] [3] []) [] foGet foSt foO foI (fun x => x.l.length + 1 - x.o.length) (fun x => by unfold foSt; split <;> rfl) ?_
  rintro ⟨l, o⟩ ⟨hA, h1, ho⟩
  simp only at hA h1 ho ⊢
  have hL := foAll_len hA
  have hr := foB_rng (o := o) hA
  have hfi : fiI ⟨l, o, -1, 0⟩ := ⟨Int.le_refl _, by dsimp only; omega, Int.le_refl _, by dsimp only; omega, hA, by dsimp only; omega, ho⟩
  -- one more
  have more : o.length ≤ l.length → ¬ foBb l o < 0 → foI ⟨l, o ++ [fwE (l.getD (foBb l o).toNat .undef)]⟩ ∧ l.length + 1 - (o ++ [fwE (l.getD (foBb l o).toNat .undef)]).length < l.length + 1 - o.length ∧ foO ⟨l, o ++ [fwE (l.getD (foBb l o).toNat .undef)]⟩ = foO ⟨l, o⟩ := by
    intro q1 q2
    refine ⟨⟨hA, by dsimp only; rw [List.length_append, List.length_singleton]; omega, fun v hv => ?_⟩, by rw [List.length_append, List.length_singleton]; omega, ?_⟩
    · rcases List.mem_append.1 hv with h | h
      · exact ho v h
      · rw [List.mem_singleton.1 h, fwOk_E]; exact foAll_at hA (by omega)
    · unfold foO
      dsimp only
      rw [foF_step q1, if_neg q2]
  cases o with
  | nil =>
    rw [show foSt ⟨l, []⟩ = foSA l from if_pos rfl, foA_u, dec_t (show (0 : Int) ≤ (l.length : Int) by omega), okG_t ⟨rfl, hfi⟩]
    by_cases hb : foBb l [] < 0
    · refine .inr ⟨.exit 0, foXA, ?_, nofun, ?_⟩
      · rw [dec_t hb]
        rfl
      · unfold foO
        dsimp only
        rw [foF_step (Nat.zero_le _), if_pos hb]
        exact leaf_t rfl .leaf
    · obtain ⟨m1, m2, m3⟩ := more (Nat.zero_le _) hb
      rw [dec_f hb, inB_t (show 0 ≤ foBb l [] by omega) (by omega)]
      exact .inl ⟨⟨l, [fwE (l.getD (foBb l []).toNat .undef)]⟩, rfl, m1, m2, leaf_eq m3⟩
  | cons y o =>
    rw [show foSt ⟨l, y :: o⟩ = foSB l (y :: o) from if_neg (by simp), foB_u]
    by_cases hc : (y :: o).length ≤ l.length
    · rw [dec_t (show ((y :: o).length : Int) ≤ (l.length : Int) by omega), okG_t ⟨rfl, hfi⟩]
      by_cases hb : foBb l (y :: o) < 0
      · refine .inr ⟨.exit 0, foXB (y :: o), ?_, nofun, ?_⟩
        · rw [dec_t hb]
          rfl
        · unfold foO
          dsimp only
          rw [foF_step hc, if_pos hb]
          exact leaf_f rfl .leaf
      · obtain ⟨m1, m2, m3⟩ := more hc hb
        have hl2 : ((y :: o) ++ fwE (l.getD (foBb l (y :: o)).toNat .undef) :: List.replicate 0 evZ0).length = (y :: o).length + 1 := by simp
        rw [dec_f hb, inB_t (show 0 ≤ foBb l (y :: o) by omega) (by omega), hl2, show (((y :: o).length + 1) * 48).ble 140737488355328 = true from Nat.ble_eq.mpr (by omega)]
        exact .inl ⟨⟨l, (y :: o) ++ [fwE (l.getD (foBb l (y :: o)).toNat .undef)]⟩, rfl, m1, m2, leaf_eq m3⟩
    · refine .inr ⟨.exit 0, foXB (y :: o), ?_, nofun, ?_⟩
      · rw [dec_f (show ¬ ((y :: o).length : Int) ≤ (l.length : Int) by omega)]
        rfl
      · unfold foO
        dsimp only
        rw [foF_end hc]
        exact leaf_f rfl .leaf
theorem af_FoSort_ok : AllOk Tryd.prog 27 af_FoSort := .sums Tryd.func27 (by kernel_rfl) (by kernel_rfl) (by kernel_rfl) (by kernel_rfl) (sums_two (c := foSC) (c2 := fiC) (ts := [0, 3]) (ts2 := [0, 3, 4, 5]) (by kernel_rfl) (by kernel_rfl) fo_loop fi_loop)
theorem FoSort_u (l : List V) : callV Efob af_FoSort [.rows fwSh l] = bif okG (foSA l = foSt ⟨l, []⟩ ∧ foI ⟨l, []⟩) then (bif (foF l (l.length + 1 - ([] : List V).length) []).isEmpty then some (.ownv 40 (.rows fwSh [])) else some (.ownv 40 (.rows fwSh (foF l (l.length + 1 - ([] : List V).length) [])))) else none := by kernel_rfl
theorem FoSort_v (l : List V) (h : foAll l = true) : callV Efob af_FoSort [.rows fwSh l] = some (.ownv 40 (.rows fwSh (foM l))) := by
  rw [FoSort_u, okG_t ⟨rfl, h, Nat.zero_le _, fun v hv => by cases hv⟩]
  have e : foF l (l.length + 1 - ([] : List V).length) [] = foM l := rfl
  rw [e]
  cases foM l <;> rfl
def cFlSort : List V → Option (V × Bool)
  | [.rows (.agg [.barr 16, .int .i64, .barr 16, .int .i64]) l] => some (.ownv 40 (.rows fwSh (foM l)), foAll l)
  | _ => none
theorem FoSort_con : ∀ vs v, cFlSort vs = some (v, true) → SpecV Tryd.prog 27 vs v := by
  intro vs v h; unfold cFlSort at h; split at h
  · rename_i l
    injection h with h; injection h with h hb; subst h
    exact callV_ok Efob_ok af_FoSort_ok (FoSort_v _ hb)
  · cases h
end Go.Proofs.YtpoeinajedbfoaaDoor
