import Derived.OrdersHeld
import Derived.KernelRfl
import Derived.Tactics
import Derived.Tactics2
import Derived.BigQuiet
import Derived.Below
namespace Go.Mix
open Go Go.RowKit

/-- nothing but the ordinary end -/
def Only (Q : Act → World → Prop) : Exit → Act → World → Prop
  | .normal, a, w => Q a w
  | _, _, _ => False

/-- operations that never enter a call -/
def heldKind : Op → Bool
  | .move _ | .assign _ | .pick .. | .load .. | .binOp .. | .unOp .. | .convert .. | .build .. | .slice .. | .fieldAddr .. | .field .. | .indexAddr .. | .index .. | .extract .. => true
  | .call { callee := .builtin .len, .. } | .call { callee := .builtin .cap, .. } => true
  | .call { callee := .builtin .min, .. } | .call { callee := .builtin .max, .. } => true
  | _ => false

theorem run_value_not_enter {P : Program} {s : Sem Value} {w w' : World} {f : FuncId} {args : Array Value} :
    (do pure (Next.value (← s)) : Sem Next).run P w ≠ .ok (.enter f args) w' := by
  simp only [Sem.run_bind]
  cases s.run P w with
  | ok v w1 => simp
  | halt h w1 => simp

theorem noEnter {P : Program} {ρ : Operand → Value} {o : Oper} (h : heldKind o.op = true) {w w' : World} {f : FuncId} {args : Array Value} :
    (execOp ρ o).run P w ≠ .ok (.enter f args) w' := by
  obtain ⟨dst, op, type, pos, aft, guard⟩ := o
  cases op <;> simp only [heldKind, Bool.false_eq_true] at h <;> simp only [execOp] <;> try exact run_value_not_enter
  case move => simp
  case assign => simp
  case pick c a b =>
    simp only [Sem.run_bind]
    cases (asBool (ρ c)).run P w with
    | ok v w1 => simp
    | halt h w1 => simp
  case call c =>
    obtain ⟨callee, as, ats⟩ := c
    split at h <;> simp only [Bool.false_eq_true] at h <;> rename_i heq <;> (try simp only [Op.call.injEq, Call.mk.injEq] at heq) <;> (try (obtain ⟨rfl, rfl, rfl⟩ := heq)) <;> (try contradiction) <;>
      (simp only [resolve, invoke, builtin, pure_bind]; exact run_value_not_enter)

section
variable {P : Program} {ops : Array Oper} {md : Region.Mode}

def nth : List Oper → Nat → Option Oper
  | [], _ => none
  | o :: _, 0 => some o
  | _ :: l, i + 1 => nth l i

theorem nth_eq : ∀ (l : List Oper) (i : Nat), nth l i = l[i]?
  | [], i => by simp [nth]
  | o :: l, 0 => by simp [nth]
  | o :: l, i + 1 => by simp [nth, nth_eq l i]

/-- operations in a chosen order: 'false': it yields one value in every world of the class; 'true': it runs alone, and leaves a world of a narrower class -/
def wpSegs (P : Program) (ops : Array Oper) (Q : Act → World → Prop) : List (Nat × Nat) → (World → Prop) → Act → World → Prop
  | [], _, a, w => Q a w
  | (i, 0) :: r, C, a, w => qOp P ops C i (fun a' => wpSegs P ops Q r C a' w) a
  | (i, 1) :: r, C, a, w => wpOp P ops (fun _ _ _ => False) i (fun a' w' => ∃ C' : World → Prop, (∀ w, C' w → C w) ∧ C' w' ∧ wpSegs P ops Q r C' a' w') a w
  | (i, _ + 2) :: (j, _) :: r, C, a, w =>
    wpOp P ops (fun _ _ _ => False) i (fun a1 w1 => C w1 ∧ wpOp P ops (fun _ _ _ => False) j (fun a' w' => ∃ C' : World → Prop, (∀ w, C' w → C w) ∧ C' w' ∧ wpSegs P ops Q r C' a' w') a1 w1) a w ∧
    wpOp P ops (fun _ _ _ => False) j (fun a1 w1 => C w1 ∧ wpOp P ops (fun _ _ _ => False) i (fun a' w' => ∃ C' : World → Prop, (∀ w, C' w → C w) ∧ C' w' ∧ wpSegs P ops Q r C' a' w') a1 w1) a w
  | (_, _ + 2) :: [], _, _, _ => False

def mixB (md : Region.Mode) (ops : Array Oper) : List (Nat × Nat) → Array Bool → Bool
  | [], listed => (Region.ready md ops listed).isEmpty
  | (i, 0) :: r, listed => (match nth ops.toList i with | some o => heldKind o.op | none => false) && (Region.ready md ops listed).contains i && Region.free md ops listed i && mixB md ops r (listed.setIfInBounds i true)
  | (i, 1) :: r, listed => (Region.ready md ops listed == [i]) && mixB md ops r (listed.setIfInBounds i true)
  | (i, _ + 2) :: (j, _) :: r, listed => (Region.ready md ops listed == [i, j]) && (i != j) && (Region.ready md ops (listed.setIfInBounds i true) == [j]) && (Region.ready md ops (listed.setIfInBounds j true) == [i]) && mixB md ops r ((listed.setIfInBounds i true).setIfInBounds j true)
  | (_, _ + 2) :: [], _ => false

theorem wpOp_False {Q : Act → World → Prop} {i : Nat} {K : Act → World → Prop} {a : Act} {w : World} (h : wpOp P ops (fun _ _ _ => False) i K a w) : wpOp P ops (Only Q) i K a w := by
  unfold wpOp at *
  split
  · rename_i ho; simp only [ho] at h; exact h
  · rename_i o ho
    simp only [ho] at h
    split
    · rename_i hw
      simp only [hw, if_true] at h
      rcases h with h | ⟨_, _, _, h⟩
      · refine .inl ?_
        unfold Oper.wp at *
        generalize (execOp a.eval o).run P w = r at *
        cases r with
        | ok n w' =>
          cases n <;> simp only [Oper.upon] at h ⊢ <;> exact h
        | halt x w' => cases x <;> simp only [Oper.upon] at h
      · exact h.elim
    · rename_i hw; simp only [hw] at h; exact h

theorem wpAnyH_class {Q : Exit → Act → World → Prop} {S S' : World → Prop} (hSS : ∀ w, S' w → S w) : ∀ (fuel : Nat) (listed : Array Bool) (a : Act) (w : World), wpAnyH P md ops Q S' fuel listed a w → wpAnyH P md ops Q S fuel listed a w
  | 0, _, _, _, h => h
  | fuel + 1, _, _, _, h => ⟨h.1, fun i hi => wpOp_mono (fun a' w' h' => ⟨hSS _ h'.1, wpAnyH_class hSS fuel _ a' w' h'.2⟩) (h.2 i hi)⟩

theorem run_value_not_skip {P : Program} {s : Sem Value} {w w' : World} :
    (do pure (Next.value (← s)) : Sem Next).run P w ≠ .ok .skip w' := by
  simp only [Sem.run_bind]
  cases s.run P w with
  | ok v w1 => simp
  | halt h w1 => simp
theorem noSkip {P : Program} {ρ : Operand → Value} {o : Oper} (h : heldKind o.op = true) {w w' : World} :
    (execOp ρ o).run P w ≠ .ok .skip w' := by
  obtain ⟨dst, op, type, pos, aft, guard⟩ := o
  cases op <;> simp only [heldKind, Bool.false_eq_true] at h <;> simp only [execOp] <;> try exact run_value_not_skip
  case move => simp
  case assign => simp
  case pick c a b =>
    simp only [Sem.run_bind]
    cases (asBool (ρ c)).run P w with
    | ok v w1 => simp
    | halt h w1 => simp
  case call c =>
    obtain ⟨callee, as, ats⟩ := c
    split at h <;> simp only [Bool.false_eq_true] at h <;> rename_i heq <;> (try simp only [Op.call.injEq, Call.mk.injEq] at heq) <;> (try (obtain ⟨rfl, rfl, rfl⟩ := heq)) <;> (try contradiction) <;>
      (simp only [resolve, invoke, builtin, pure_bind]; exact run_value_not_skip)

theorem yieldsIf_of {C : World → Prop} {o : Oper} {v : Value} {a : Act} (hk : heldKind o.op = true) (hy : YieldsIn P ops C o v a) : YieldsIf P ops C o v a := by
  rcases hy with ⟨hwant, h⟩ | h
  · refine .inl ⟨hwant, fun w hw => ?_⟩
    have h := h w hw
    unfold Oper.quietAt at h
    generalize hr : (execOp a.eval o).run P w = r at h
    cases r with
    | ok n w' =>
      cases n <;> simp only [Oper.quietUpon] at h
      case value u => rw [h.1, h.2]
      case skip => exact absurd hr (noSkip hk)
      case enter f args => exact absurd hr (noEnter hk)
    | halt x w' => simp only [Oper.quietUpon] at h
  · exact .inr h

theorem wpAnyH_of_segs {Q : Act → World → Prop} (hs : Region.noSelect ops = true) :
    ∀ (ord : List (Nat × Nat)) (C : World → Prop) (fuel : Nat) (listed : Array Bool) (a : Act) (w : World), ord.length ≤ fuel → mixB md ops ord listed = true → C w →
      wpSegs P ops Q ord C a w → wpAnyH P md ops (Only Q) C fuel listed a w
  | [], C, 0, listed, a, w, _, hB, _, h => ⟨by simpa [mixB] using hB, h⟩
  | [], C, fuel + 1, listed, a, w, _, hB, _, h => by
    have h0 : Region.ready md ops listed = [] := by simpa [mixB] using hB
    exact ⟨fun _ => h, by rw [h0]; simp⟩
  | (i, 0) :: r, C, fuel + 1, listed, a, w, hl, hB, hC, h => by
    simp only [mixB, Bool.and_eq_true] at hB
    obtain ⟨⟨⟨hk, hr⟩, hf⟩, hB'⟩ := hB
    cases ho : ops[i]? with
    | none => rw [nth_eq, Array.getElem?_toList, ho] at hk; cases hk
    | some o =>
      rw [nth_eq, Array.getElem?_toList, ho] at hk
      obtain ⟨v, hy, hK⟩ := yieldsIn_of_qOp ho h
      exact wpAnyH_take ho hs hf hr (fun _ _ _ h => h) (yieldsIf_of hk hy) hC (wpAnyH_of_segs hs r C fuel _ _ _ (by simpa using hl) hB' hC hK)
  | (i, 1) :: r, C, fuel + 1, listed, a, w, hl, hB, _, h => by
    simp only [mixB, Bool.and_eq_true, beq_iff_eq] at hB
    obtain ⟨hr, hB'⟩ := hB
    refine wpAnyH_all hr (by simp) ?_
    intro j hj
    have : j = i := by simpa using hj
    subst this
    refine wpOp_mono (fun a' w' h' => ?_) (wpOp_False h)
    obtain ⟨C', hsub, hC', hseg⟩ := h'
    exact ⟨hsub _ hC', wpAnyH_class hsub _ _ _ _ (wpAnyH_of_segs hs r C' fuel _ _ _ (by simpa using hl) hB' hC' hseg)⟩
  | (i, k + 2) :: (j, k') :: r, C, fuel + 2, listed, a, w, hl, hB, _, h => by
    simp only [mixB, Bool.and_eq_true, beq_iff_eq, bne_iff_ne] at hB
    obtain ⟨⟨⟨⟨hr, hne⟩, hri⟩, hrj⟩, hB'⟩ := hB
    have last : ∀ (a' : Act) (w' : World), (∃ C' : World → Prop, (∀ w, C' w → C w) ∧ C' w' ∧ wpSegs P ops Q r C' a' w') → C w' ∧ wpAnyH P md ops (Only Q) C fuel ((listed.setIfInBounds i true).setIfInBounds j true) a' w' := by
      rintro a' w' ⟨C', hsub, hC', hseg⟩
      exact ⟨hsub _ hC', wpAnyH_class hsub _ _ _ _ (wpAnyH_of_segs hs r C' fuel _ _ _ (by simpa using hl) hB' hC' hseg)⟩
    refine wpAnyH_all hr (by simp) ?_
    intro x hx
    have hx' : x = i ∨ x = j := by simpa using hx
    rcases hx' with rfl | rfl
    · refine wpOp_mono (fun a1 w1 h1 => ⟨h1.1, wpAnyH_all hri (by simp) ?_⟩) (wpOp_False h.1)
      intro y hy
      obtain rfl : y = j := by simpa using hy
      exact wpOp_mono last (wpOp_False h1.2)
    · refine wpOp_mono (fun a1 w1 h1 => ⟨h1.1, wpAnyH_all hrj (by simp) ?_⟩) (wpOp_False h.2)
      intro y hy
      obtain rfl : y = i := by simpa using hy
      rw [Array.setIfInBounds_comm _ _ hne.symm]
      exact wpOp_mono last (wpOp_False h1.2)
  | (_, _ + 2) :: [], _, _, _, _, _, _, _, _, h => h.elim

/-- A region that draws its order, walked once, in the order 'ord'. -/
theorem wp_region_segs {id : Nat} {Q : Exit → Act → World → Prop} {a : Act} {w : World} (C : World → Prop) (ord : List (Nat × Nat)) (hm : P.follows .mixedOrders = true)
    (hs : Region.noSelect ops = true) (hl : Nat.ble ord.length ops.size = true) (hB : mixB .any ops ord (Array.replicate ops.size false) = true) (hC : C w.drew)
    (h : wpSegs P ops (Q .normal) ord C a w.drew) : (Code.region id ops true).wp P Q a w := by
  have h1 : (Code.region id ops true).wp P (Only (Q .normal)) a w :=
    wp_region_any hm (wpAny_of_held _ _ _ _ (wpAnyH_of_segs hs ord _ _ _ _ _ (Nat.le_of_ble_eq_true hl) hB hC h))
  exact Code.wp_mono (fun e a w hq => by cases e <;> first | exact hq | exact hq.elim) h1

theorem seg_nil {Q : Act → World → Prop} {C : World → Prop} {a : Act} {w : World} (h : Q a w) : wpSegs P ops Q [] C a w := h
theorem seg_held {Q : Act → World → Prop} {C : World → Prop} {a : Act} {w : World} {i : Nat} {r : List (Nat × Nat)} (o : Oper) (ho : nth ops.toList i = some o)
    (h : wpQuiet P ops C (fun a' => wpSegs P ops Q r C a' w) [o] a) : wpSegs P ops Q ((i, 0) :: r) C a w := by
  rw [nth_eq, Array.getElem?_toList] at ho
  show qOp P ops C i _ a
  unfold qOp
  simp only [ho]
  exact h
theorem seg_loud {Q : Act → World → Prop} {C : World → Prop} {a : Act} {w : World} {i : Nat} {r : List (Nat × Nat)} (o : Oper) (ho : nth ops.toList i = some o)
    (hw : Region.wanted o (yielded ops a.tmps) = true)
    (h : ∀ K : Act → World → Prop, (∀ a' w', (∃ C' : World → Prop, (∀ w, C' w → C w) ∧ C' w' ∧ wpSegs P ops Q r C' a' w') → K a' w') → o.wp P a w K (fun _ _ _ => False)) :
    wpSegs P ops Q ((i, 1) :: r) C a w := by
  rw [nth_eq, Array.getElem?_toList] at ho
  show wpOp P ops _ i _ a w
  unfold wpOp
  simp only [ho, hw, if_true]
  exact .inl (h _ fun _ _ h1 => h1)
/-- two that may come in either order: both lead to R -/
theorem seg_fork {Q : Act → World → Prop} {C : World → Prop} {a : Act} {w : World} {i j k k' : Nat} {r : List (Nat × Nat)} (oi oj : Oper) (R : Act → World → Prop) (hi : nth ops.toList i = some oi) (hj : nth ops.toList j = some oj)
    (hwi : oi.guard = none) (hwj : oj.guard = none)
    (h1 : ∀ K : Act → World → Prop, (∀ a1 w1, (C w1 ∧ ∀ K' : Act → World → Prop, (∀ a' w', R a' w' → K' a' w') → oj.wp P a1 w1 K' (fun _ _ _ => False)) → K a1 w1) → oi.wp P a w K (fun _ _ _ => False))
    (h2 : ∀ K : Act → World → Prop, (∀ a1 w1, (C w1 ∧ ∀ K' : Act → World → Prop, (∀ a' w', R a' w' → K' a' w') → oi.wp P a1 w1 K' (fun _ _ _ => False)) → K a1 w1) → oj.wp P a w K (fun _ _ _ => False))
    (h3 : ∀ a' w', R a' w' → ∃ C' : World → Prop, (∀ w, C' w → C w) ∧ C' w' ∧ wpSegs P ops Q r C' a' w') :
    wpSegs P ops Q ((i, k + 2) :: (j, k') :: r) C a w := by
  rw [nth_eq, Array.getElem?_toList] at hi hj
  have step : ∀ (m : Nat) (o : Oper), ops[m]? = some o → o.guard = none → ∀ (K : Act → World → Prop) (a : Act) (w : World), o.wp P a w K (fun _ _ _ => False) → wpOp P ops (fun _ _ _ => False) m K a w := by
    intro m o ho hg K a w h
    unfold wpOp
    simp only [ho, Region.wanted, hg, if_true]
    exact .inl h
  exact ⟨step i oi hi hwi _ _ _ (h1 _ fun a1 w1 h => ⟨h.1, step j oj hj hwj _ _ _ (h.2 _ h3)⟩), step j oj hj hwj _ _ _ (h2 _ fun a1 w1 h => ⟨h.1, step i oi hi hwi _ _ _ (h.2 _ h3)⟩)⟩
theorem seg_loud_off {Q : Act → World → Prop} {C : World → Prop} {a : Act} {w : World} {i : Nat} {r : List (Nat × Nat)} (o : Oper) (ho : nth ops.toList i = some o)
    (hw : Region.wanted o (yielded ops a.tmps) = false) (hC : C w)
    (h : wpSegs P ops Q r C (a.put o.dst undef) w) : wpSegs P ops Q ((i, 1) :: r) C a w := by
  rw [nth_eq, Array.getElem?_toList] at ho
  show wpOp P ops _ i _ a w
  unfold wpOp
  simp only [ho, hw, if_false, Bool.false_eq_true]
  exact ⟨C, fun _ h => h, hC, h⟩
end

/-- A class of worlds, as a type: so that the walk's simp meets 'u.w' and no premise. -/
def Cls (S : World → Prop) : Type := {w : World // S w}
def Cls.w {S : World → Prop} (u : Cls S) : World := u.1
abbrev InC (S : World → Prop) (w : World) : Prop := ∃ u : Cls S, w = u.w
theorem Cls.is {S : World → Prop} (u : Cls S) : S u.w := u.2
theorem inC {S : World → Prop} {w : World} (h : S w) : ∃ u : Cls S, w = u.w := ⟨⟨w, h⟩, rfl⟩
theorem Cls.ne {S : World → Prop} {w : World} (h : S w) : Nonempty (Cls S) := ⟨⟨w, h⟩⟩
/-- Worlds in which all below block B is as in w0. -/
def SB (B : Nat) (w0 w : World) : Prop := Below B w0 w ∧ B ≤ w.heap.size
abbrev SBW (B : Nat) (w0 : World) : Type := Cls (SB B w0)
theorem SB.refl {B : Nat} {w0 : World} (h : B ≤ w0.heap.size) : SB B w0 w0 := ⟨Below.refl _ _, h⟩
theorem SB.start {B : Nat} {w0 : World} (h : B ≤ w0.heap.size) : SB B w0 w0.drew := ⟨(Below.refl _ _).drew, h⟩
theorem SB.step {B : Nat} {w0 w w' : World} (h : SB B w0 w) (h' : Below w.heap.size w w') : SB B w0 w' := ⟨h.1.trans (h'.mono h.2), Nat.le_trans h.2 h'.size⟩
theorem SB.low {B : Nat} {w0 w w' : World} (h : SB B w0 w) (h' : Below B w w') : SB B w0 w' := ⟨h.1.trans h', Nat.le_trans h.2 h'.size⟩
theorem SB.alloc {B : Nat} {w0 w : World} (h : SB B w0 w) (o : Obj) : SB B w0 (w.alloc o) := h.low ((Below.refl _ _).alloc h.2 o)
theorem SB.drew {B : Nat} {w0 w : World} (h : SB B w0 w) : SB B w0 w.drew := ⟨h.1.drew, h.2⟩
theorem SB.sub {B B' : Nat} {w0 w1 w : World} (h : SB B w0 w1) (hB : B ≤ B') (h' : SB B' w1 w) : SB B w0 w := ⟨h.1.trans (h'.1.mono hB), Nat.le_trans hB h'.2⟩
theorem subC {S S' : World → Prop} (h : ∀ w, S' w → S w) : ∀ w, (∃ u : Cls S', w = u.w) → ∃ u : Cls S, w = u.w := by
  rintro w ⟨u, rfl⟩
  exact inC (h _ u.is)
theorem Cls.sb {B : Nat} {w0 : World} (u : SBW B w0) : SB B w0 u.w := u.2
theorem Cls.cell {B : Nat} {w0 : World} (u : SBW B w0) {b o : Nat} {v : Value} (h : w0.cell? ⟨b, o, none⟩ = some v) (hb : b < B) : u.w.cell? ⟨b, o, none⟩ = some v := (u.sb.1.cell (p := ⟨b, o, none⟩) hb).trans h
end Go.Mix
