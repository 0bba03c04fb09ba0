/- Part Ga of the proof: laws used by the law of this claim. -/
import Derived.OrdersHeld
import Derived.KernelRfl
import Derived.Tactics
import Derived.Tactics2
import Derived.BigQuiet
import Derived.Below
import Derived.WalkKit
import Derived.WalkSpells
import Derived.WalkLawsBesides
import Derived.Maps.AppendAt
import Derived.Deep.AppendLies
import Derived.Laws.CopyOwn
import Derived.Laws.BytesArg
import Derived.Laws.BitsAllLaws
import Derived.ChangeKeysEq
import Derived.Laws.StructEq
import Derived.Deep.MidRow
import Derived.Laws.Rows
import Derived.ProofKit
import Derived.OpenShut
import Derived.ChangeOld
import Derived.JoinedCond
import Derived.SizedLaws
import Derived.Lib.LaidTab
import Derived.Lib.ItoaNum
set_option linter.all false
namespace Go.Mix
open Go Go.RowKit
def Only (Q : Act → World → Prop) : Exit → Act → World → Prop
 | .normal, a, w => Q a w
 | _, _, _ => False
def heldKind : Op → Bool
 | .move _ | .assign _ | .pick .. | .load .. | .binOp .. | .unOp .. | .convert .. | .build .. | .slice .. | .fieldAddr .. | .field .. | .indexAddr .. | .index .. | .extract .. | .nilCheck .. => true
 | .call { callee := .builtin .len, .. } | .call { callee := .builtin .cap, .. } => true
 | .call { callee := .builtin .min, .. } | .call { callee := .builtin .max, .. } => true
 | _ => false
theorem run_value_not_enter {P : Program} {s : Sem Value} {w w' : World} {f : FuncId} {args : Array Value} :
  (do pure (Next.value (← s)) : Sem Next).run P w ≠ .ok (.enter f args) w' := by
 simp only [Sem.run_bind]
 cases s.run P w with
 | ok v w1 => simp
 | halt h w1 => simp
theorem noEnter {P : Program} {ρ : Operand → Value} {o : Oper} (h : heldKind o.op = true) {w w' : World} {f : FuncId} {args : Array Value} :
  (execOp ρ o).run P w ≠ .ok (.enter f args) w' := by
 obtain ⟨dst, op, type, pos, aft, guard⟩ := o
 cases op <;> simp only [heldKind, Bool.false_eq_true] at h <;> simp only [execOp] <;> try exact run_value_not_enter
 case move => simp
 case assign => simp
 case pick c a b =>
  simp only [Sem.run_bind]
  cases (asBool (ρ c)).run P w with
  | ok v w1 => simp
  | halt h w1 => simp
 case nilCheck x =>
  have key : ∀ (t : TypeId) (v : Value) (m : String) (r : Value), (do
    let p ← program
    let b ← nilAhead (p.types.size + Made.depth) t v m
    if (b != some false) = true then do
     unsupported (Unsupported.noEntry "op/nilCheck.the method's receiver behind this interface value is a nil pointer, or cannot be seen to be none, and the arguments act or may panic (ledger 612)")
     pure (Next.value r)
    else pure (Next.value r) : Sem Next).run P w ≠ .ok (.enter f args) w' := by
   intro t v m r
   simp only [Sem.run_bind]
   cases (program).run P w with
   | ok p w1 =>
    simp only [Result.andThen]
    cases (nilAhead (p.types.size + Made.depth) t v m).run P w1 with
    | ok b w2 =>
     simp only
     split <;> simp [Sem.run_bind, Result.andThen]
    | halt h w2 => simp
   | halt h w1 => simp [Result.andThen]
  split
  ·simp [runtimePanic]
  ·simp [runtimePanic]
  ·simp [runtimePanic]
  ·split
   ·simp [runtimePanic]
   ·exact key _ _ _ _
   ·simp
  ·simp
 case call c =>
  obtain ⟨callee, as, ats⟩ := c
  split at h <;> simp only [Bool.false_eq_true] at h <;> rename_i heq <;> (try simp only [Op.call.injEq, Call.mk.injEq] at heq) <;> (try (obtain ⟨rfl, rfl, rfl⟩ := heq)) <;> (try contradiction) <;>
   (simp only [resolve, invoke, builtin, pure_bind]; exact run_value_not_enter)
section
variable {P : Program} {ops : Array Oper} {md : Region.Mode}
def nth : List Oper → Nat → Option Oper
 | [], _ => none
 | o :: _, 0 => some o
 | _ :: l, i + 1 => nth l i
theorem nth_eq : ∀ (l : List Oper) (i : Nat), nth l i = l[i]?
 | [], i => by simp [nth]
 | o :: l, 0 => by simp [nth]
 | o :: l, i + 1 => by simp [nth, nth_eq l i]
def wpSegs (P : Program) (ops : Array Oper) (Q : Act → World → Prop) : List (Nat × Nat) → (World → Prop) → Act → World → Prop
 | [], _, a, w => Q a w
 | (i, 0) :: r, C, a, w => qOp P ops C i (fun a' => wpSegs P ops Q r C a' w) a
 | (i, 1) :: r, C, a, w => wpOp P ops (fun _ _ _ => False) i (fun a' w' => ∃ C' : World → Prop, (∀ w, C' w → C w) ∧ C' w' ∧ wpSegs P ops Q r C' a' w') a w
 | (i, _ + 2) :: (j, _) :: r, C, a, w =>
  wpOp P ops (fun _ _ _ => False) i (fun a1 w1 => C w1 ∧ wpOp P ops (fun _ _ _ => False) j (fun a' w' => ∃ C' : World → Prop, (∀ w, C' w → C w) ∧ C' w' ∧ wpSegs P ops Q r C' a' w') a1 w1) a w ∧
  wpOp P ops (fun _ _ _ => False) j (fun a1 w1 => C w1 ∧ wpOp P ops (fun _ _ _ => False) i (fun a' w' => ∃ C' : World → Prop, (∀ w, C' w → C w) ∧ C' w' ∧ wpSegs P ops Q r C' a' w') a1 w1) a w
 | (_, _ + 2) :: [], _, _, _ => False
def mixB (md : Region.Mode) (ops : Array Oper) : List (Nat × Nat) → Array Bool → Bool
 | [], listed => (Region.ready md ops listed).isEmpty
 | (i, 0) :: r, listed => (match nth ops.toList i with | some o => heldKind o.op | none => false) && (Region.ready md ops listed).contains i && Region.free md ops listed i && mixB md ops r (listed.setIfInBounds i true)
 | (i, 1) :: r, listed => (Region.ready md ops listed == [i]) && mixB md ops r (listed.setIfInBounds i true)
 | (i, _ + 2) :: (j, _) :: r, listed => (Region.ready md ops listed == [i, j]) && (i != j) && (Region.ready md ops (listed.setIfInBounds i true) == [j]) && (Region.ready md ops (listed.setIfInBounds j true) == [i]) && mixB md ops r ((listed.setIfInBounds i true).setIfInBounds j true)
 | (_, _ + 2) :: [], _ => false
theorem wpOp_False {Q : Act → World → Prop} {i : Nat} {K : Act → World → Prop} {a : Act} {w : World} (h : wpOp P ops (fun _ _ _ => False) i K a w) : wpOp P ops (Only Q) i K a w := by
 unfold wpOp at *
 split
 ·rename_i ho; simp only [ho] at h; exact h
 ·rename_i o ho
  simp only [ho] at h
  split
  ·rename_i hw
   simp only [hw, if_true] at h
   rcases h with h | ⟨_, _, _, h⟩
   ·refine .inl ?_
    unfold Oper.wp at *
    generalize (execOp a.eval o).run P w = r at *
    cases r with
    | ok n w' =>
     cases n <;> simp only [Oper.upon] at h ⊢ <;> exact h
    | halt x w' => cases x <;> simp only [Oper.upon] at h
   ·exact h.elim
  ·rename_i hw; simp only [hw] at h; exact h
theorem wpAnyH_class {Q : Exit → Act → World → Prop} {S S' : World → Prop} (hSS : ∀ w, S' w → S w) : ∀ (fuel : Nat) (listed : Array Bool) (a : Act) (w : World), wpAnyH P md ops Q S' fuel listed a w → wpAnyH P md ops Q S fuel listed a w
 | 0, _, _, _, h => h
 | fuel + 1, _, _, _, h => ⟨h.1, fun i hi => wpOp_mono (fun a' w' h' => ⟨hSS _ h'.1, wpAnyH_class hSS fuel _ a' w' h'.2⟩) (h.2 i hi)⟩
theorem run_value_not_skip {P : Program} {s : Sem Value} {w w' : World} :
  (do pure (Next.value (← s)) : Sem Next).run P w ≠ .ok .skip w' := by
 simp only [Sem.run_bind]
 cases s.run P w with
 | ok v w1 => simp
 | halt h w1 => simp
theorem noSkip {P : Program} {ρ : Operand → Value} {o : Oper} (h : heldKind o.op = true) {w w' : World} :
  (execOp ρ o).run P w ≠ .ok .skip w' := by
 obtain ⟨dst, op, type, pos, aft, guard⟩ := o
 cases op <;> simp only [heldKind, Bool.false_eq_true] at h <;> simp only [execOp] <;> try exact run_value_not_skip
 case move => simp
 case assign => simp
 case pick c a b =>
  simp only [Sem.run_bind]
  cases (asBool (ρ c)).run P w with
  | ok v w1 => simp
  | halt h w1 => simp
 case nilCheck x =>
  have key : ∀ (t : TypeId) (v : Value) (m : String) (r : Value), (do
    let p ← program
    let b ← nilAhead (p.types.size + Made.depth) t v m
    if (b != some false) = true then do
     unsupported (Unsupported.noEntry "op/nilCheck.the method's receiver behind this interface value is a nil pointer, or cannot be seen to be none, and the arguments act or may panic (ledger 612)")
     pure (Next.value r)
    else pure (Next.value r) : Sem Next).run P w ≠ .ok .skip w' := by
   intro t v m r
   simp only [Sem.run_bind]
   cases (program).run P w with
   | ok p w1 =>
    simp only [Result.andThen]
    cases (nilAhead (p.types.size + Made.depth) t v m).run P w1 with
    | ok b w2 =>
     simp only
     split <;> simp [Sem.run_bind, Result.andThen]
    | halt h w2 => simp
   | halt h w1 => simp [Result.andThen]
  split
  ·simp [runtimePanic]
  ·simp [runtimePanic]
  ·simp [runtimePanic]
  ·split
   ·simp [runtimePanic]
   ·exact key _ _ _ _
   ·simp
  ·simp
 case call c =>
  obtain ⟨callee, as, ats⟩ := c
  split at h <;> simp only [Bool.false_eq_true] at h <;> rename_i heq <;> (try simp only [Op.call.injEq, Call.mk.injEq] at heq) <;> (try (obtain ⟨rfl, rfl, rfl⟩ := heq)) <;> (try contradiction) <;>
   (simp only [resolve, invoke, builtin, pure_bind]; exact run_value_not_skip)
theorem yieldsIf_of {C : World → Prop} {o : Oper} {v : Value} {a : Act} (hk : heldKind o.op = true) (hy : YieldsIn P ops C o v a) : YieldsIf P ops C o v a := by
 rcases hy with ⟨hwant, h⟩ | h
 ·refine .inl ⟨hwant, fun w hw => ?_⟩
  have h := h w hw
  unfold Oper.quietAt at h
  generalize hr : (execOp a.eval o).run P w = r at h
  cases r with
  | ok n w' =>
   cases n <;> simp only [Oper.quietUpon] at h
   case value u => rw [h.1, h.2]
   case skip => exact absurd hr (noSkip hk)
   case enter f args => exact absurd hr (noEnter hk)
  | halt x w' => simp only [Oper.quietUpon] at h
 ·exact .inr h
theorem wpAnyH_of_segs {Q : Act → World → Prop} (hs : Region.noSelect ops = true) :
  ∀ (ord : List (Nat × Nat)) (C : World → Prop) (fuel : Nat) (listed : Array Bool) (a : Act) (w : World), ord.length ≤ fuel → mixB md ops ord listed = true → C w →
   wpSegs P ops Q ord C a w → wpAnyH P md ops (Only Q) C fuel listed a w
 | [], C, 0, listed, a, w, _, hB, _, h => ⟨by simpa [mixB] using hB, h⟩
 | [], C, fuel + 1, listed, a, w, _, hB, _, h => by
  have h0 : Region.ready md ops listed = [] := by simpa [mixB] using hB
  exact ⟨fun _ => h, by rw [h0]; simp⟩
 | (i, 0) :: r, C, fuel + 1, listed, a, w, hl, hB, hC, h => by
  simp only [mixB, Bool.and_eq_true] at hB
  obtain ⟨⟨⟨hk, hr⟩, hf⟩, hB'⟩ := hB
  cases ho : ops[i]? with
  | none => rw [nth_eq, Array.getElem?_toList, ho] at hk; cases hk
  | some o =>
   rw [nth_eq, Array.getElem?_toList, ho] at hk
   obtain ⟨v, hy, hK⟩ := yieldsIn_of_qOp ho h
   exact wpAnyH_take ho hs hf hr (fun _ _ _ h => h) (yieldsIf_of hk hy) hC (wpAnyH_of_segs hs r C fuel _ _ _ (by simpa using hl) hB' hC hK)
 | (i, 1) :: r, C, fuel + 1, listed, a, w, hl, hB, _, h => by
  simp only [mixB, Bool.and_eq_true, beq_iff_eq] at hB
  obtain ⟨hr, hB'⟩ := hB
  refine wpAnyH_all hr (by simp) ?_
  intro j hj
  have : j = i := by simpa using hj
  subst this
  refine wpOp_mono (fun a' w' h' => ?_) (wpOp_False h)
  obtain ⟨C', hsub, hC', hseg⟩ := h'
  exact ⟨hsub _ hC', wpAnyH_class hsub _ _ _ _ (wpAnyH_of_segs hs r C' fuel _ _ _ (by simpa using hl) hB' hC' hseg)⟩
 | (i, k + 2) :: (j, k') :: r, C, fuel + 2, listed, a, w, hl, hB, _, h => by
  simp only [mixB, Bool.and_eq_true, beq_iff_eq, bne_iff_ne] at hB
  obtain ⟨⟨⟨⟨hr, hne⟩, hri⟩, hrj⟩, hB'⟩ := hB
  have last : ∀ (a' : Act) (w' : World), (∃ C' : World → Prop, (∀ w, C' w → C w) ∧ C' w' ∧ wpSegs P ops Q r C' a' w') → C w' ∧ wpAnyH P md ops (Only Q) C fuel ((listed.setIfInBounds i true).setIfInBounds j true) a' w' := by
   rintro a' w' ⟨C', hsub, hC', hseg⟩
   exact ⟨hsub _ hC', wpAnyH_class hsub _ _ _ _ (wpAnyH_of_segs hs r C' fuel _ _ _ (by simpa using hl) hB' hC' hseg)⟩
  refine wpAnyH_all hr (by simp) ?_
  intro x hx
  have hx' : x = i ∨ x = j := by simpa using hx
  rcases hx' with rfl | rfl
  ·refine wpOp_mono (fun a1 w1 h1 => ⟨h1.1, wpAnyH_all hri (by simp) ?_⟩) (wpOp_False h.1)
   intro y hy
   obtain rfl : y = j := by simpa using hy
   exact wpOp_mono last (wpOp_False h1.2)
  ·refine wpOp_mono (fun a1 w1 h1 => ⟨h1.1, wpAnyH_all hrj (by simp) ?_⟩) (wpOp_False h.2)
   intro y hy
   obtain rfl : y = i := by simpa using hy
   rw [Array.setIfInBounds_comm _ _ hne.symm]
   exact wpOp_mono last (wpOp_False h1.2)
 | (_, _ + 2) :: [], _, _, _, _, _, _, _, _, h => h.elim
theorem wp_region_segs {id : Nat} {Q : Exit → Act → World → Prop} {a : Act} {w : World} (C : World → Prop) (ord : List (Nat × Nat)) (hm : P.follows .mixedOrders = true)
  (hs : Region.noSelect ops = true) (hl : Nat.ble ord.length ops.size = true) (hB : mixB .any ops ord (Array.replicate ops.size false) = true) (hC : C w.drew)
  (h : wpSegs P ops (Q .normal) ord C a w.drew) : (Code.region id ops true).wp P Q a w := by
 have h1 : (Code.region id ops true).wp P (Only (Q .normal)) a w :=
  wp_region_any hm (wpAny_of_held _ _ _ _ (wpAnyH_of_segs hs ord _ _ _ _ _ (Nat.le_of_ble_eq_true hl) hB hC h))
 exact Code.wp_mono (fun e a w hq => by cases e <;> first | exact hq | exact hq.elim) h1
theorem seg_nil {Q : Act → World → Prop} {C : World → Prop} {a : Act} {w : World} (h : Q a w) : wpSegs P ops Q [] C a w := h
theorem seg_held {Q : Act → World → Prop} {C : World → Prop} {a : Act} {w : World} {i : Nat} {r : List (Nat × Nat)} (o : Oper) (ho : nth ops.toList i = some o)
  (h : wpQuiet P ops C (fun a' => wpSegs P ops Q r C a' w) [o] a) : wpSegs P ops Q ((i, 0) :: r) C a w := by
 rw [nth_eq, Array.getElem?_toList] at ho
 show qOp P ops C i _ a
 unfold qOp
 simp only [ho]
 exact h
theorem seg_loud {Q : Act → World → Prop} {C : World → Prop} {a : Act} {w : World} {i : Nat} {r : List (Nat × Nat)} (o : Oper) (ho : nth ops.toList i = some o)
  (hw : Region.wanted o (yielded ops a.tmps) = true)
  (h : ∀ K : Act → World → Prop, (∀ a' w', (∃ C' : World → Prop, (∀ w, C' w → C w) ∧ C' w' ∧ wpSegs P ops Q r C' a' w') → K a' w') → o.wp P a w K (fun _ _ _ => False)) :
  wpSegs P ops Q ((i, 1) :: r) C a w := by
 rw [nth_eq, Array.getElem?_toList] at ho
 show wpOp P ops _ i _ a w
 unfold wpOp
 simp only [ho, hw, if_true]
 exact .inl (h _ fun _ _ h1 => h1)
theorem seg_fork {Q : Act → World → Prop} {C : World → Prop} {a : Act} {w : World} {i j k k' : Nat} {r : List (Nat × Nat)} (oi oj : Oper) (R : Act → World → Prop) (hi : nth ops.toList i = some oi) (hj : nth ops.toList j = some oj)
  (hwi : oi.guard = none) (hwj : oj.guard = none)
  (h1 : ∀ K : Act → World → Prop, (∀ a1 w1, (C w1 ∧ ∀ K' : Act → World → Prop, (∀ a' w', R a' w' → K' a' w') → oj.wp P a1 w1 K' (fun _ _ _ => False)) → K a1 w1) → oi.wp P a w K (fun _ _ _ => False))
  (h2 : ∀ K : Act → World → Prop, (∀ a1 w1, (C w1 ∧ ∀ K' : Act → World → Prop, (∀ a' w', R a' w' → K' a' w') → oi.wp P a1 w1 K' (fun _ _ _ => False)) → K a1 w1) → oj.wp P a w K (fun _ _ _ => False))
  (h3 : ∀ a' w', R a' w' → ∃ C' : World → Prop, (∀ w, C' w → C w) ∧ C' w' ∧ wpSegs P ops Q r C' a' w') :
  wpSegs P ops Q ((i, k + 2) :: (j, k') :: r) C a w := by
 rw [nth_eq, Array.getElem?_toList] at hi hj
 have step : ∀ (m : Nat) (o : Oper), ops[m]? = some o → o.guard = none → ∀ (K : Act → World → Prop) (a : Act) (w : World), o.wp P a w K (fun _ _ _ => False) → wpOp P ops (fun _ _ _ => False) m K a w := by
  intro m o ho hg K a w h
  unfold wpOp
  simp only [ho, Region.wanted, hg, if_true]
  exact .inl h
 exact ⟨step i oi hi hwi _ _ _ (h1 _ fun a1 w1 h => ⟨h.1, step j oj hj hwj _ _ _ (h.2 _ h3)⟩), step j oj hj hwj _ _ _ (h2 _ fun a1 w1 h => ⟨h.1, step i oi hi hwi _ _ _ (h.2 _ h3)⟩)⟩
end
def Cls (S : World → Prop) : Type := {w : World // S w}
def Cls.w {S : World → Prop} (u : Cls S) : World := u.1
theorem Cls.is {S : World → Prop} (u : Cls S) : S u.w := u.2
theorem inC {S : World → Prop} {w : World} (h : S w) : ∃ u : Cls S, w = u.w := ⟨⟨w, h⟩, rfl⟩
theorem Cls.ne {S : World → Prop} {w : World} (h : S w) : Nonempty (Cls S) := ⟨⟨w, h⟩⟩
def SB (B : Nat) (w0 w : World) : Prop := Below B w0 w ∧ B ≤ w.heap.size
abbrev SBW (B : Nat) (w0 : World) : Type := Cls (SB B w0)
theorem SB.refl {B : Nat} {w0 : World} (h : B ≤ w0.heap.size) : SB B w0 w0 := ⟨Below.refl _ _, h⟩
theorem SB.start {B : Nat} {w0 : World} (h : B ≤ w0.heap.size) : SB B w0 w0.drew := ⟨(Below.refl _ _).drew, h⟩
theorem SB.step {B : Nat} {w0 w w' : World} (h : SB B w0 w) (h' : Below w.heap.size w w') : SB B w0 w' := ⟨h.1.trans (h'.mono h.2), Nat.le_trans h.2 h'.size⟩
theorem SB.low {B : Nat} {w0 w w' : World} (h : SB B w0 w) (h' : Below B w w') : SB B w0 w' := ⟨h.1.trans h', Nat.le_trans h.2 h'.size⟩
theorem SB.alloc {B : Nat} {w0 w : World} (h : SB B w0 w) (o : Obj) : SB B w0 (w.alloc o) := h.low ((Below.refl _ _).alloc h.2 o)
theorem SB.drew {B : Nat} {w0 w : World} (h : SB B w0 w) : SB B w0 w.drew := ⟨h.1.drew, h.2⟩
theorem SB.sub {B B' : Nat} {w0 w1 w : World} (h : SB B w0 w1) (hB : B ≤ B') (h' : SB B' w1 w) : SB B w0 w := ⟨h.1.trans (h'.1.mono hB), Nat.le_trans hB h'.2⟩
theorem subC {S S' : World → Prop} (h : ∀ w, S' w → S w) : ∀ w, (∃ u : Cls S', w = u.w) → ∃ u : Cls S, w = u.w := by
 rintro w ⟨u, rfl⟩
 exact inC (h _ u.is)
theorem Cls.sb {B : Nat} {w0 : World} (u : SBW B w0) : SB B w0 u.w := u.2
theorem Cls.cell {B : Nat} {w0 : World} (u : SBW B w0) {b o : Nat} {v : Value} (h : w0.cell? ⟨b, o, none⟩ = some v) (hb : b < B) : u.w.cell? ⟨b, o, none⟩ = some v := (u.sb.1.cell (p := ⟨b, o, none⟩) hb).trans h
end Go.Mix
namespace Go.Bas
open Go Go.RowKit Go.Mix
theorem hid {p : Prop} (h : p) : Hid p := h
def Stop (p : Prop) : Prop := p
theorem stop {p : Prop} (h : Stop p) : p := h
theorem Stop.on {p : Prop} (h : p) : Stop p := h
def bv (u : UInt8) : Value := .int .u8 (u.toNat : Int)
def gt (l : List UInt8) (i : Nat) : Int := ((l.getD i 0).toNat : Int)
theorem gt_lo (l : List UInt8) (i : Nat) : 0 ≤ gt l i := by unfold gt; omega
theorem gt_hi (l : List UInt8) (i : Nat) : gt l i < 256 := by unfold gt; have := (l.getD i 0).toNat_lt; omega
theorem gt_of_lt {l : List UInt8} {i : Nat} (h : i < l.length) : gt l i = (l[i].toNat : Int) := by
 unfold gt; rw [List.getD_eq_getElem?_getD, List.getElem?_eq_getElem h]; rfl
theorem gt_drop (l : List UInt8) (k i : Nat) : gt (l.drop k) i = gt l (k + i) := by
 unfold gt; simp [List.getD_eq_getElem?_getD, List.getElem?_drop]
theorem gt_take {l : List UInt8} {k i : Nat} (h : i < k) : gt (l.take k) i = gt l i := by
 unfold gt; simp [List.getD_eq_getElem?_getD, h]
theorem bv_getElem? {l : List UInt8} {j : Nat} (h : j < l.length) : (l.map bv)[j]? = some (.int .u8 (gt l j)) := by
 rw [gt_of_lt h]; simp [h, bv]
theorem bv_one (l : List UInt8) : ∀ u ∈ l.map bv, u.oneCell' = true := by
 intro u hu; obtain ⟨x, _, rfl⟩ := List.mem_map.1 hu; rfl
theorem add_lit0 (b off j : Nat) : (⟨b, off, none⟩ : Addr).add j = ⟨b, off + j, none⟩ := by unfold Addr.add; split <;> simp_all
structure Bs (w : World) (A : Option Addr) (n c : Nat) (l : List UInt8) : Prop where
 len : n = l.length
 cap : n ≤ c
 most : c ≤ 9223372036854775807
 rd : l ≠ [] → ∃ b off, A = some ⟨b, off, none⟩ ∧ b < w.heap.size ∧ ∀ j, j < l.length → w.cell? ⟨b, off + j, none⟩ = some (.int .u8 (gt l j))
def Own (w : World) (base : Nat) (T : TypeId) (A : Option Addr) (n c : Nat) (l : List UInt8) : Prop := n = l.length ∧ w.ownsRow base T 1 (.slice A n c) n (l.map bv)
section
variable {w w' : World} {A : Option Addr} {n c : Nat} {l : List UInt8} {base : Nat} {T : TypeId}
theorem Bs.nil (w : World) (c : Nat) (A : Option Addr) (h : c ≤ 9223372036854775807) : Bs w A 0 c [] := ⟨rfl, Nat.zero_le _, h, fun h => absurd rfl h⟩
theorem Bs.keep (h : Bs w A n c l) (hs : w.heap.size ≤ w'.heap.size) (hk : ∀ p : Addr, p.block < w.heap.size → w'.cell? p = w.cell? p) : Bs w' A n c l :=
 ⟨h.len, h.cap, h.most, fun hl => by
  obtain ⟨b, off, rfl, hb, hc⟩ := h.rd hl
  exact ⟨b, off, rfl, by omega, fun j hj => (hk _ hb).trans (hc j hj)⟩⟩
theorem Bs.step (h : Bs w A n c l) (hb : Below w.heap.size w w') : Bs w' A n c l := h.keep hb.size fun _ hp => hb.cell hp
theorem Bs.alloc (h : Bs w A n c l) (o : Obj) : Bs (w.alloc o) A n c l := h.step ((Below.refl _ _).alloc (Nat.le_refl _) o)
theorem Bs.drew (h : Bs w A n c l) : Bs w.drew A n c l := ⟨h.len, h.cap, h.most, h.rd⟩
theorem Bs.drewN (h : Bs w A n c l) (k : Nat) : Bs (w.drewN k) A n c l := ⟨h.len, h.cap, h.most, h.rd⟩
theorem Bs.at_ (h : Bs w A n c l) (hl : 0 < l.length) : ∃ b off, A = some ⟨b, off, none⟩ ∧ b < w.heap.size ∧ ∀ j, j < l.length → w.cell? ⟨b, off + j, none⟩ = some (.int .u8 (gt l j)) :=
 h.rd (by intro e; subst e; simp at hl)
theorem Bs.cut {b off i m c' : Nat} (h : Bs w (some ⟨b, off, none⟩) n c l) (hi : i + m ≤ l.length) (h1 : m ≤ c') (h2 : c' ≤ 9223372036854775807) : Bs w (some ⟨b, off + i, none⟩) m c' ((l.drop i).take m) := by
 have hlen : ((l.drop i).take m).length = m := by simp; omega
 refine ⟨by omega, by omega, h2, fun hne => ?_⟩
 have hn : 0 < m := by
  rcases Nat.eq_zero_or_pos m with h0 | h0
  ·subst h0; simp at hne
  ·exact h0
 obtain ⟨b', off', e, hb, hc⟩ := h.at_ (by omega)
 injection e with e; injection e with e1 e2; subst e1; subst e2
 refine ⟨b, off + i, rfl, hb, fun j hj => ?_⟩
 rw [hlen] at hj
 rw [Nat.add_assoc, hc _ (by omega), gt_take hj, gt_drop]
theorem Bs.tail {b off i : Nat} (h : Bs w (some ⟨b, off, none⟩) n c l) (hi : i ≤ n) : Bs w (some ⟨b, off + i, none⟩) (n - i) (c - i) (l.drop i) := by
 have h1 := h.len
 have h2 := h.cap
 have h3 := h.most
 have := h.cut (i := i) (m := n - i) (c' := c - i) (by omega) (by omega) (by omega)
 rwa [List.take_of_length_le (by simp; omega)] at this
theorem Bs.tail_none {A' : Option Addr} {i c' : Nat} (h : Bs w A n c l) (hi : c = i) (hc' : c' ≤ 9223372036854775807) : Bs w A' (n - i) c' (l.drop i) := by
 have h1 := h.len
 have h2 := h.cap
 rw [List.drop_eq_nil_of_le (by omega), show n - i = 0 by omega]
 exact Bs.nil _ _ _ hc'
theorem Bs.head {m : Nat} (h : Bs w A n c l) (hm : m ≤ n) : Bs w A m c (l.take m) := by
 have h1 := h.len
 refine ⟨by simp; omega, by have := h.cap; omega, h.most, fun hne => ?_⟩
 have hl : l ≠ [] := by rintro rfl; simp at hne
 obtain ⟨b, off, rfl, hb, hc⟩ := h.rd hl
 refine ⟨b, off, rfl, hb, fun j hj => ?_⟩
 have hj' : j < m := by simp at hj; omega
 rw [hc j (by simp at hj; omega), gt_take hj']
theorem Own.len (h : Own w base T A n c l) : n = l.length := h.1
theorem Own.bs (h : Own w base T A n c l) : Bs w A n c l := by
 obtain ⟨rfl, h⟩ := h
 rcases h.2 with ⟨e, h0⟩ | ⟨g, cap, cur, e, hb, hg, hn, hm, hs, ht⟩
 ·have : l = [] := List.eq_nil_of_length_eq_zero h0
  subst this
  injection e with e1 e2 e3
  subst e3
  exact Bs.nil _ _ _ (by omega)
 ·injection e with e1 e2 e3
  subst e1; subst e3
  refine ⟨rfl, hn, by simpa [maxLen] using hm, fun hl => ⟨g, 0, rfl, (Array.getElem?_eq_some_iff.1 hg).1, fun j hj => ?_⟩⟩
  have := World.ownsRow.cells h (g := g) rfl j _ (bv_getElem? hj)
  rwa [add_lit0] at this
theorem Own.mono {base' : Nat} (h : Own w base T A n c l) (hb : base' ≤ base) : Own w base' T A n c l := by
 refine ⟨h.1, h.2.1, h.2.2.imp id ?_⟩
 rintro ⟨g, cap, cur, e, hg, r⟩
 exact ⟨g, cap, cur, e, by omega, r⟩
theorem grown_of_below (hb : Below w.heap.size w w') (row : Option Nat) : w.grownBy w' row := ⟨hb.os, hb.tape, hb.output, hb.size, fun k hk _ => hb.block k hk⟩
theorem Own.step (h : Own w base T A n c l) (hb : Below w.heap.size w w') : Own w' base T A n c l :=
 ⟨h.1, World.ownsRow.kept h.2 (grown_of_below hb none) (by cases hv : Value.ownBlock (.slice A n c) <;> simp)⟩
theorem Own.alloc (h : Own w base T A n c l) (o : Obj) : Own (w.alloc o) base T A n c l := h.step ((Below.refl _ _).alloc (Nat.le_refl _) o)
theorem Own.drew (h : Own w base T A n c l) : Own w.drew base T A n c l := h
theorem Own.drewN (h : Own w base T A n c l) (k : Nat) : Own (w.drewN k) base T A n c l := h
theorem Own.nil (w : World) (base : Nat) (T : TypeId) : Own w base T none 0 0 [] := ⟨rfl, World.ownsRow_nil w base T 1⟩
theorem Own.made (w : World) (T : TypeId) (l : List UInt8) (cs : Array Value) (hcs : cs.toList = l.map bv) (hl : l.length ≤ 9223372036854775807) (hb : base ≤ w.heap.size) :
  Own (w.alloc (.cells cs T)) base T (some ⟨w.heap.size, 0, none⟩) l.length l.length l := by
 have hs : cs.size = l.length := by rw [← Array.length_toList, hcs, List.length_map]
 have := World.ownsRow_lit (e := T) (size := 1) w cs l.length hb (by simpa [maxLen] using hl) (by omega)
 rw [hcs] at this
 exact ⟨rfl, this⟩
theorem Own.made_at {g m : Nat} (w : World) (T : TypeId) (l : List UInt8) (cs : Array Value) (hg : g = w.heap.size) (hn : m = l.length) (hcs : cs.toList = l.map bv) (hl : l.length ≤ 9223372036854775807) (hb : base ≤ w.heap.size) :
  Own (w.alloc (.cells cs T)) base T (some ⟨g, 0, none⟩) m m l := by
 subst hg; subst hn; exact Own.made w T l cs hcs hl hb
theorem Own.at_ (h : Own w base T A n c l) (hn : 0 < n) : ∃ g, A = some ⟨g, 0, none⟩ ∧ base ≤ g ∧ g < w.heap.size := by
 obtain ⟨g, cap, hv, h1, h2⟩ := World.ownsRow.form h.2 hn
 injection hv with e1
 exact ⟨g, e1, h1, h2⟩
theorem Own.cell {g j : Nat} (h : Own w base T (some ⟨g, 0, none⟩) n c l) (hj : j < n) : w.cell? ⟨g, j, none⟩ = some (.int .u8 (gt l j)) := by
 rw [World.ownsRow.cellAt h.2 j (by omega)]
 exact bv_getElem? (by rw [← h.1]; exact hj)
theorem Own.free {g j : Nat} (h : Own w base T (some ⟨g, 0, none⟩) n c l) : w.frozen? ⟨g, j, none⟩ = false := World.ownsRow.frozenAt h.2 j
theorem Own.store {g j : Nat} (h : Own w base T (some ⟨g, 0, none⟩) n c l) (u : UInt8) :
  Own (w.setCell ⟨g, j, none⟩ (bv u)) base T (some ⟨g, 0, none⟩) n c (l.set j u) := by
 obtain ⟨h1, h2⟩ := World.ownsRow.stored h.2 j (bv u)
 refine ⟨by rw [List.length_set]; exact h.1, ?_⟩
 rw [← List.map_set] at h1
 exact h1
theorem Own.far {p : Addr} (h : Own w base T A n c l) (hg : p.block < base) (u : Value) : Own (w.setCell p u) base T A n c l := ⟨h.1, ownsRow_setCell_below h.2 hg u⟩
theorem Own.block (h : Own w base T A n c l) : ∀ k, (Value.slice A n c).ownBlock = some k → base ≤ k ∧ k < w.heap.size := World.ownsRow.lt h.2
theorem below_grown {B : Nat} (hg : w.grownBy w' ((Value.slice A n c).ownBlock)) (h : Own w base T A n c l) (hB : B ≤ base) (hs : B ≤ w.heap.size) : Below B w w' :=
 (Below.refl B w).grown hg hs fun k hk => Nat.le_trans hB (h.block k hk).1
theorem Bs.grown {A2 : Option Addr} {n2 c2 : Nat} {l2 : List UInt8} {row : Option Nat} (h : Bs w A2 n2 c2 l2) (hg : w.grownBy w' row) (hne : ∀ b off, A2 = some ⟨b, off, none⟩ → some b ≠ row) : Bs w' A2 n2 c2 l2 :=
 ⟨h.len, h.cap, h.most, fun hl => by
  obtain ⟨b, off, rfl, hb, hc⟩ := h.rd hl
  exact ⟨b, off, rfl, Nat.lt_of_lt_of_le hb hg.size, fun j hj => hg.cell (hc j hj) (hne b off rfl)⟩⟩
theorem Bs.below {B : Nat} {w0 : World} (h : Bs w0 A n c l) (hB : w0.heap.size ≤ B) (hb0 : Below B w0 w) : Bs w A n c l :=
 h.keep hb0.size fun _ hp => hb0.cell (by omega)
theorem below_next {w0 : World} (h : Below w0.heap.size w0 w) (h' : Below w.heap.size w w') : Below w0.heap.size w0 w' := h.trans (h'.mono h.size)
end
theorem below_quiet {B : Nat} {w w' : World} (h : ∃ k, w' = w.drewN k) : Below B w w' := by obtain ⟨k, rfl⟩ := h; exact ⟨rfl, rfl, rfl, Nat.le_refl _, fun _ _ => rfl⟩
theorem made_bs {g n : Nat} (w : World) (T : TypeId) (l : List UInt8) (cs : Array Value) (hg : g = w.heap.size) (hn : n = l.length) (hcs : cs.toList = l.map bv) (hl : l.length ≤ 9223372036854775807) :
  Bs (w.alloc (.cells cs T)) (some ⟨g, 0, none⟩) n n l := (Own.made_at (base := 0) w T l cs hg hn hcs hl (by omega)).bs
structure Bss (w : World) (A : Option Addr) (n c : Nat) (L : List (List UInt8)) : Prop where
 len : n = L.length
 cap : n ≤ c
 most : c ≤ 9223372036854775807
 rd : L ≠ [] → ∃ b off, A = some ⟨b, off, none⟩ ∧ b < w.heap.size ∧ ∀ j (hj : j < L.length), ∃ A' n' c', w.cell? ⟨b, off + j, none⟩ = some (.slice A' n' c') ∧ Bs w A' n' c' L[j]
def sub (A : Option Addr) (c lo : Nat) : Option Addr := if c = lo then A else A.map (·.add lo)
theorem Bs.sub {w : World} {A : Option Addr} {n c i j c' : Nat} {l : List UInt8} (h : Bs w A n c l) (hij : i ≤ j) (hj : j ≤ n) (h1 : j - i ≤ c') (h2 : c' ≤ 9223372036854775807) : Bs w (sub A c i) (j - i) c' ((l.drop i).take (j - i)) := by
 have e1 := h.len
 have e2 := h.cap
 have e3 := h.most
 have hlen : ((l.drop i).take (j - i)).length = j - i := by simp; omega
 refine ⟨hlen.symm, h1, h2, fun hne => ?_⟩
 have hn : 0 < j - i := by
  rcases Nat.eq_zero_or_pos (j - i) with h0 | h0
  ·rw [h0] at hne; simp at hne
  ·exact h0
 obtain ⟨b, off, rfl, hb, hc⟩ := h.at_ (by omega)
 refine ⟨b, off + i, by unfold Bas.sub; rw [if_neg (by omega)]; simp [add_lit0], hb, fun m hm => ?_⟩
 rw [hlen] at hm
 rw [Nat.add_assoc, hc _ (by omega), gt_take hm, gt_drop]
section
variable {P : Program}
end
theorem gt_cons_succ (x : UInt8) (l : List UInt8) (i : Nat) : gt (x :: l) (i + 1) = gt l i := rfl
def sb (l : List UInt8) : ByteArray := ⟨l.toArray⟩
abbrev str (l : List UInt8) : Value := .string (sb l)
section
variable {P : Program}
theorem run_string (src e dst : TypeId) (hs : P.underlying src = some (.slice e)) (he : P.underlying e = some (.int .u8)) (hd : P.underlying dst = some .string)
  {w : World} {A : Option Addr} {n c : Nat} {l : List UInt8} (h : Bs w A n c l) : (convert src dst (.slice A n c)).run P w = .ok (str l) w := by
 obtain rfl := h.len
 rcases Nat.eq_zero_or_pos l.length with h0 | h0
 ·have : l = [] := List.eq_nil_of_length_eq_zero h0
  subst this
  rw [run_convert_bytes_string w src dst e _ _ c hs he hd]
  cases A <;> simp [Conv.bytesToString, sb, ByteArray.empty, ByteArray.emptyWithCapacity, loadCells, loadCellsFrom] <;> rfl
 ·obtain ⟨b, off, rfl, hb, hc⟩ := h.at_ h0
  have := run_convert_bytes_arg (P := P) w src e hs he b off l.length c (l.map fun u => (u.toNat : Int)) (by simp) (fun i hi => by
   rw [hc i hi, gt_of_lt hi]; simp [hi]) dst hd
  rw [this]
  simp [sb, strOfNums, List.map_map, Function.comp_def]
def av (a : List UInt8) : Value := .agg (a.map bv).toArray
theorem run_append_b (w : World) (t ty e : TypeId) (i : TypeInfo) (ht : P.underlying t = some (.slice e)) (hi : P.info? e = some i) (hz : i.zero = some (.int .u8 0)) (hsize : i.size = 1) (hby : i.bytes = 1)
  {base : Nat} {A A2 : Option Addr} {n c m c2 : Nat} {l l2 : List UInt8} (ho : Own w base e A n c l) (h2 : Bs w A2 m c2 l2) (hsz : n + m ≤ 140737488355328) (hb : base ≤ w.heap.size) :
  ∃ A' n' c' w', (Builtin.append_ #[t, t] ty #[.slice A n c, .slice A2 m c2]).run P w = .ok (.slice A' n' c') w' ∧ Own w' base e A' n' c' (l ++ l2) ∧
   w.grownBy w' (Value.slice A n c).ownBlock := by
 obtain ⟨rfl, ho⟩ := ho
 obtain rfl := h2.len
 rcases Nat.eq_zero_or_pos l2.length with h0 | h0
 ·have : l2 = [] := List.eq_nil_of_length_eq_zero h0
  subst this
  refine ⟨A, l.length, c, w, ?_, ⟨by simp, by simpa using ho⟩, ⟨rfl, rfl, rfl, Nat.le_refl _, fun _ _ _ => rfl⟩⟩
  rcases ho.2 with ⟨e1, e2⟩ | ⟨g, cap, cur, e1, _, hg, hnc, _⟩
  ·have : l = [] := List.eq_nil_of_length_eq_zero e2
   subst this
   injection e1 with e1 _ e3
   subst e1; subst e3
   cases A2 <;> simp [Builtin.append_, run_underlying ht, sizeOf, typeInfo, hi, Builtin.lenOf, Builtin.firstCells, loadCells, loadCellsFrom]
  ·injection e1 with e1 _ e3
   subst e1; subst e3
   cases A2 <;> simp [Builtin.append_, run_underlying ht, sizeOf, typeInfo, hi, Builtin.lenOf, Builtin.firstCells, loadCells, loadCellsFrom, hnc, storeCells]
 ·obtain ⟨b, off, rfl, hb2, hc⟩ := h2.at_ h0
  obtain ⟨v', w', hrun, h3, h4, _, _⟩ := run_append_own_at (P := P) w base t ty e i (.int .u8 0) 1 1 ht hi hz hsize hby rfl (by omega) _ _ _ ho ⟨b, off, none⟩ l2.length c2 (l2.map bv) (by simp)
   (fun j u hj => by
    have hlt : j < l2.length := by
     rcases Nat.lt_or_ge j l2.length with h | h
     ·exact h
     ·rw [List.getElem?_eq_none (by simpa using h)] at hj; cases hj
    rw [bv_getElem? hlt] at hj; cases hj
    rw [add_lit0]; exact hc j hlt) (bv_one l2) (by unfold maxLen; omega) (by omega) hb
  have hlen : (l ++ l2).length = l.length + l2.length := List.length_append
  have h3' := h3
  obtain ⟨_, hform⟩ := h3
  rcases hform with ⟨e1, e2⟩ | ⟨g, cap, cur, e1, r⟩
  ·omega
  ·subst e1
   refine ⟨_, _, _, _, hrun, ⟨hlen.symm, ?_⟩, h4⟩
   rw [List.map_append]
   exact h3'
theorem exec_append {o : Oper} {a : Act} {w : World} (s x : Operand) (t : TypeId) (ho : o.op = .call { callee := .builtin .append, args := #[s, x], argTypes := #[t, t] }) {v1 v2 v : Value} {w' : World}
  (h1 : a.eval s = v1) (h2 : a.eval x = v2) (hr : (Builtin.append_ #[t, t] o.type #[v1, v2]).run P w = .ok v w') : (execOp a.eval o).run P w = .ok (.value v) w' := by
 unfold execOp
 simp only [ho, resolve, invoke, builtin, Sem.run_bind, Sem.run_pure, Result.andThen_ok, List.map_toArray, List.map_cons, List.map_nil, h1, h2, hr]
theorem wp_run {o : Oper} {a : Act} {w : World} {K : Act → World → Prop} {Q : Exit → Act → World → Prop} {v : Value} {w' : World} (hr : (execOp a.eval o).run P w = .ok (.value v) w') (h : K (a.put o.dst v) w') : o.wp P a w K Q := by
 unfold Oper.wp; rw [hr]; exact h
theorem wpList_run {o : Oper} {a : Act} {w : World} {ops : Array Oper} {rest : List Oper} {Q : Exit → Act → World → Prop} {v : Value} {w' : World} (hg : o.guard = none) (hr : (execOp a.eval o).run P w = .ok (.value v) w')
  (h : wpList P ops Q rest (a.put o.dst v) w') : wpList P ops Q (o :: rest) a w :=
 wpList_plain hg fun _ hK => wp_run hr (hK _ _ h)
theorem wpList_app {o : Oper} {a : Act} {w : World} {ops : Array Oper} {rest : List Oper} {Q : Exit → Act → World → Prop} (hg : o.guard = none) (s x : Operand) (t : TypeId)
  (ho : o.op = .call { callee := .builtin .append, args := #[s, x], argTypes := #[t, t] }) (e : TypeId) (i : TypeInfo) (ht : P.underlying t = some (.slice e)) (hi : P.info? e = some i) (hz : i.zero = some (.int .u8 0)) (hsize : i.size = 1) (hby : i.bytes = 1)
  (base : Nat) {A A2 : Option Addr} {c c2 n m : Nat} (l l2 : List UInt8) (h1 : a.eval s = .slice A n c) (h2 : a.eval x = .slice A2 m c2) (hown : Own w base e A n c l) (hbs : Bs w A2 m c2 l2)
  (hsz : n + m ≤ 140737488355328) (hb : base ≤ w.heap.size)
  (h : ∀ A' n' c' w', Own w' base e A' n' c' (l ++ l2) → w.grownBy w' (Value.slice A n c).ownBlock → wpList P ops Q rest (a.put o.dst (.slice A' n' c')) w') : wpList P ops Q (o :: rest) a w := by
 obtain ⟨A', n', c', w', hrun, h3, h4⟩ := run_append_b (P := P) w t o.type e i ht hi hz hsize hby hown hbs hsz hb
 exact wpList_run hg (exec_append s x t ho h1 h2 hrun) (h A' n' c' w' h3 h4)
theorem wp_app {o : Oper} {a : Act} {w : World} {K : Act → World → Prop} {Q : Exit → Act → World → Prop} (s x : Operand) (t : TypeId)
  (ho : o.op = .call { callee := .builtin .append, args := #[s, x], argTypes := #[t, t] }) (e : TypeId) (i : TypeInfo) (ht : P.underlying t = some (.slice e)) (hi : P.info? e = some i) (hz : i.zero = some (.int .u8 0)) (hsize : i.size = 1) (hby : i.bytes = 1)
  (base : Nat) {A A2 : Option Addr} {c c2 n m : Nat} (l l2 : List UInt8) (h1 : a.eval s = .slice A n c) (h2 : a.eval x = .slice A2 m c2) (hown : Own w base e A n c l) (hbs : Bs w A2 m c2 l2)
  (hsz : n + m ≤ 140737488355328) (hb : base ≤ w.heap.size)
  (h : ∀ A' n' c' w', Own w' base e A' n' c' (l ++ l2) → w.grownBy w' (Value.slice A n c).ownBlock → K (a.put o.dst (.slice A' n' c')) w') : o.wp P a w K Q := by
 obtain ⟨A', n', c', w', hrun, h3, h4⟩ := run_append_b (P := P) w t o.type e i ht hi hz hsize hby hown hbs hsz hb
 exact wp_run (exec_append s x t ho h1 h2 hrun) (h A' n' c' w' h3 h4)
end
section
variable {P : Program}
theorem splice_take {α : Type} (cur l2 : List α) (off n : Nat) (h : off + l2.length ≤ n) (hn : n ≤ cur.length) :
  (cur.take off ++ (l2 ++ cur.drop (off + l2.length))).take n = (cur.take n).take off ++ (l2 ++ (cur.take n).drop (off + l2.length)) := by
 have h1 : (cur.take off).length = off := by simp; omega
 rw [List.take_append, List.take_append, h1, List.take_take, List.take_take, List.drop_take, Nat.min_eq_right (by omega), Nat.min_eq_left (by omega), List.take_of_length_le (i := n - off) (by omega), Nat.sub_sub]
end
section
variable {P : Program}
end
theorem and_mask_i64 (n : Int) (k : Nat) (hk : k ≤ 62) : bits .and .i64 n ((2 ^ k - 1 : Nat) : Int) = n % ((2 ^ k : Nat) : Int) := by
 have h1 : (BitVec.ofInt 64 n).toNat = (n % 18446744073709551616).toNat := by rw [BitVec.toNat_ofInt]; rfl
 have hp : 2 ^ k ≤ 2 ^ 62 := Nat.pow_le_pow_right (by omega) hk
 have hp0 : 0 < 2 ^ k := Nat.two_pow_pos k
 have h2 : (BitVec.ofInt 64 ((2 ^ k - 1 : Nat) : Int)).toNat = 2 ^ k - 1 := by
  rw [BitVec.ofInt_natCast, BitVec.toNat_ofNat]; exact Nat.mod_eq_of_lt (by omega)
 show IntKind.i64.wrap ((BitVec.ofInt 64 n &&& BitVec.ofInt 64 ((2 ^ k - 1 : Nat) : Int)).toNat : Int) = _
 rw [BitVec.toNat_and, h1, h2, Nat.and_two_pow_sub_one_eq_mod, IntKind.wrap_i64]
 have h3 : (n % 18446744073709551616).toNat % 2 ^ k = (n % ((2 ^ k : Nat) : Int)).toNat := by
  have hd : ((2 ^ k : Nat) : Int) ∣ 18446744073709551616 := by
   refine ⟨((2 ^ (64 - k) : Nat) : Int), ?_⟩
   rw [← Int.natCast_mul, ← Nat.pow_add, show k + (64 - k) = 64 by omega]; rfl
  have h4 : ((n % 18446744073709551616).toNat : Int) = n % 18446744073709551616 := Int.toNat_of_nonneg (Int.emod_nonneg _ (by omega))
  have h5 : (((n % 18446744073709551616).toNat % 2 ^ k : Nat) : Int) = n % ((2 ^ k : Nat) : Int) := by
   rw [Int.natCast_emod, h4, Int.emod_emod_of_dvd _ hd]
  omega
 have h6 : 0 ≤ n % ((2 ^ k : Nat) : Int) := Int.emod_nonneg _ (by omega)
 have h7 : n % ((2 ^ k : Nat) : Int) < ((2 ^ k : Nat) : Int) := Int.emod_lt_of_pos _ (by omega)
 rw [h3, Int.toNat_of_nonneg h6]
 have h8 : ((2 ^ k : Nat) : Int) ≤ 4611686018427387904 := by omega
 generalize ((2 ^ k : Nat) : Int) = m at *
 generalize n % m = q at *
 omega
theorem and_65535 (n : Int) : bits .and .i64 n 65535 = n % 65536 := and_mask_i64 n 16 (by omega)
theorem or_i64 (x y : Int) (k : Nat) (hk : k ≤ 62) (h1 : 0 ≤ x) (h2 : ((2 ^ k : Nat) : Int) ∣ x) (h5 : x < 9223372036854775808) (h3 : 0 ≤ y) (h4 : y < ((2 ^ k : Nat) : Int)) : bits .or .i64 x y = x + y := by
 obtain ⟨a, rfl⟩ := Int.eq_ofNat_of_zero_le h1
 obtain ⟨b, rfl⟩ := Int.eq_ofNat_of_zero_le h3
 have hp : 2 ^ k ≤ 2 ^ 62 := Nat.pow_le_pow_right (by omega) hk
 have ha : (BitVec.ofInt 64 (a : Int)).toNat = a := by
  rw [BitVec.ofInt_natCast, BitVec.toNat_ofNat]; exact Nat.mod_eq_of_lt (by omega)
 have hb : (BitVec.ofInt 64 (b : Int)).toNat = b := by
  rw [BitVec.ofInt_natCast, BitVec.toNat_ofNat]; exact Nat.mod_eq_of_lt (by omega)
 obtain ⟨q, rfl⟩ : 2 ^ k ∣ a := Int.natCast_dvd_natCast.1 h2
 have hor : 2 ^ k * q ||| b = 2 ^ k * q + b := (Nat.two_pow_add_eq_or_of_lt (by omega) q).symm
 have hlt : 2 ^ k * q + b < 9223372036854775808 := by
  have : 2 ^ k * q ||| b < 2 ^ 63 := Nat.or_lt_two_pow (by omega) (by omega)
  omega
 show IntKind.i64.wrap ((BitVec.ofInt 64 ((2 ^ k * q : Nat) : Int) ||| BitVec.ofInt 64 (b : Int)).toNat : Int) = _
 rw [BitVec.toNat_or, ha, hb, hor, IntKind.wrap_i64]
 omega
theorem or256 (x y : Int) (h1 : 0 ≤ x) (h2 : x < 36028797018963968) (h3 : 0 ≤ y) (h4 : y < 256) : bits .or .i64 (x * 256) y = x * 256 + y :=
 or_i64 _ _ 8 (by omega) (by omega) ⟨x, by omega⟩ (by omega) h3 h4
theorem or256_u32 (x y : Int) (h1 : 0 ≤ x) (h2 : x < 16777216) (h3 : 0 ≤ y) (h4 : y < 256) : bits .or .u32 (x * 256) y = x * 256 + y := by
 obtain ⟨a, rfl⟩ := Int.eq_ofNat_of_zero_le h1
 obtain ⟨b, rfl⟩ := Int.eq_ofNat_of_zero_le h3
 have h := u32_or_nat (2 ^ 8 * a) b (by omega) (by omega)
 rw [(Nat.two_pow_add_eq_or_of_lt (i := 8) (by omega) a).symm] at h
 rw [show (a : Int) * 256 = ((2 ^ 8 * a : Nat) : Int) by omega, h]
 omega
end Go.Bas
namespace Go.Bas
open Go Go.RowKit Go.Mix
def ints (ks : List IntKind) (ns : List Int) : List Value := List.zipWith Value.int ks ns
theorem ints_len {ks : List IntKind} {ns : List Int} (h : ns.length = ks.length) : (ints ks ns).length = ks.length := by simp [ints, h]
theorem ints_app {k1 k2 : List IntKind} {n1 n2 : List Int} (h : n1.length = k1.length) : ints (k1 ++ k2) (n1 ++ n2) = ints k1 n1 ++ ints k2 n2 := by
 unfold ints; exact List.zipWith_append h.symm
theorem ints_split {k1 k2 : List IntKind} {ns : List Int} (h : ns.length = (k1 ++ k2).length) : ∃ n1 n2, ns = n1 ++ n2 ∧ n1.length = k1.length ∧ n2.length = k2.length := by
 refine ⟨ns.take k1.length, ns.drop k1.length, by simp, ?_, ?_⟩ <;> simp at h ⊢ <;> omega
def flatFields (P : Program) (g : TypeId → Option (List IntKind)) : Nat → List Field → Option (List IntKind)
 | _, [] => some []
 | off, f :: fs => match g f.type with
  | some ks => if f.name ≠ "_" ∧ f.offset = off ∧ P.cellsOf f.type = ks.length then (flatFields P g (off + ks.length) fs).map (ks ++ ·) else none
  | none => none
def flat (P : Program) : Nat → TypeId → Option (List IntKind)
 | 0, _ => none
 | d + 1, t => match P.underlying t with
  | some (.int k) => some [k]
  | some (.struct fs) => if P.stoodInHeld t then none else flatFields P (flat P d) 0 fs.toList
  | some (.array n e) => match flat P d e with
   | some ks => if P.cellsOf e = ks.length then some (List.replicate n ks).flatten else none
   | none => none
  | _ => none
def pack (P : Program) (t : TypeId) (cs : List Value) : Value :=
 match P.underlying t with
 | some (.struct _) | some (.array _ _) => .agg cs.toArray
 | _ => cs.headD undef
section
variable {P : Program}
def EqF (P : Program) (D : Nat) (t : TypeId) (ks : List IntKind) : Prop :=
 ∀ (ns ms : List Int) (w : World), ns.length = ks.length → ms.length = ks.length → (Op.equalIn D t (pack P t (ints ks ns)) (pack P t (ints ks ms))).run P w = .ok (ns == ms) w
theorem part_flat {d : Nat} {e : TypeId} {ks : List IntKind} (h : flat P d e = some ks) (hc : P.cellsOf e = ks.length) {xs : List Value} {off : Nat} {ns : List Int} (hn : ns.length = ks.length)
  (hx : (xs.drop off).take ks.length = ints ks ns) (w : World) : (part e xs.toArray off).run P w = .ok (pack P e (ints ks ns)) w := by
 cases d with
 | zero => simp [flat] at h
 | succ d =>
  have agg : (∃ n e', P.underlying e = some (.array n e')) ∨ (∃ fs, P.underlying e = some (.struct fs)) → (part e xs.toArray off).run P w = .ok (pack P e (ints ks ns)) w := by
   intro hk
   rw [← hc] at hx
   rcases hk with ⟨n, e', hu⟩ | ⟨fs, hu⟩ <;> obtain ⟨i, hi⟩ := info_of_underlying hu <;> simp [part, isAgg, run_underlying hu, run_sizeOf w hi, pack, hu, hx]
  cases hu : P.underlying e with
  | none => simp [flat, hu] at h
  | some kd =>
   cases kd <;> first
    | (simp [flat, hu] at h; done)
    | exact agg (.inl ⟨_, _, hu⟩)
    | exact agg (.inr ⟨_, hu⟩)
    | skip
   simp [flat, hu] at h
   subst h
   match ns, hn with
   | [n], _ =>
    rename_i k0 _
    have h0 : xs[off]? = some (.int k0 n) := by
     have : ((xs.drop off).take 1)[0]? = some (.int k0 n) := by rw [show (1 : Nat) = [k0].length from rfl, hx]; rfl
     simpa using this
    simp [part, isAgg, run_underlying hu, pack, hu, h0, ints]
theorem beq_app {a b c d : List Int} (h : a.length = c.length) : (a ++ b == c ++ d) = (a == c && b == d) := by
 rw [Bool.eq_iff_iff]
 simp only [beq_iff_eq, Bool.and_eq_true]
 constructor
 ·intro e; exact List.append_inj e h
 ·rintro ⟨rfl, rfl⟩; rfl
theorem eqFields_flat {d D : Nat} (hg : ∀ t ks, flat P d t = some ks → EqF P D t ks) : ∀ (fs : List Field) (off : Nat) (ks : List IntKind) (ns ms : List Int) (xs ys : List Value) (w : World), flatFields P (flat P d) off fs = some ks →
  ns.length = ks.length → ms.length = ks.length → xs.drop off = ints ks ns → ys.drop off = ints ks ms → (Op.eqFields D xs.toArray ys.toArray fs).run P w = .ok (ns == ms) w
 | [], off, ks, ns, ms, xs, ys, w, h, hn, hm, _, _ => by
  simp [flatFields] at h
  subst h
  simp at hn hm
  subst hn; subst hm
  simp [Op.eqFields]
 | f :: fs, off, ks, ns, ms, xs, ys, w, h, hn, hm, hx, hy => by
  simp only [flatFields] at h
  cases hk : flat P d f.type with
  | none => simp [hk] at h
  | some k1 =>
   simp only [hk] at h
   split at h
   ·rename_i hc
    obtain ⟨c1, c2, c3⟩ := hc
    cases hr : flatFields P (flat P d) (off + k1.length) fs with
    | none => simp [hr] at h
    | some k2 =>
     simp [hr] at h
     subst h
     obtain ⟨n1, n2, rfl, l1, l2⟩ := ints_split hn
     obtain ⟨m1, m2, rfl, l3, l4⟩ := ints_split hm
     rw [ints_app l1] at hx
     rw [ints_app l3] at hy
     have hx1 : (xs.drop off).take k1.length = ints k1 n1 := by rw [hx, List.take_append_of_le_length (by rw [ints_len l1]; omega), List.take_of_length_le (by rw [ints_len l1]; omega)]
     have hy1 : (ys.drop off).take k1.length = ints k1 m1 := by rw [hy, List.take_append_of_le_length (by rw [ints_len l3]; omega), List.take_of_length_le (by rw [ints_len l3]; omega)]
     have hx2 : xs.drop (off + k1.length) = ints k2 n2 := by rw [← List.drop_drop, hx, ← ints_len l1, List.drop_left]
     have hy2 : ys.drop (off + k1.length) = ints k2 m2 := by rw [← List.drop_drop, hy, ← ints_len l3, List.drop_left]
     have ih := eqFields_flat hg fs _ k2 n2 m2 xs ys w hr l2 l4 hx2 hy2
     have p1 := part_flat hk c3 l1 hx1 w
     have p2 := part_flat hk c3 l3 hy1 w
     rw [← c2] at p1 p2
     have e1 := hg _ _ hk n1 m1 w l1 l3
     simp only [Op.eqFields, c1, ne_eq, not_false_eq_true, if_true, Sem.run_bind, p1, p2, e1, Result.andThen_ok, beq_app (l1.trans l3.symm)]
     cases n1 == m1
     ·simp
     ·simp [ih]
   ·cases h
theorem eqItems_flat {d D : Nat} {e : TypeId} {k1 : List IntKind} (hk : flat P d e = some k1) (hc : P.cellsOf e = k1.length) (hg : EqF P D e k1) (xs ys : List Value) (w : World) : ∀ (m i : Nat) (ns ms : List Int),
  ns.length = (List.replicate m k1).flatten.length → ms.length = (List.replicate m k1).flatten.length → xs.drop (i * k1.length) = ints (List.replicate m k1).flatten ns → ys.drop (i * k1.length) = ints (List.replicate m k1).flatten ms →
  (Op.eqItems D e (P.cellsOf e) xs.toArray ys.toArray (List.range' i m)).run P w = .ok (ns == ms) w
 | 0, i, ns, ms, hn, hm, _, _ => by
  simp at hn hm
  subst hn; subst hm
  simp [Op.eqItems]
 | m + 1, i, ns, ms, hn, hm, hx, hy => by
  rw [List.replicate_succ, List.flatten_cons] at hn hm hx hy
  obtain ⟨n1, n2, rfl, l1, l2⟩ := ints_split hn
  obtain ⟨m1, m2, rfl, l3, l4⟩ := ints_split hm
  rw [ints_app l1] at hx
  rw [ints_app l3] at hy
  have hx1 : (xs.drop (i * k1.length)).take k1.length = ints k1 n1 := by rw [hx, List.take_append_of_le_length (by rw [ints_len l1]; omega), List.take_of_length_le (by rw [ints_len l1]; omega)]
  have hy1 : (ys.drop (i * k1.length)).take k1.length = ints k1 m1 := by rw [hy, List.take_append_of_le_length (by rw [ints_len l3]; omega), List.take_of_length_le (by rw [ints_len l3]; omega)]
  have hx2 : xs.drop ((i + 1) * k1.length) = ints (List.replicate m k1).flatten n2 := by rw [Nat.succ_mul, ← List.drop_drop, hx, ← ints_len l1, List.drop_left]
  have hy2 : ys.drop ((i + 1) * k1.length) = ints (List.replicate m k1).flatten m2 := by rw [Nat.succ_mul, ← List.drop_drop, hy, ← ints_len l3, List.drop_left]
  have ih := eqItems_flat hk hc hg xs ys w m (i + 1) n2 m2 l2 l4 hx2 hy2
  have p1 := part_flat hk hc l1 hx1 w
  have p2 := part_flat hk hc l3 hy1 w
  have e1 := hg n1 m1 w l1 l3
  rw [List.range'_succ]
  rw [← hc] at p1 p2
  simp only [Op.eqItems, Sem.run_bind, p1, p2, e1, Result.andThen_ok, beq_app (l1.trans l3.symm)]
  cases n1 == m1
  ·simp
  ·simp [ih]
theorem eq_flat : ∀ (d : Nat) (t : TypeId) (ks : List IntKind), flat P d t = some ks → ∀ D, d ≤ D → EqF P D t ks
 | 0, _, _, h, _, _ => by simp [flat] at h
 | d + 1, t, ks, h, 0, hD => by omega
 | d + 1, t, ks, h, D + 1, hD => by
  intro ns ms w hn hm
  have ih : ∀ t ks, flat P d t = some ks → EqF P D t ks := fun t ks h => eq_flat d t ks h D (by omega)
  cases hu : P.underlying t with
  | none => simp [flat, hu] at h
  | some kd =>
   cases kd <;> (try (simp [flat, hu] at h; done))
   case int k =>
    simp [flat, hu] at h
    subst h
    match ns, ms, hn, hm with
    | [n], [m], _, _ =>
     simp only [pack, hu, ints, List.zipWith_cons_cons, List.headD_cons]
     rw [run_equalIn_int w D t k k n m hu]
     simp
   case struct fs =>
    simp only [flat, hu] at h
    split at h
    ·cases h
    ·rename_i hp
     have hfo : P.fieldsOf t = fs := by simp [Program.fieldsOf, hu]
     simp only [pack, hu]
     rw [run_equalIn_struct w D t _ _ (by rw [hfo]; exact hu) (by simpa using hp), hfo]
     exact eqFields_flat ih fs.toList 0 ks ns ms _ _ w h hn hm (by simp) (by simp)
   case array n e =>
    simp only [flat, hu] at h
    cases hk : flat P d e with
    | none => simp [hk] at h
    | some k1 =>
     simp only [hk] at h
     split at h
     ·rename_i hc
      injection h with h
      subst h
      have hi : ∃ i, P.info? e = some i := by
       cases hue : P.underlying e with
       | none => cases d <;> simp [flat, hue] at hk
       | some _ => exact info_of_underlying hue
      obtain ⟨i, hi⟩ := hi
      simp only [pack, hu]
      rw [run_equalIn_array w D _ _ hu hi, List.range_eq_range']
      exact eqItems_flat hk hc (ih e k1 hk) _ _ w n 0 ns ms hn hm (by simp) (by simp)
     ·cases h
theorem eql_flat {d : Nat} {t : TypeId} {ks : List IntKind} (h : flat P d t = some ks) (hd : Nat.ble d 10000 = true) (hu : (match P.underlying t with | some (.struct _) | some (.array _ _) => true | _ => false) = true) {ns ms : List Int} (hn : ns.length = ks.length) (hm : ms.length = ks.length) (w : World) :
  (binOp .eql t (.agg (ints ks ns).toArray) (.agg (ints ks ms).toArray)).run P w = .ok (.bool (ns == ms)) w := by
 have := eq_flat d t ks h 10000 (Nat.le_of_ble_eq_true hd) ns ms w hn hm
 unfold pack at this
 rw [run_eql_struct]
 cases hq : P.underlying t with
 | none => simp [hq] at hu
 | some kd => cases kd <;> simp [hq] at hu <;> (simp only [hq] at this; rw [this]; rfl)
theorem neq_flat {d : Nat} {t : TypeId} {ks : List IntKind} (h : flat P d t = some ks) (hd : Nat.ble d 10000 = true) (hu : (match P.underlying t with | some (.struct _) | some (.array _ _) => true | _ => false) = true) {ns ms : List Int} (hn : ns.length = ks.length) (hm : ms.length = ks.length) (w : World) :
  (binOp .neq t (.agg (ints ks ns).toArray) (.agg (ints ks ms).toArray)).run P w = .ok (.bool (ns != ms)) w := by
 have := eq_flat d t ks h 10000 (Nat.le_of_ble_eq_true hd) ns ms w hn hm
 unfold pack at this
 rw [run_neq_struct]
 cases hq : P.underlying t with
 | none => simp [hq] at hu
 | some kd => cases kd <;> simp [hq] at hu <;> (simp only [hq] at this; rw [this]; rfl)
end
end Go.Bas
namespace Go.Bas
open Go Go.RowKit Go.Mix
section
variable {P : Program}
variable {ops : Array Oper}
end
end Go.Bas
namespace Go.Mix
open Go Go.RowKit
theorem SB.set {B : Nat} {w0 w : World} (h : SB B w0 w) {p : Addr} (hp : B ≤ p.block) (v : Value) : SB B w0 (w.setCell p v) := h.low ((Below.refl B w).setCell hp v)
theorem wp_name {P : Program} {c : Code} {Q : Exit → Act → World → Prop} {a : Act} {w : World} (h : ∀ w', w' = w → c.wp P Q a w') : c.wp P Q a w := h w rfl
theorem seg_name {P : Program} {ops : Array Oper} {Q : Act → World → Prop} {C : World → Prop} {a : Act} {w : World} (h : ∀ w', w' = w → Q a w') : wpSegs P ops Q [] C a w := h w rfl
end Go.Mix
namespace Go.Bas
open Go Go.RowKit Go.Mix
def Blk (w : World) (g : Nat) (T : TypeId) (cs : List Value) : Prop := w.heap[g]? = some (.cells cs.toArray T (0, 0))
section
variable {w w' : World} {g : Nat} {T : TypeId} {cs : List Value}
theorem Blk.lt (h : Blk w g T cs) : g < w.heap.size := (Array.getElem?_eq_some_iff.1 h).1
theorem Blk.cell (h : Blk w g T cs) {j : Nat} {v : Value} (hj : cs[j]? = some v) : w.cell? ⟨g, j, none⟩ = some v := by
 rw [cell_of_row w g j _ T _ h]; simpa using hj
theorem Blk.free (h : Blk w g T cs) (j : Nat) : w.frozen? ⟨g, j, none⟩ = false := frozen_of_row w g j _ T h
theorem Blk.new (w : World) (T : TypeId) (cs : List Value) : Blk (w.alloc (.cells cs.toArray T)) w.heap.size T cs := heap_alloc_new w _
theorem Blk.new_at {g : Nat} (w : World) (T : TypeId) (cs : List Value) (hg : g = w.heap.size) : Blk (w.alloc (.cells cs.toArray T)) g T cs := by subst hg; exact heap_alloc_new w _
theorem Blk.alloc (h : Blk w g T cs) (o : Obj) : Blk (w.alloc o) g T cs := by unfold Blk; rw [heap_alloc_old w o h.lt]; exact h
theorem Blk.drew (h : Blk w g T cs) : Blk w.drew g T cs := h
theorem Blk.step (h : Blk w g T cs) (hb : Below w.heap.size w w') : Blk w' g T cs := by unfold Blk; rw [hb.block g h.lt]; exact h
theorem Blk.below {B : Nat} (h : Blk w g T cs) (hg : g < B) (hb : Below B w w') : Blk w' g T cs := by unfold Blk; rw [hb.block g hg]; exact h
theorem Blk.set (h : Blk w g T cs) (j : Nat) (v : Value) : Blk (w.setCell ⟨g, j, none⟩ v) g T (cs.set j v) := by
 unfold Blk
 rw [heap_setCell_same w g j _ T v h]
 simp
theorem Blk.other (h : Blk w g T cs) {p : Addr} (hp : g ≠ p.block) (v : Value) : Blk (w.setCell p v) g T cs := by
 unfold Blk
 rw [heap_setCell_other w p g v hp]
 exact h
theorem Blk.range (h : Blk w g T cs) (o n : Nat) : w.rangeAt g o ((cs.drop o).take n) := by
 intro j v hv
 have hj : j < n := by
  rcases Nat.lt_or_ge j n with h | h
  ·exact h
  ·rw [List.getElem?_eq_none (by simp; omega)] at hv; cases hv
 rw [List.getElem?_take, if_pos hj, List.getElem?_drop] at hv
 exact h.cell hv
theorem set_take {α : Type} {cs : List α} {o : Nat} (v : α) (h : o < cs.length) : (cs.set o v).take (o + 1) = cs.take o ++ [v] := by
 apply List.ext_getElem?
 intro i
 simp only [List.getElem?_take, List.getElem?_append, List.getElem?_set, List.length_take]
 rcases Nat.lt_trichotomy i o with hi | hi | hi
 ·rw [if_pos (by omega), if_neg (by omega), if_pos (by omega), if_pos (by omega)]
 ·subst hi
  rw [if_pos (by omega), if_pos rfl, if_pos h, if_neg (by omega), show i - min i cs.length = 0 by omega]
  rfl
 ·rw [if_neg (by omega), if_neg (by omega), List.getElem?_eq_none (by simp; omega)]
theorem Blk.sets : ∀ (vs : List Value) (o : Nat) {cs : List Value} {w : World}, Blk w g T cs → o + vs.length ≤ cs.length → Blk (w.setCells g o vs) g T (cs.take o ++ (vs ++ cs.drop (o + vs.length)))
 | [], o, cs, w, h, _ => by simpa [World.setCells] using h
 | v :: r, o, cs, w, h, hl => by
  have ih := Blk.sets r (o + 1) (h.set o v) (by simp at hl ⊢; omega)
  rw [set_take v (by simp at hl; omega), List.drop_set_of_lt (by omega)] at ih
  rw [World.setCells]
  simp only [List.length_cons, List.cons_append, List.append_assoc, List.nil_append] at ih ⊢
  rwa [show o + (r.length + 1) = o + 1 + r.length by omega]
theorem Blk.others {g' : Nat} (hg : g ≠ g') : ∀ (vs : List Value) (o : Nat) {w : World}, Blk w g T cs → Blk (w.setCells g' o vs) g T cs
 | [], _, _, h => h
 | v :: r, o, w, h => by rw [World.setCells]; exact Blk.others hg r (o + 1) (h.other (p := ⟨g', o, none⟩) hg v)
theorem below_setCells {B g : Nat} (hB : B ≤ g) : ∀ (vs : List Value) (o : Nat) {w0 w : World}, Below B w0 w → Below B w0 (w.setCells g o vs)
 | [], _, _, _, h => h
 | v :: r, o, w0, w, h => by rw [World.setCells]; exact below_setCells hB r (o + 1) (h.setCell (p := ⟨g, o, none⟩) hB v)
theorem sb_sets {B g : Nat} {w0 w : World} (h : SB B w0 w) (hg : B ≤ g) (vs : List Value) (o : Nat) : SB B w0 (w.setCells g o vs) := h.low (below_setCells hg vs o (Below.refl _ _))
theorem size_setCells {g : Nat} : ∀ (vs : List Value) (o : Nat) (w : World), (w.setCells g o vs).heap.size = w.heap.size
 | [], _, _ => rfl
 | v :: r, o, w => by rw [World.setCells, size_setCells r (o + 1)]; simp
theorem Blk.there (h : Blk w g T cs) {o n : Nat} (hn : o + n ≤ cs.length) : w.there g o n := fun j hj => by
 refine ⟨?_, h.free (o + j)⟩
 rw [h.cell (List.getElem?_eq_getElem (by omega))]; rfl
variable {P : Program} {ops : Array Oper}
end
section
variable {w w' : World} {g base : Nat} {T T' : TypeId} {cs : List Value} {A : Option Addr} {n c : Nat} {l : List UInt8}
theorem Blk.grown {row : Option Nat} (h : Blk w g T cs) (hg : w.grownBy w' row) (hne : some g ≠ row) : Blk w' g T cs := by
 unfold Blk; rw [hg.block g h.lt hne]; exact h
theorem Blk.bs {off m cp : Nat} (h : Blk w g T cs) (hl : (cs.drop off).take m = l.map bv) (hm : l.length = m) (h1 : m ≤ cp) (h2 : cp ≤ 9223372036854775807) : Bs w (some ⟨g, off, none⟩) m cp l := by
 refine ⟨hm.symm, h1, h2, fun _ => ⟨g, off, rfl, h.lt, fun j hj => h.cell ?_⟩⟩
 have := bv_getElem? hj
 rw [← hl, List.getElem?_take, if_pos (by omega), List.getElem?_drop] at this
 exact this
end
section
variable {P : Program} {fn : Func} {w : World} {g : Nat} {T ty : TypeId} {cs : List Value} {p q r : Tmp} {d : TypeDesc} {tmps : Array Value} {v u : Value}
end
section
variable {P : Program} {ops : Array Oper} {w : World} {g : Nat} {T : TypeId} {cs : List Value}
end
theorem and_mask_u32 (n : Int) (k : Nat) (hk : k ≤ 31) (h0 : 0 ≤ n) (h1 : n < 4294967296) : bits .and .u32 n ((2 ^ k - 1 : Nat) : Int) = n % ((2 ^ k : Nat) : Int) := by
 obtain ⟨a, rfl⟩ := Int.eq_ofNat_of_zero_le h0
 have hp : 2 ^ k ≤ 2 ^ 31 := Nat.pow_le_pow_right (by omega) hk
 have hp0 : 0 < 2 ^ k := Nat.two_pow_pos k
 rw [u32_and_nat a (2 ^ k - 1) (by omega) (by omega), Nat.and_two_pow_sub_one_eq_mod]
 omega
end Go.Bas
namespace Go.Bas
open Go Go.RowKit Go.Mix
theorem sb_app (a b : List UInt8) : sb a ++ sb b = sb (a ++ b) := by
 unfold sb
 apply ByteArray.ext
 simp
theorem sb_sz (a : List UInt8) : (sb a).size = a.length := by simp [sb, ByteArray.size]
end Go.Bas
namespace Go.Bas
open Go Go.RowKit Go.ChangeShapes Go.WideShapes Go.ChangeAt
section
variable {H : Type} {enc : TypeId × Value → H} {P : Program} {W W' : World}
theorem args_stay (hl : laidOutB P = true) (hb : Below W.heap.size W W') : ∀ (ts : List TypeId) (vs : List Value) (ds : List (DataW H)) (p : List MemPlace),
  (∀ t ∈ ts, P.readableRec t = true ∧ t < P.types.size) → DataW.TrodAll enc P W 0 (fun _ => true) true ts vs ds p → DataW.TrodAll enc P W' 0 (fun b => decide (b < W.heap.size)) true ts vs ds p
 | [], vs, ds, p, _, h => by
  obtain ⟨rfl, rfl, rfl⟩ := trodAll_nil h
  exact trodAll_mk0
 | t :: ts, vs, ds, p, hr, h => by
  obtain ⟨v, vs', d, ds', p1, q1, rfl, rfl, rfl, h1, h2⟩ := trodAll_cons h
  obtain ⟨h3, h4⟩ := hr t (by simp)
  have hlt : ∀ x ∈ p1, x.block < W.heap.size := by obtain ⟨m, hm⟩ := h1; exact DataW.trod_lt m _ _ _ hm
  exact trodAll_cons_mk (Below.trod hl h3 h4 h1 hb hlt) (args_stay hl hb ts vs' ds' q1 (fun t ht => hr t (by simp [ht])) h2)
theorem law_post {f : Func} {s : ChangeSpec} {args : Array Value} {ds : List (DataW H)} {before : List MemPlace} (hl : laidOutB P = true)
  (hr : ∀ t ∈ f.params.toList, P.readableRec t = true ∧ t < P.types.size) (hv : s.vars = []) {tb : TypeId} (hres : f.resultTypes = #[tb]) (htb : P.underlying tb = some .bool)
  (hfn : s.fn H (ds ++ []) = { results := [.lit (.bool true)], args := ds })
  (hW : DataW.Whole enc P f.params.toList s.vars false W args.toList ds [] before) (hb : Below W.heap.size W W') :
  s.post enc P f false true false false W args (.bool true) W' := by
 have hW' := hW
 obtain ⟨p, q, hA, hV, rfl, hfz, hnd⟩ := hW
 rw [hv] at hV
 obtain ⟨-, rfl⟩ := trodVars_none hV
 have hres' : f.resultTypes.toList = [tb] := by rw [hres]
 refine ⟨ds, [], p ++ [], [], p, [], hW', ?_, ?_, ?_, hb.frame _, fun h => by cases h⟩
 ·rw [hfn, hres]
  exact trodAll_mk1 (shut_bool htb _)
 ·rw [hfn]
  exact args_stay hl hb _ _ _ _ hr hA
 ·rw [hfn, hv]
  rfl
end
theorem wf_i64 {n : Int} (h : (Lit.int .i64 n).wf = true) : -9223372036854775808 ≤ n ∧ n ≤ 9223372036854775807 := by
 simpa [Lit.wf, IntKind.min, IntKind.max, IntKind.signed, IntKind.bits] using h
theorem wf_u8 {n : Int} (h : (Lit.int .u8 n).wf = true) : 0 ≤ n ∧ n ≤ 255 := by
 simpa [Lit.wf, IntKind.min, IntKind.max, IntKind.signed, IntKind.bits] using h
end Go.Bas
namespace Go.Am
open Go Go.RowKit Go.Bas
def goods : List (Nat × (Obj → Prop)) := []
def LaidW (w : World) : Prop := ∀ p ∈ goods, ∃ o, w.heap[p.1]? = some o ∧ p.2 o
theorem LaidW.lt {w : World} (h : LaidW w) {p : Nat × (Obj → Prop)} (hp : p ∈ goods) : p.1 < w.heap.size := by
 obtain ⟨o, h1, _⟩ := h p hp
 rcases Nat.lt_or_ge p.1 w.heap.size with h | h
 ·exact h
 ·rw [Array.getElem?_eq_none h] at h1; cases h1
theorem LaidW.keep {w w' : World} (h : LaidW w) (k : ∀ p ∈ goods, w'.heap[p.1]? = w.heap[p.1]?) : LaidW w' := by
 intro p hp
 obtain ⟨o, h1, h2⟩ := h p hp
 exact ⟨o, by rw [k p hp]; exact h1, h2⟩
theorem LaidW.none {w : World} (h : goods = []) : LaidW w := fun p hp => by rw [h] at hp; cases hp
theorem LaidW.below {w w' : World} (h : LaidW w) (hb : Below w.heap.size w w') : LaidW w' := h.keep fun _ hp => hb.block _ (h.lt hp)
structure OOk (O : Nat → Prop) (w : World) : Prop where
 lt : ∀ b, O b → b < w.heap.size
 good : LaidW w
theorem OOk.no {w : World} (h : LaidW w) : OOk (fun _ => False) w := ⟨fun _ h => h.elim, h⟩
end Go.Am