/- Part Gz of the proof: laws used by the law of this claim. -/
import Derived.Test.YtpoeinajedbfoaaDoorGk
import Derived.Test.YtpoeinajedbfoaaDoorGf
set_option linter.all false
namespace Go.Am
open Go Go.RowKit Go.Bas
/-- is it so? -/
noncomputable def okG (p : Prop) : Bool := @decide p (Classical.propDecidable p)
theorem okG_t {p : Prop} (h : p) : okG p = true := @decide_eq_true p (Classical.propDecidable p) h
theorem okG_p {p : Prop} (h : okG p = true) : p := @of_decide_eq_true p (Classical.propDecidable p) h
theorem okG_e {α : Type} {a : α} {p : Prop} (h : p) : okG (a = a ∧ p) = true := okG_t ⟨rfl, h⟩
def lkD (s : S) (t : Nat) : V := match look s.sl t with | some v => v | none => .undef
def bkD (s : S) (i : Nat) : V := match lookH s.hp i with | some (.var _ v) => v | some (.row _ _ v) => v | some (.view v) => v | none => .undef
/-- what is said of a loop: x is read off the state; the state must be just that of x -/
noncomputable def gX {X : Type} (get : S → X) (st : X → S) (I : X → Prop) (out : X → Tr) (s : S) : Option (Bool × Tr) := some (okG (s = st (get s) ∧ I (get s)), out (get s))
theorem Covers.refl {s : S} (h : s.ob = true) : Covers s s := ⟨rfl, rfl, h, fun _ _ h => h, fun _ _ h => h⟩
theorem loopX_ok {E : Env} (hE : EnvOk E) {d : Nat} {c : AC} (hl : LoopsOk E.P c) (f : Ex → List Nat) (vs : List Nat) {X : Type} (get : S → X) (st : X → S) (out : X → Tr) (I : X → Prop) (m : X → Nat) (hob : ∀ x, (st x).ob = true)
    (hb : ∀ x, I x → (∃ x', aev E (inlN E d) c (bodyF f vs) (st x) = some (.normal, st x') ∧ I x' ∧ m x' < m x ∧ (∀ e s, Leaf (out x') e s → Leaf (out x) e s)) ∨
      (∃ e s', aev E (inlN E d) c (bodyF f vs) (st x) = some (e, s') ∧ e ≠ .normal ∧ Leaf (out x) e s')) :
    LoopOk E.P c.erase vs (gX get st I out) := by
  refine loopF_ok hE hl f vs _ st out I m (fun s t h => ?_) hb
  injection h with h; injection h with h ht
  obtain ⟨h1, h2⟩ := okG_p h
  exact ⟨get s, by rw [← h1]; exact .refl (by rw [h1]; exact hob _), h2, ht.symm⟩
end Go.Am
