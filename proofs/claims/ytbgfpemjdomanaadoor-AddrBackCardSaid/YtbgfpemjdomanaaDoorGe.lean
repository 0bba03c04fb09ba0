/- Part Ge of the proof: laws used by the law of this claim. -/
import Derived.Shelf.Abstract
import Derived.Test.YtbgfpemjdomanaaDoorGf
import Derived.Test.YtbgfpemjdomanaaDoorGd
set_option linter.all false
namespace Go.Proofs.YtbgfpemjdomanaaDoor
open Go Go.Am Go.RowKit Go.Mix Go.Bas


def cTwo : List V → Option (V × Bool)
  | [.int .i64 n] => some (.ownv 5 (.bytes (two n)), true)
  | _ => none
theorem s_i {f : FuncId} {k1 : IntKind} {a : Int} {v : V} (h : ∀ (O : Nat → Prop) (w : World), Calls Tryd.prog f #[.int k1 a] w fun e w' => Below w.heap.size w w' ∧ ∃ c, e = .returned c ∧ OutRep O w w' v c) : SpecV Tryd.prog f [.int k1 a] v := by
  intro O w cs hO hv
  obtain ⟨a, rfl, ha⟩ := hv.one_inv
  obtain ⟨rfl, _⟩ := ha.int_inv
  exact h O w
theorem Two_con : ∀ vs v, cTwo vs = some (v, true) → SpecV Tryd.prog 25 vs v := by
  intro vs v h; unfold cTwo at h; split at h
  · injection h with h; injection h with h hb; subst h
    exact s_i fun O w => kOwn (Two_calls _ _)
  · cases h
end Go.Proofs.YtbgfpemjdomanaaDoor
