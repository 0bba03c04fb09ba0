/- Part Gds of the proof: laws used by the law of this claim. -/
import Derived.Test.YtpoeinajedbfoaaDoorGdr
import Derived.Test.YtpoeinajedbfoaaDoorGz
import Derived.Test.YtpoeinajedbfoaaDoorGf
import Derived.Test.YtpoeinajedbfoaaDoorGtx
set_option linter.all false
namespace Go.Proofs.YtpoeinajedbfoaaDoor
open Go Go.Am Go.RowKit Go.Mix Go.Bas
set_option maxRecDepth 100000
end Go.Proofs.YtpoeinajedbfoaaDoor

namespace Go.Proofs.YtpoeinajedbfoaaDoor
open Go Go.Am Go.RowKit Go.Mix Go.Bas
set_option maxRecDepth 100000
theorem isB_step {T e : TypeId} {B b : Nat} {bs : List Value} {w w' : World} (h : Lib.IsBuilder T e B b bs w) (hb : Below w.heap.size w w') : Lib.IsBuilder T e B b bs w' := by
  have key : ∀ p, Lib.BuilderAt T e B b p bs w → Lib.BuilderAt T e B b p bs w' := by
    rintro p ⟨hB, v, hk, ho, hne⟩
    have hlt : b < w.heap.size := by
      rcases Nat.lt_or_ge b w.heap.size with h' | h'
      · exact h'
      · simp [Array.getElem?_eq_none h'] at hk
    obtain ⟨A, n, c, rfl⟩ : ∃ A n c, v = .slice A n c := by
      rcases ho.2 with ⟨hv, _⟩ | ⟨g, cap, cur, hv, _⟩
      · exact ⟨_, _, _, hv⟩
      · exact ⟨_, _, _, hv⟩
    exact ⟨hB, _, (hb.block b hlt).trans hk, ownsRow_same ho fun a ha => by subst ha; exact hb.block _ (ownsRow_lt ho).2, hne⟩
  exact h.imp (key _) (key _)
end Go.Proofs.YtpoeinajedbfoaaDoor
namespace Go.Proofs.YtpoeinajedbfoaaDoor
open Go Go.RowKit Go.Mix Go.Bas
end Go.Proofs.YtpoeinajedbfoaaDoor

namespace Go.Proofs.YtpoeinajedbfoaaDoor
open Go Go.Am Go.RowKit Go.Mix Go.Bas
set_option maxRecDepth 100000
end Go.Proofs.YtpoeinajedbfoaaDoor

namespace Go.Proofs.YtpoeinajedbfoaaDoor
open Go Go.Am Go.RowKit Go.Mix Go.Bas
set_option maxRecDepth 100000
/-- a page: fresh, or written to -/
def PgAt (B b : Nat) (l : List UInt8) (w : World) : Prop := (l = [] ∧ w.heap[b]? = some (.cells #[.pointer none, .slice none 0 0] 65 (0, 0))) ∨ (l ≠ [] ∧ Lib.IsBuilder 65 5 B b (Lib.byteCells l) w)
theorem PgAt.is {B b : Nat} {l : List UInt8} {w : World} (h : PgAt B b l w) (hB : B ≤ b) : Lib.IsBuilder 65 5 B b (Lib.byteCells l) w := by
  rcases h with ⟨rfl, h⟩ | ⟨_, h⟩
  · exact .inl ⟨hB, _, h, World.ownsRow_nil .., by simp [Value.ownBlock]⟩
  · exact h
theorem PgAt.step {B b : Nat} {l : List UInt8} {w w' : World} (h : PgAt B b l w) (hb : Below w.heap.size w w') : PgAt B b l w' := by
  rcases h with ⟨rfl, h⟩ | ⟨h1, h⟩
  · refine .inl ⟨rfl, (hb.block b ?_).trans h⟩
    rcases Nat.lt_or_ge b w.heap.size with h' | h'
    · exact h'
    · simp [Array.getElem?_eq_none h'] at h
  · exact .inr ⟨h1, isB_step h hb⟩
theorem ext_below {O : Nat → Prop} {w w' : World} (hb : Below w.heap.size w w') : Ext no no O O w w' := Ext.mk hb.size (fun _ _ e => e) (fun b hlt _ => hb.block b hlt) fun _ h => .inl h
end Go.Proofs.YtpoeinajedbfoaaDoor
