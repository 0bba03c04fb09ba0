/- Part Gex of the proof: laws used by the law of this claim. -/
import Derived.Test.YtpoeinajedbfoaaDoorGew
import Derived.Test.YtpoeinajedbfoaaDoorGds
set_option linter.all false
namespace Go.Proofs.YtpoeinajedbfoaaDoor
open Go Go.Am Go.RowKit Go.Mix Go.Bas
set_option maxRecDepth 100000
/-- a Builder: fresh, or written to -/
def BlAt (B b : Nat) (l : List UInt8) (w : World) : Prop := (l = [] ∧ w.heap[b]? = some (.cells #[.pointer none, .slice none 0 0] 63 (0, 0))) ∨ (l ≠ [] ∧ Lib.IsBuilder 63 5 B b (Lib.byteCells l) w)
theorem BlAt.is {B b : Nat} {l : List UInt8} {w : World} (h : BlAt B b l w) (hB : B ≤ b) : Lib.IsBuilder 63 5 B b (Lib.byteCells l) w := by
  rcases h with ⟨rfl, h⟩ | ⟨_, h⟩
  · exact .inl ⟨hB, _, h, World.ownsRow_nil .., by simp [Value.ownBlock]⟩
  · exact h
theorem BlAt.step {B b : Nat} {l : List UInt8} {w w' : World} (h : BlAt B b l w) (hb : Below w.heap.size w w') : BlAt B b l w' := by
  rcases h with ⟨rfl, h⟩ | ⟨h1, h⟩
  · refine .inl ⟨rfl, (hb.block b ?_).trans h⟩
    rcases Nat.lt_or_ge b w.heap.size with h' | h'
    · exact h'
    · simp [Array.getElem?_eq_none h'] at h
  · exact .inr ⟨h1, isB_step h hb⟩
theorem wpList_ix {P : Program} {ops : Array Oper} {o : Oper} {a : Act} {w : World} {rest : List Oper} {Q : Exit → Act → World → Prop} (hg : o.guard = none) (v : Value) (t : TypeId) (x y : Operand) (p q : Value) (hop : o.op = .indexAddr t x y) (hx : a.eval x = p) (hy : a.eval y = q)
    (hrun : (Instr.indexAt t p q).run P w = .ok v w) (h : wpList P ops Q rest (a.put o.dst v) w) : wpList P ops Q (o :: rest) a w := by
  refine wpList_run hg (v := v) (w' := w) ?_ h
  unfold execOp
  simp only [hop, hx, hy, Sem.run_bind, Sem.run_pure, hrun, Result.andThen_ok]
end Go.Proofs.YtpoeinajedbfoaaDoor
