/- Part Gla of the proof: laws used by the law of this claim. -/
import Derived.Test.YtbgfpemjdomanaaDoorRows
import Derived.Test.YtbgfpemjdomanaaDoorProg
import Derived.Shelf.Vars
import Derived.LaidLaws
import Derived.KernelRfl
import Derived.Deep.DeepHandedRow
import Derived.Test.YtbgfpemjdomanaaDoorGa
set_option linter.all false
namespace Go.Proofs.YtbgfpemjdomanaaDoor
open Go Go.ChangeShapes Go.WideShapes Go.ChangeAt
def litV : DataW Unit → Value
  | .lit (.int k n) => .int k n
  | _ => Go.undef
def flatV2 : DataW Unit → List Value
  | .agg l => l.map litV
  | d => [litV d]
def cellsV : DataW Unit → Array Value
  | .agg l => (l.flatMap flatV2).toArray
  | _ => #[]
def putV (cs : Array Value) : Obj → Obj
  | .cells _ t frozen => .cells cs t frozen
  | o => o
noncomputable def laidW (os : Os) : World :=
  { World.holding Tryd.prog os ⟨#[], #[], []⟩ with heap := (((World.holding Tryd.prog os ⟨#[], #[], []⟩).heap).modify 2 (putV (cellsV Rows.laid_unicode_utf8_acceptRanges))).modify 1 (putV (cellsV Rows.laid_unicode_utf8_first)) }
theorem isInt_of {W : World} {k : IntKind} {g : Nat} (h : ∃ m, W.cell? ⟨g, 0, none⟩ = some (.int k m)) : ∃ o, W.heap[g]? = some o ∧ Am.isInt k o := by
  obtain ⟨m, h⟩ := h
  unfold World.cell? at h
  split at h
  · rename_i c T fz hh
    exact ⟨_, hh, m, c, T, fz, rfl, by simpa using h⟩
  · cases h
theorem good_of {l : List (String × DataW Unit)} {W : World} (_ : laidMetH Tryd.prog l W) (hsh : W.ShapedOpen Tryd.prog) : Am.LaidW W := by
  intro p hp
  simp only [Am.goods, List.mem_cons, List.not_mem_nil, or_false] at hp
  subst hp
  exact isInt_of (Go.Proofs.cell_of_shapedOpen_int (zero := #[.int .i64 0]) (t := 3) hsh (of_decide_eq_true (by kernel_rfl)) (by kernel_rfl) rfl (by kernel_rfl) (by kernel_rfl) Tryd.underlying3)
end Go.Proofs.YtbgfpemjdomanaaDoor
