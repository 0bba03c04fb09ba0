/- Part Gla of the proof: laws used by the law of this claim. -/
import Derived.Test.YtbbgkhmlbickpaaDoorRows
import Derived.Test.YtbbgkhmlbickpaaDoorProg
import Derived.Shelf.Vars
import Derived.LaidLaws
import Derived.KernelRfl
import Derived.Deep.DeepHandedRow
import Derived.Test.YtbbgkhmlbickpaaDoorGa
set_option linter.all false
namespace Go.Proofs.YtbbgkhmlbickpaaDoor
open Go Go.ChangeShapes Go.WideShapes Go.ChangeAt
def litV : DataW Unit → Value
  | .lit (.int k n) => .int k n
  | _ => Go.undef
def flatV2 : DataW Unit → List Value
  | .agg l => l.map litV
  | d => [litV d]
def cellsV : DataW Unit → Array Value
  | .agg l => (l.flatMap flatV2).toArray
  | _ => #[]
def putV (cs : Array Value) : Obj → Obj
  | .cells _ t frozen => .cells cs t frozen
  | o => o
noncomputable def laidW (os : Os) : World :=
  { World.holding Tryd.prog os ⟨#[], #[], []⟩ with heap := ((((((World.holding Tryd.prog os ⟨#[], #[], []⟩).heap).modify 0 (putV (cellsV Rows.laid_internal_strconv_uint64pow10))).modify 2 (putV (cellsV Rows.laid_math_bits_deBruijn32tab))).modify 3 (putV (cellsV Rows.laid_math_bits_deBruijn64tab))).modify 5 (putV (cellsV Rows.laid_unicode_utf8_acceptRanges))).modify 4 (putV (cellsV Rows.laid_unicode_utf8_first)) }
end Go.Proofs.YtbbgkhmlbickpaaDoor
