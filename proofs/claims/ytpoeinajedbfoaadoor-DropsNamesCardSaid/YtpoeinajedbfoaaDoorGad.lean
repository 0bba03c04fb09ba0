/- Part Gad of the proof: laws used by the law of this claim. -/
import Derived.Test.YtpoeinajedbfoaaDoorGtx
import Derived.Test.YtpoeinajedbfoaaDoorGz
set_option linter.all false
namespace Go.Proofs.YtpoeinajedbfoaaDoor
open Go Go.Am Go.RowKit Go.Mix Go.Bas
set_option maxRecDepth 100000
/-! ### the document's -/
end Go.Proofs.YtpoeinajedbfoaaDoor
