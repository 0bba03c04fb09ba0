/- Part Gaf of the proof: laws used by the law of this claim. -/
import Derived.Laws.RangeAny
import Derived.Test.YtpoeinajedbfoaaDoorGad
set_option linter.all false
namespace Go.Proofs.YtpoeinajedbfoaaDoor
open Go Go.Am Go.RowKit Go.Mix Go.Bas
set_option maxRecDepth 100000
end Go.Proofs.YtpoeinajedbfoaaDoor
