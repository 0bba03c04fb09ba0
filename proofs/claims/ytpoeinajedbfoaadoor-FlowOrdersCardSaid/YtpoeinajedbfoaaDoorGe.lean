/- Part Ge of the proof: laws used by the law of this claim. -/
import Derived.Shelf.Abstract
import Derived.Test.YtpoeinajedbfoaaDoorGf
import Derived.Test.YtpoeinajedbfoaaDoorGd
set_option linter.all false
namespace Go.Proofs.YtpoeinajedbfoaaDoor
open Go Go.Am Go.RowKit Go.Mix Go.Bas


end Go.Proofs.YtpoeinajedbfoaaDoor
