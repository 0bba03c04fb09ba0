/- Part Gsi of the proof: laws used by the law of this claim. -/
import Derived.Test.YtpoeinajedbfoaaDoorProg
import Derived.Test.YtpoeinajedbfoaaDoorGe
import Derived.Test.YtpoeinajedbfoaaDoorGl
import Derived.Test.YtpoeinajedbfoaaDoorGk
import Derived.Test.YtpoeinajedbfoaaDoorGf
set_option linter.all false
namespace Go.Proofs.YtpoeinajedbfoaaDoor
open Go Go.Am Go.RowKit Go.Mix Go.Bas
set_option maxRecDepth 100000
end Go.Proofs.YtpoeinajedbfoaaDoor
