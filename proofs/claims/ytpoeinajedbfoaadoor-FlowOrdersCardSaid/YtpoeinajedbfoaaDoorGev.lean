/- Part Gev of the proof: laws used by the law of this claim. -/
import Derived.Test.YtpoeinajedbfoaaDoorGz
import Derived.Test.YtpoeinajedbfoaaDoorGf
import Derived.Test.YtpoeinajedbfoaaDoorGe
set_option linter.all false
namespace Go.Proofs.YtpoeinajedbfoaaDoor
open Go Go.Am Go.RowKit Go.Mix Go.Bas
set_option maxRecDepth 100000
/-! ### F -/
/-! ### K -/
/-! ### as contracts -/
end Go.Proofs.YtpoeinajedbfoaaDoor
