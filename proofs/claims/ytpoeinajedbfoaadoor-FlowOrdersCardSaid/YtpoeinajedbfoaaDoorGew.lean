/- Part Gew of the proof: laws used by the law of this claim. -/
import Derived.Lib.Builder
import Derived.Lib.UnsafeStr
import Derived.Shelf.Strings.Builder1
import Derived.Test.YtpoeinajedbfoaaDoorGdr
import Derived.Test.YtpoeinajedbfoaaDoorGtx
import Derived.Test.YtpoeinajedbfoaaDoorGfl
import Derived.Test.YtpoeinajedbfoaaDoorGev
set_option linter.all false
namespace Go.Proofs.YtpoeinajedbfoaaDoor
open Go Go.Am Go.RowKit Go.Mix Go.Bas
set_option maxRecDepth 100000
/-! ### words -/
/-! ### the text -/
end Go.Proofs.YtpoeinajedbfoaaDoor

namespace Go.Proofs.YtpoeinajedbfoaaDoor
open Go Go.Am Go.RowKit Go.Mix Go.Bas
set_option maxRecDepth 100000
end Go.Proofs.YtpoeinajedbfoaaDoor
