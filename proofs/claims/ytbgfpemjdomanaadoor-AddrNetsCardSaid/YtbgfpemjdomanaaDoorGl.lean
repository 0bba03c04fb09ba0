/- Part Gl of the proof: laws used by the law of this claim. -/
import Derived.Test.YtbgfpemjdomanaaDoorGf
import Derived.Test.YtbgfpemjdomanaaDoorGc
import Derived.Test.YtbgfpemjdomanaaDoorGd
set_option linter.all false
namespace Go.Proofs.YtbgfpemjdomanaaDoor
open Go Go.Am Go.RowKit Go.Mix Go.Bas
end Go.Proofs.YtbgfpemjdomanaaDoor
