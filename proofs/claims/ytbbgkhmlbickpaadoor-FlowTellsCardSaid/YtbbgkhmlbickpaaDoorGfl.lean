/- Part Gfl of the proof: laws used by the law of this claim. -/
import Derived.ArgAppend
import Derived.Test.YtbbgkhmlbickpaaDoorGl
import Derived.Test.YtbbgkhmlbickpaaDoorGz
import Derived.Test.YtbbgkhmlbickpaaDoorGe
import Derived.Test.YtbbgkhmlbickpaaDoorGsi
import Derived.Test.YtbbgkhmlbickpaaDoorGad
import Derived.Test.YtbbgkhmlbickpaaDoorGf
set_option linter.all false
namespace Go.Proofs.YtbbgkhmlbickpaaDoor
open Go Go.Am Go.RowKit Go.Mix Go.Bas
set_option maxRecDepth 100000
end Go.Proofs.YtbbgkhmlbickpaaDoor

namespace Go.Proofs.YtbbgkhmlbickpaaDoor
open Go Go.Am Go.RowKit Go.Mix Go.Bas
set_option maxRecDepth 100000
/-! ### as a contract, with the document's -/
end Go.Proofs.YtbbgkhmlbickpaaDoor

namespace Go.Proofs.YtbbgkhmlbickpaaDoor
open Go Go.Am Go.RowKit Go.Mix Go.Bas
set_option maxRecDepth 100000
/-! ### the other way; may it be; which comes ahead -/
end Go.Proofs.YtbbgkhmlbickpaaDoor
