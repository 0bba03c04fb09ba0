/- Part Gsi of the proof: laws used by the law of this claim. -/
import Derived.Test.YtbbgkhmlbickpaaDoorProg
import Derived.Test.YtbbgkhmlbickpaaDoorGe
import Derived.Test.YtbbgkhmlbickpaaDoorGl
import Derived.Test.YtbbgkhmlbickpaaDoorGk
import Derived.Test.YtbbgkhmlbickpaaDoorGf
set_option linter.all false
namespace Go.Proofs.YtbbgkhmlbickpaaDoor
open Go Go.Am Go.RowKit Go.Mix Go.Bas
set_option maxRecDepth 100000
end Go.Proofs.YtbbgkhmlbickpaaDoor
