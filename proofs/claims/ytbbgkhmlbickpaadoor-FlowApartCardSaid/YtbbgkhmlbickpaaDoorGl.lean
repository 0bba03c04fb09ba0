/- Part Gl of the proof: laws used by the law of this claim. -/
import Derived.Test.YtbbgkhmlbickpaaDoorGf
import Derived.Test.YtbbgkhmlbickpaaDoorGc
import Derived.Test.YtbbgkhmlbickpaaDoorGd
set_option linter.all false
namespace Go.Proofs.YtbbgkhmlbickpaaDoor
open Go Go.Am Go.RowKit Go.Mix Go.Bas
end Go.Proofs.YtbbgkhmlbickpaaDoor
