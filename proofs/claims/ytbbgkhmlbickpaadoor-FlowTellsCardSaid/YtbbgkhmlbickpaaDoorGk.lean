/- Part Gk of the proof: laws used by the law of this claim. -/
import Derived.Test.YtbbgkhmlbickpaaDoorGp
import Derived.Test.YtbbgkhmlbickpaaDoorGf
set_option linter.all false
namespace Go.Am
open Go Go.RowKit Go.Bas
end Go.Am
