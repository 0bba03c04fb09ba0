/- Part Gk of the proof: laws used by the law of this claim. -/
import Derived.Test.YtbbgkhmlbickpaaDoorGp
import Derived.Test.YtbbgkhmlbickpaaDoorGf
set_option linter.all false
namespace Go.Am
open Go Go.RowKit Go.Bas
theorem andT_l (a : Bool) : andT true a = a := by cases a <;> rfl
end Go.Am
