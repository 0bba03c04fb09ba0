/- Part Gz of the proof: laws used by the law of this claim. -/
import Derived.Test.YtbbgkhmlbickpaaDoorGk
import Derived.Test.YtbbgkhmlbickpaaDoorGf
set_option linter.all false
namespace Go.Am
open Go Go.RowKit Go.Bas
theorem Covers.refl {s : S} (h : s.ob = true) : Covers s s := ⟨rfl, rfl, h, fun _ _ h => h, fun _ _ h => h⟩
end Go.Am
