/- Closed facts on the whole program: each for itself. -/
import Derived.Test.YthbllfhaaidhjaaRows
import Derived.JoinedOf
import Derived.KernelRfl
namespace Go.Proofs.Ythbllfhaaidhjaa
open Go
theorem fMay : Try.checked.prog.mayEnter = true := by kernel_rfl
theorem fLift : Try.checked.prog.liftsFinal = false := by kernel_rfl
theorem fMake : Try.checked.prog.make = some .cut := by kernel_rfl
theorem andB {a b : Bool} (h : a = true) (h' : b = true) : (a && b) = true := by rw [h, h']; rfl
end Go.Proofs.Ythbllfhaaidhjaa
