/- Part Gsi of the proof: laws used by the law of this claim. -/
import Derived.Test.YtfhljcbbgckdiaaGreatProg
import Derived.Test.YtfhljcbbgckdiaaGreatGe
import Derived.Test.YtfhljcbbgckdiaaGreatGl
import Derived.Test.YtfhljcbbgckdiaaGreatGk
import Derived.Test.YtfhljcbbgckdiaaGreatGf
set_option linter.all false
namespace Go.Proofs.YtfhljcbbgckdiaaGreat
open Go Go.Am Go.RowKit Go.Mix Go.Bas
set_option maxRecDepth 100000
theorem list16 {l : List UInt8} (h : l.length = 16) : ∃ a0 a1 a2 a3 a4 a5 a6 a7 a8 a9 a10 a11 a12 a13 a14 a15, l = [a0, a1, a2, a3, a4, a5, a6, a7, a8, a9, a10, a11, a12, a13, a14, a15] := by
 match l, h with
 | [a0, a1, a2, a3, a4, a5, a6, a7, a8, a9, a10, a11, a12, a13, a14, a15], _ => exact ⟨_, _, _, _, _, _, _, _, _, _, _, _, _, _, _, _, rfl⟩
end Go.Proofs.YtfhljcbbgckdiaaGreat