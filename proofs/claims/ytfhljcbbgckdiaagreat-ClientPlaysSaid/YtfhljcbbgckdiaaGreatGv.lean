/- Part Gv of the proof: laws used by the law of this claim. -/
import Derived.Test.YtfhljcbbgckdiaaGreatGx
import Derived.Test.YtfhljcbbgckdiaaGreatGo
import Derived.Test.YtfhljcbbgckdiaaGreatGi
import Derived.Test.YtfhljcbbgckdiaaGreatGt
set_option linter.all false
namespace Go.Proofs.YtfhljcbbgckdiaaGreat
open Go Go.Am Go.RowKit Go.Mix Go.Bas
set_option maxRecDepth 100000
end Go.Proofs.YtfhljcbbgckdiaaGreat