/- Part Gv of the proof: laws used by the law of this claim. -/
import Derived.Test.YtbojofchpnfnlaaGx
import Derived.Test.YtbojofchpnfnlaaGo
import Derived.Test.YtbojofchpnfnlaaGi
import Derived.Test.YtbojofchpnfnlaaGt
set_option linter.all false
namespace Go.Proofs.Ytbojofchpnfnlaa
open Go Go.Am Go.RowKit Go.Mix Go.Bas
set_option maxRecDepth 100000
end Go.Proofs.Ytbojofchpnfnlaa

namespace Go.Proofs.Ytbojofchpnfnlaa
open Go Go.Am Go.RowKit Go.Mix Go.Bas
set_option maxRecDepth 100000
end Go.Proofs.Ytbojofchpnfnlaa
