/- Part Gv of the proof: laws used by the law of this claim. -/
import Derived.Test.YtbojofchpnfnlaaGreatGx
import Derived.Test.YtbojofchpnfnlaaGreatGo
import Derived.Test.YtbojofchpnfnlaaGreatGi
import Derived.Test.YtbojofchpnfnlaaGreatGt
set_option linter.all false
namespace Go.Proofs.YtbojofchpnfnlaaGreat
open Go Go.Am Go.RowKit Go.Mix Go.Bas
set_option maxRecDepth 100000
end Go.Proofs.YtbojofchpnfnlaaGreat

namespace Go.Proofs.YtbojofchpnfnlaaGreat
open Go Go.Am Go.RowKit Go.Mix Go.Bas
set_option maxRecDepth 100000
end Go.Proofs.YtbojofchpnfnlaaGreat
