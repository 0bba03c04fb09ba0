/- Part Gx of the proof: laws used by the law of this claim. -/
import Derived.Test.YtbojofchpnfnlaaGreatGq
set_option linter.all false
namespace Go.Proofs.YtbojofchpnfnlaaGreat
open Go Go.Am Go.RowKit Go.Mix Go.Bas
set_option maxRecDepth 100000
/-! ### what it comes to -/
def rV (r : Bool) (x : List V) : List V := if r = true then x else []
end Go.Proofs.YtbojofchpnfnlaaGreat

namespace Go.Proofs.YtbojofchpnfnlaaGreat
open Go Go.Am Go.RowKit Go.Mix Go.Bas
set_option maxRecDepth 100000
end Go.Proofs.YtbojofchpnfnlaaGreat

namespace Go.Proofs.YtbojofchpnfnlaaGreat
open Go Go.Am Go.RowKit Go.Mix Go.Bas
set_option maxRecDepth 100000
end Go.Proofs.YtbojofchpnfnlaaGreat
