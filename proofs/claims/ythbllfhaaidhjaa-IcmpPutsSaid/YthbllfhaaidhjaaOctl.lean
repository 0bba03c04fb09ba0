/- The example of layer 1, and the laws' walks: Reads. -/
import Derived.Test.YthbllfhaaidhjaaOctc
import Derived.Test.YthbllfhaaidhjaaFrame
namespace Go.Proofs.Ythbllfhaaidhjaa
open Go.RowKit Go.Mix Go.Bas

end Go.Proofs.Ythbllfhaaidhjaa
