/- Strings of bytes: joined. -/
import Derived.Test.YthbllfhaaidhjaaBase
namespace Go.Bas
open Go Go.RowKit Go.Mix
theorem sb_app (a b : List UInt8) : sb a ++ sb b = sb (a ++ b) := by
  unfold sb
  apply ByteArray.ext
  simp
theorem sb_sz (a : List UInt8) : (sb a).size = a.length := by simp [sb, ByteArray.size]
end Go.Bas
