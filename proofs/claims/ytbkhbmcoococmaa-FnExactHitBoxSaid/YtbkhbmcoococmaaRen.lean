/-
  impl: renumbered; slices: Grow, Concat of boxes.
-/
import Derived.Test.YtbkhbmcoococmaaPart
import Derived.Lib.AppendZerosOnto
namespace Go.Proofs.Ytbkhbmcoococmaa
open Go Go.RowKit



end Go.Proofs.Ytbkhbmcoococmaa
