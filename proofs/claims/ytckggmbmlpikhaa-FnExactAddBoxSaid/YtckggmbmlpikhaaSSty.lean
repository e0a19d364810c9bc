/-
  spec.StyleBox.
-/
import Derived.Test.YtckggmbmlpikhaaEdit
import Derived.Test.YtckggmbmlpikhaaSVal
import Derived.Test.YtckggmbmlpikhaaAny
namespace Go.Proofs.Ytckggmbmlpikhaa
open Go Go.RowKit

end Go.Proofs.Ytckggmbmlpikhaa
