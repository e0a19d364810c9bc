/-
  The laws FnStyleBoxSame, FnStyleBox and FnNaturalSizePad: the walks.
-/
import Derived.Test.YtbkhbmcoococmaaLNat2
import Derived.Test.YtbkhbmcoococmaaAb
namespace Go.Proofs.Ytbkhbmcoococmaa
open Go Go.RowKit

theorem orNo_t (l : List Bx) : orNo true l = l := rfl
theorem orNo_f (l : List Bx) : orNo false l = [] := rfl
end Go.Proofs.Ytbkhbmcoococmaa
