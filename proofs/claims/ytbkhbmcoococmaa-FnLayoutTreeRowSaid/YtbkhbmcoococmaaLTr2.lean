/-
  The laws over LayoutTree: FnLayoutTreeOrder.
-/
import Derived.Test.YtbkhbmcoococmaaTre
import Derived.Test.YtbkhbmcoococmaaAi
import Derived.Test.YtbkhbmcoococmaaAg
import Derived.Test.YtbkhbmcoococmaaAe
import Derived.Test.YtbkhbmcoococmaaAj
import Derived.Test.YtbkhbmcoococmaaAf
import Derived.Test.YtbkhbmcoococmaaLStyA
namespace Go.Proofs.Ytbkhbmcoococmaa
open Go Go.RowKit

theorem kids_valid {l : List Bx} (hv : Valid l) {p : Nat} (hp : p < l.length) : kidsL l (p : Int) = kid l (p : Int) := by
  unfold kidsL
  rw [if_pos (inB_iff.2 ⟨hv, by omega, by omega⟩)]
end Go.Proofs.Ytbkhbmcoococmaa
