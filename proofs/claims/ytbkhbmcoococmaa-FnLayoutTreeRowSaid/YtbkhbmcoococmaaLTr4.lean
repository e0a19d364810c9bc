/-
  The laws over LayoutTree: FnLayoutTreeBlock.
-/
import Derived.Test.YtbkhbmcoococmaaTre
import Derived.Test.YtbkhbmcoococmaaAi
import Derived.Test.YtbkhbmcoococmaaAg
import Derived.Test.YtbkhbmcoococmaaAe
import Derived.Test.YtbkhbmcoococmaaAf
import Derived.Test.YtbkhbmcoococmaaNS
import Derived.Test.YtbkhbmcoococmaaLTr2
import Derived.Test.YtbkhbmcoococmaaLStyA
namespace Go.Proofs.Ytbkhbmcoococmaa
open Go Go.RowKit

theorem nH_in {l : List Bx} (hv : Valid l) {k : Nat} (hk : k < l.length) : nH l (k : Int) = (natS l k).2 := by
  unfold nH
  rw [if_pos (inB_iff.2 ⟨hv, by omega, by omega⟩), Int.toNat_natCast]
theorem nW_in {l : List Bx} (hv : Valid l) {k : Nat} (hk : k < l.length) : nW l (k : Int) = (natS l k).1 := by
  unfold nW
  rw [if_pos (inB_iff.2 ⟨hv, by omega, by omega⟩), Int.toNat_natCast]
end Go.Proofs.Ytbkhbmcoococmaa
