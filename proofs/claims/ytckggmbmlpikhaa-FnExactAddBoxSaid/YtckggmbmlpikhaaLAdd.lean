/-
  The laws FnAddBoxLeaf, FnAddBoxCount, FnAddBox, FnAddBoxSize: the walks.
-/
import Derived.Test.YtckggmbmlpikhaaAdd
import Derived.Test.YtckggmbmlpikhaaTree2
import Derived.Test.YtckggmbmlpikhaaInts
import Derived.Test.YtckggmbmlpikhaaLStyA
namespace Go.Proofs.Ytckggmbmlpikhaa
open Go Go.RowKit

theorem addOk_in {l : List Bx} {i : Int} {x : Bx} (h : addOk l i x = true) : inB l i = true ∧ vldB (addL l i.toNat x) = true := by
  unfold addOk at h
  simpa [Bool.and_eq_true] using h

end Go.Proofs.Ytckggmbmlpikhaa
