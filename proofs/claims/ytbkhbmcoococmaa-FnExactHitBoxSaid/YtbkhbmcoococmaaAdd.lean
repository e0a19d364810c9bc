/-
  AddBox of the program.
-/
import Derived.Test.YtbkhbmcoococmaaRem
import Derived.Test.YtbkhbmcoococmaaAg
namespace Go.Proofs.Ytbkhbmcoococmaa
open Go Go.RowKit

/-- what every world of the region keeps: old memory, and the local box -/
def S2 (w : World) (B : Nat) (o : Obj) (W : World) (w' : World) : Prop := Below w.heap.size w w' ∧ W.heap.size ≤ w'.heap.size ∧ Keep B o w'
theorem S2.ext {w W w1 w2 : World} {B : Nat} {o : Obj} (h : S2 w B o W w1) (hx : Ext w1 w2) : S2 w B o W w2 :=
  ⟨after h.1 hx (Nat.le_refl _), Nat.le_trans h.2.1 hx.size, by unfold Keep; rw [hx.block _ h.2.2.lt]; exact h.2.2⟩
theorem S2.alloc {w W w1 : World} {B : Nat} {o : Obj} (h : S2 w B o W w1) (o' : Obj) : S2 w B o W (w1.alloc o') := h.ext (Below.of_alloc _ _)

end Go.Proofs.Ytbkhbmcoococmaa
