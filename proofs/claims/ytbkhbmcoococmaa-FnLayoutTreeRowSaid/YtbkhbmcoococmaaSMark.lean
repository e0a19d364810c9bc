/-
  Dirty boxes of the reference: roots, covered, DirtyRoots, DirtyBoxes.
-/
import Derived.Test.YtbkhbmcoococmaaAg
namespace Go.Proofs.Ytbkhbmcoococmaa
open Go Go.RowKit

theorem all_take_succ {l : List Int} {P : Int → Bool} {q : Nat} {m : Int} (hm : l[q]? = some m) : (l.take (q + 1)).all P = ((l.take q).all P && P m) := by
  rw [List.take_add_one, hm, List.all_append]
  simp
theorem any_take_step {l : List Int} {P : Int → Bool} {q : Nat} {m : Int} (hm : l[q]? = some m) : (l.take (q + 1)).any P = ((l.take q).any P || P m) := by
  rw [List.take_add_one, hm, List.any_append]
  simp

end Go.Proofs.Ytbkhbmcoococmaa
