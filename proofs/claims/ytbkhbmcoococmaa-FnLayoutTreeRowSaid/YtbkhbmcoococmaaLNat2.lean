/-
  The laws FnNaturalSizeRow and FnNaturalSizePad: the walks.
-/
import Derived.Test.YtbkhbmcoococmaaAg
import Derived.IntWalk
import Derived.Deep.DeepCutAuto
namespace Go.Proofs.Ytbkhbmcoococmaa
open Go Go.RowKit

theorem ni_back {r : List Nat} {k m : Nat} (h : (ni r)[k]? = some ((m : Nat) : Int)) : r[k]? = some m := by
  unfold ni at h
  rw [List.getElem?_map] at h
  cases hq : r[k]? with
  | none => rw [hq] at h; cases h
  | some y =>
    rw [hq] at h
    simp only [Option.map_some, Option.some.injEq] at h
    congr 1
    omega
end Go.Proofs.Ytbkhbmcoococmaa
