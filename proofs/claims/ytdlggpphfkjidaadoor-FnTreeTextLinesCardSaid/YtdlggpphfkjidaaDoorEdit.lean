/-
  impl: boxIn, made, Clone, StyleBox.
-/
import Derived.Test.YtdlggpphfkjidaaDoorVal2
import Derived.Test.YtdlggpphfkjidaaDoorBx
namespace Go.Proofs.YtdlggpphfkjidaaDoor
open Go Go.RowKit

theorem el_box : EL Tryd.prog 23 27 (.agg #[.int .i64 0, .int .i64 0, .int .i64 0, .int .i64 0, .int .i64 0, .int .i64 0, .int .i64 0, .int .i64 0, .int .i64 0]) 9 72 :=
  ⟨by kernel_rfl, info_parts (by kernel_rfl), rfl, by decide, by decide⟩

/-- a valid tree and a number of one of its boxes -/
def inB (l : List Bx) (i : Int) : Bool := vldB l && inR i 0 ((l.length : Int) - 1)
theorem inB_iff {l : List Bx} {i : Int} : inB l i = true ↔ Valid l ∧ 0 ≤ i ∧ i < l.length := by
  unfold inB
  rw [Bool.and_eq_true, vldB_iff, inR_iff]
  constructor
  · rintro ⟨h, h1, h2⟩; exact ⟨h, h1, by omega⟩
  · rintro ⟨h, h1, h2⟩; exact ⟨h, h1, by omega⟩


/-- what 'made' hands back: the tree, or nothing -/
def orNo (ok : Bool) (l : List Bx) : List Bx := if ok then l else []



end Go.Proofs.YtdlggpphfkjidaaDoor
