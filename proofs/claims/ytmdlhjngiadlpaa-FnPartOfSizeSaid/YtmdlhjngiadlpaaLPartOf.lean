/-
  The laws FnPartOf and FnPartOfPart: the walks.
-/
import Derived.Test.YtmdlhjngiadlpaaPart
import Derived.Test.YtmdlhjngiadlpaaDraw
namespace Go.Proofs.Ytmdlhjngiadlpaa
open Go Go.RowKit

set_option maxHeartbeats 1000000 in
theorem DrawPartOf_any {v : Value} (w : World) (hv : RdBytes w v) :
    Calls Try.prog 30 #[v] w fun e w' => ∃ (v' : Value) (i : Int), e = .returned (.tuple #[v', .int .i64 i]) ∧ ∃ l : List Bx, l.length ≤ 16 ∧ -1 ≤ i ∧ i ≤ 16 ∧ Own w' w.heap.size 9 v' (Bs l) ∧ Ext w w' := by
  go_enter Try.func30, Try.ntmps30
  go_wp2_with (fail)
  refine (DrawKidsOf_any _ hv).mono ?_
  rintro e w1 ⟨v1, i, rfl, l, hl, h0, h1, ho, hx⟩
  go_wp2
  go_ret2
  exact ⟨_, i, rfl, l, hl, h0, h1, ho, hx⟩

theorem cnt_part {l : List Bx} {i : Nat} (h : inB l (i : Int) = true) : ((partL l i).length : Int) = cntI l (i : Int) := by
  unfold cntI
  rw [if_pos h, partL_length]
  rfl

end Go.Proofs.Ytmdlhjngiadlpaa
