/-
  The laws FnRemoveBox and FnRemoveBoxOrder: the walks.
-/
import Derived.Test.YtckggmbmlpikhaaRem
import Derived.Test.YtckggmbmlpikhaaInts
import Derived.Test.YtckggmbmlpikhaaLStyA
namespace Go.Proofs.Ytckggmbmlpikhaa
open Go Go.RowKit

set_option maxHeartbeats 1000000 in
theorem DrawRemoveBox_any {v : Value} (w : World) (hv : RdBytes w v) :
    Calls Try.prog 25 #[v] w fun e w' => ∃ (v' : Value) (i : Int), e = .returned (.tuple #[v', .int .i64 i]) ∧ ∃ l : List Bx, l.length ≤ 16 ∧ -1 ≤ i ∧ i ≤ 16 ∧ Own w' w.heap.size 9 v' (Bs l) ∧ Ext w w' := by
  go_enter Try.func25, Try.ntmps25
  go_wp2_with (fail)
  refine (DrawKidsOf_any _ hv).mono ?_
  rintro e w1 ⟨v1, i, rfl, l, hl, h0, h1, ho, hx⟩
  go_wp2
  go_ret2
  exact ⟨_, i, rfl, l, hl, h0, h1, ho, hx⟩

theorem rem_take {l : List Bx} {a : Nat} (ha : a < l.length) : (remL l a).take a = l.take a := by
  unfold remL
  rw [List.take_append_of_le_length (by rw [List.length_take]; omega), List.take_take, Nat.min_self]
theorem rem_hi {l : List Bx} {a k : Nat} (ha : a < l.length) (h1 : a ≤ k) (hk : k < (remL l a).length) : bx (remL l a) k = (bx l (k + cntS l a)).at (par (remL l a) k) := by
  obtain ⟨p, hp⟩ := rem_sty ha hk
  have e : remF l a k = k + cntS l a := if_neg (by omega)
  rw [e] at hp
  unfold par
  rw [hp]
  rfl

end Go.Proofs.Ytckggmbmlpikhaa
