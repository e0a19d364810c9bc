/-
  The laws' own comparisons, of lists that are the same: equalBoxes.
-/
import Derived.Test.YtdlggpphfkjidaaGreatDoorEdit
import Derived.Deep.QuietTactic
import Derived.BigQuiet
namespace Go.Proofs.YtdlggpphfkjidaaGreatDoor
open Go Go.RowKit

theorem below_drewN {B : Nat} {w w' : World} (h : Below B w w') (n : Nat) : Below B w (w'.drewN n) := ⟨h.os, h.tape, h.output, h.size, h.block⟩
theorem rd_drewN {w : World} {size : Nat} {v : Value} {xs : List Value} (h : Rd w size v xs) (n : Nat) : Rd (w.drewN n) size v xs := h

set_option maxRecDepth 100000 in
set_option maxHeartbeats 2000000 in
theorem equalBoxes_any {v u : Value} {l : List Bx} (w : World) (hv : Rd w 9 v (Bs l)) (hu : Rd w 9 u (Bs l)) :
    Calls Tryz.prog 10 #[v, u] w fun e w' => e = .returned (.bool true) ∧ Ext w w' := by
  obtain ⟨a, c, rfl, hn, hc, hC⟩ := hv.boxes
  obtain ⟨a2, c2, rfl, hn2, hc2, hD⟩ := hu.boxes
  unfold maxLen at hc hc2
  have HC := Lib.hid hC
  have HD := Lib.hid hD
  clear hC hD hv hu
  go_enter Tryz.func10, Tryz.ntmps10
  go_wp2
  go_loopw [5] (fun i' wr => ∃ k : Nat, i' = .int .i64 k ∧ k ≤ l.length ∧ Below w.heap.size w wr) (fun i' _ => l.length - (intOf i').toNat)
  case atStart => exact ⟨0, rfl, Nat.zero_le _, Below.refl _ _⟩
  case round =>
    obtain ⟨k, rfl, hk, hbk⟩ := hrel
    by_cases hlt : k < l.length
    · obtain ⟨b, off, rfl, hbl, hCC⟩ := HC.out k _ (bx_get hlt)
      obtain ⟨b2, off2, rfl, hbl2, hDD⟩ := HD.out k _ (bx_get hlt)
      obtain ⟨c0, c1, c2, c3, c4, c5, c6, c7, c8⟩ := (hCC k _ (bx_get hlt)).below hbk hbl
      obtain ⟨d0, d1, d2, d3, d4, d5, d6, d7, d8⟩ := (hDD k _ (bx_get hlt)).below hbk hbl2
      clear hCC hDD
      have hlti : (k : Int) < l.length := by omega
      have hk0 : (0 : Int) ≤ (k : Int) := by omega
      go_wp2
      go_quiet (fail)
      go_wp2
      go_roundw
      case rel => exact ⟨k + 1, by go_num, by omega, below_drewN hbk _⟩
      case measure => simp [intOf]; omega
    · obtain rfl : k = l.length := by omega
      go_wp2
      go_ret
      exact ⟨rfl, hbk⟩
end Go.Proofs.YtdlggpphfkjidaaGreatDoor
