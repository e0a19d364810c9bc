/-
  The cells of a box in a list; a block kept.
-/
import Derived.Test.YtdlggpphfkjidaaGreatDoorBx
import Derived.Test.YtdlggpphfkjidaaGreatDoorPath
namespace Go.Proofs.YtdlggpphfkjidaaGreatDoor
open Go Go.RowKit

theorem keepE {k : Nat} {o : Obj} {w w' : World} (h : Keep k o w) (hx : Ext w w') : Keep k o w' := by
  unfold Keep
  rw [hx.block _ h.lt]
  exact h
theorem cells_at {w : World} {b off c : Nat} {l : List Bx} {i : Nat} (hi : i < l.length) (h : Rd w 9 (.slice (some ⟨b, off, none⟩) l.length c) (Bs l)) : Cells9 w b (off + i * 9) (bx l i) := by
  obtain ⟨a', c', e', _, _, hC⟩ := h.boxes
  cases e'
  obtain ⟨b', off', e', _, hC⟩ := hC i _ (bx_get hi)
  cases e'
  exact hC i _ (bx_get hi)
theorem rd_addr {w : World} {v : Value} {l : List Bx} {i : Nat} (hi : i < l.length) (h : Rd w 9 v (Bs l)) : ∃ b off c, v = .slice (some ⟨b, off, none⟩) l.length c ∧ l.length ≤ c ∧ c ≤ 9223372036854775807 := by
  obtain ⟨a, c, rfl, hn, hc, hC⟩ := h.boxes
  unfold maxLen at hc
  obtain ⟨b, off, rfl, _⟩ := hC i _ (bx_get hi)
  exact ⟨b, off, c, rfl, hn, hc⟩
end Go.Proofs.YtdlggpphfkjidaaGreatDoor
