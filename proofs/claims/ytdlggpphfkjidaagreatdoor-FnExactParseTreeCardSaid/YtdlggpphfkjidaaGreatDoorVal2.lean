/-
  impl.ValidTree answers vldB.
-/
import Derived.Test.YtdlggpphfkjidaaGreatDoorVal
namespace Go.Proofs.YtdlggpphfkjidaaGreatDoor
open Go Go.RowKit

theorem vld_len {l : List Bx} (h : ¬ (1 ≤ l.length ∧ l.length ≤ 16)) : vldB l = false := by
  rw [Bool.eq_false_iff]
  intro hv
  have hv := vldB_iff.1 hv
  exact h ⟨hv.lo, hv.hi⟩
theorem vld_root {l : List Bx} (h : ¬ par l 0 = -1) : vldB l = false := by
  rw [Bool.eq_false_iff]
  intro hv
  exact h (vldB_iff.1 hv).root

set_option maxHeartbeats 1000000 in
theorem ValidTree_any {v : Value} {l : List Bx} (w : World) (hv : Rd w 9 v (Bs l)) :
    Calls Tryz.prog 16 #[v] w fun e w' => e = .returned (.bool (vldB l)) ∧ Ext w w' := by
  by_cases h : 1 ≤ l.length ∧ l.length ≤ 16
  · by_cases h0 : par l 0 = -1
    · exact vt_long w hv h.2 h.1 h0
    · obtain ⟨a, c, rfl, hn, hc, hcell⟩ := hv.boxes
      unfold maxLen at hc
      obtain ⟨b, off, rfl, hbl, hC⟩ := hcell 0 _ (bx_get (by omega))
      have hp0 : ((bx l 0).parent != -1) = true := by simpa [par] using h0
      have hin : inR (l.length : Int) 1 16 = true := by rw [inR_iff]; omega
      obtain ⟨c00, _⟩ := hC 0 _ (bx_get (by omega))
      have H0 := Lib.hid h0
      have hl0 : 0 < l.length := by omega
      simp only [Nat.zero_mul, Nat.add_zero] at c00
      clear hcell hC h0 h hv
      go_enter Tryz.func16, Tryz.ntmps16
      go_wp2_with (go_at_call 35; refine (within_any _ _ _ _).mono ?_; rintro e w' ⟨rfl, rfl⟩)
      go_ret
      exact ⟨by rw [vld_root H0.out]; rfl, Below.refl _ _⟩
  · obtain ⟨a, c, rfl, hn, hc, hcell⟩ := hv.boxes
    unfold maxLen at hc
    have hin : inR (l.length : Int) 1 16 = false := by rw [inR_no]; omega
    have H := Lib.hid h
    clear hcell h hv
    go_enter Tryz.func16, Tryz.ntmps16
    go_wp2_with (go_at_call 35; refine (within_any _ _ _ _).mono ?_; rintro e w' ⟨rfl, rfl⟩)
    go_ret
    exact ⟨by rw [vld_len H.out]; rfl, Below.refl _ _⟩
end Go.Proofs.YtdlggpphfkjidaaGreatDoor
