/-
  The law FnFitsInMore: the walk.
-/
import Derived.Test.YtedheddfalmjmaaFit
namespace Go.Proofs.Ytedheddfalmjmaa
open Go Go.RowKit

theorem fitS_more {l : List Bx} {a b a' b' : Int} (h : fitS l a b = true) (ha : a ≤ a') (hb : b ≤ b') : fitS l a' b' = true := by
  unfold fitS at h ⊢
  simp only [Bool.and_eq_true, decide_eq_true_eq] at h ⊢
  exact ⟨h.1, by omega, by omega⟩

set_option maxHeartbeats 2000000 in
theorem FnFitsInMore_any {v : Value} (w : World) (hv : RdBytes w v) :
    Calls Try.prog 3 #[v] w fun e w' => e = .returned (.bool true) ∧ Ext w w' := by
  have hv2 := hv
  obtain ⟨ad, n, c, rfl, hn, hc, _⟩ := hv
  unfold maxLen at hc
  by_cases hlen : 1048576 < n
  · have hlen' : (1048576 : Int) < n := by omega
    go_enter Try.func3, Try.ntmps3
    go_wp2
    go_ret
    exact ⟨rfl, Below.refl _ _⟩
  · have hlen' : ¬ ((1048576 : Int) < n) := by omega
    go_enter Try.func3, Try.ntmps3
    go_wp2_with (fail)
    refine (DrawFitsIn_any _ hv2).mono ?_
    rintro e w1 ⟨v1, a, b, rfl, l, hl, ha0, ha1, hb0, hb1, ho1, hx1⟩
    have hr1 := ho1.rd
    clear ho1 hv2
    go_wp2_with (fail)
    refine (FitsIn_any (l := l) a b _ hr1).mono ?_
    rintro e w2 ⟨rfl, hx2⟩
    have hb2 := after hx1 hx2 (Nat.le_refl _)
    have hr2 := hr1.below hx2 (Nat.le_refl _)
    clear hx1 hx2 hr1
    by_cases h : fitS l a b = true
    · have h2 := fitS_more h (Int.le_refl a) (show b ≤ b + 5 by omega)
      have h1 := fitS_more h (show a ≤ a + 5 by omega) (Int.le_refl b)
      rw [h]
      go_wp2_with (fail)
      refine (sFitsIn_any (l := l) a b _ hr2 (by omega)).mono ?_
      rintro e w3 ⟨he, hx3⟩
      rw [h] at he
      subst he
      have hb3 := after hb2 hx3 (Nat.le_refl _)
      have hr3 := hr2.below hx3 (Nat.le_refl _)
      clear hx3 hb2 hr2
      go_wp2_with (fail)
      refine (FitsIn_any (l := l) (a + 5) b _ hr3).mono ?_
      rintro e w4 ⟨he, hx4⟩
      rw [h1] at he
      subst he
      have hb4 := after hb3 hx4 (Nat.le_refl _)
      have hr4 := hr3.below hx4 (Nat.le_refl _)
      clear hx4 hb3 hr3
      go_wp2_with (fail)
      refine (FitsIn_any (l := l) a (b + 5) _ hr4).mono ?_
      rintro e w5 ⟨he, hx5⟩
      rw [h2] at he
      subst he
      have hb5 := after hb4 hx5 (Nat.le_refl _)
      go_wp2
      go_ret
      exact ⟨rfl, hb5⟩
    · have h' : fitS l a b = false := by simpa using h
      rw [h']
      go_wp2_with (fail)
      refine (sFitsIn_any (l := l) a b _ hr2 (by omega)).mono ?_
      rintro e w3 ⟨he, hx3⟩
      rw [h'] at he
      subst he
      have hb3 := after hb2 hx3 (Nat.le_refl _)
      have hr3 := hr2.below hx3 (Nat.le_refl _)
      clear hx3 hb2 hr2
      go_wp2_with (fail)
      refine (sFitsIn_any (l := l) a b _ hr3 (by omega)).mono ?_
      rintro e w4 ⟨he, hx4⟩
      rw [h'] at he
      subst he
      have hb4 := after hb3 hx4 (Nat.le_refl _)
      go_wp2
      go_ret
      exact ⟨rfl, hb4⟩
end Go.Proofs.Ytedheddfalmjmaa
