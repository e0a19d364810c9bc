/-
  The law FnFitsIn: the walk.
-/
import Derived.Test.YtedheddfalmjmaaFit
import Derived.Test.YtedheddfalmjmaaNS
namespace Go.Proofs.Ytedheddfalmjmaa
open Go Go.RowKit

theorem fitS_in {l : List Bx} (h : inB l 0 = true) (a b : Int) : fitS l a b = (decide (nW l 0 ≤ a) && decide (nH l 0 ≤ b)) := by
  unfold fitS nW nH
  rw [h, vldB_iff.2 (inB_iff.1 h).1]
  rfl

set_option maxHeartbeats 2000000 in
theorem FnFitsIn_any {v : Value} (w : World) (hv : RdBytes w v) :
    Calls Try.prog 6 #[v] w fun e w' => e = .returned (.bool true) ∧ Ext w w' := by
  have hv2 := hv
  obtain ⟨ad, n, c, rfl, hn, hc, _⟩ := hv
  unfold maxLen at hc
  by_cases hlen : 1048576 < n
  · have hlen' : (1048576 : Int) < n := by omega
    go_enter Try.func6, Try.ntmps6
    go_wp2
    go_ret
    exact ⟨rfl, Below.refl _ _⟩
  · have hlen' : ¬ ((1048576 : Int) < n) := by omega
    go_enter Try.func6, Try.ntmps6
    go_wp2_with (fail)
    refine (DrawFitsIn_any _ hv2).mono ?_
    rintro e w1 ⟨v1, a, b, rfl, l, hl, ha0, ha1, hb0, hb1, ho1, hx1⟩
    have hr1 := ho1.rd
    clear ho1 hv2
    go_wp2_with (fail)
    refine (FitsIn_any (l := l) a b _ hr1).mono ?_
    rintro e w2 ⟨rfl, hx2⟩
    have hb2 := after hx1 hx2 (Nat.le_refl _)
    have hr2 := hr1.below hx2 (Nat.le_refl _)
    clear hx1 hx2 hr1
    go_wp2_with (fail)
    refine (NaturalSize_any (l := l) 0 _ hr2).mono ?_
    rintro e w3 ⟨rfl, hx3⟩
    have hb3 := after hb2 hx3 (Nat.le_refl _)
    have hr3 := hr2.below hx3 (Nat.le_refl _)
    clear hx3 hb2 hr2
    by_cases hok : inB l 0 = true
    · have F := Lib.hid (fitS_in hok)
      have hsz := natS_sz (inB_iff.1 hok).1 (i := 0) (by have := (inB_iff.1 hok).1.lo; omega)
      have hw0 : -1 ≤ nW l 0 ∧ nW l 0 ≤ 1000000000000000000 := by
        unfold nW
        rw [if_pos hok]
        have h0 : (0 : Int).toNat = 0 := rfl
        rw [h0]
        obtain ⟨z1, z2, z3, z4⟩ := hsz
        omega
      have hh0 : -1 ≤ nH l 0 ∧ nH l 0 ≤ 1000000000000000000 := by
        unfold nH
        rw [if_pos hok]
        have h0 : (0 : Int).toNat = 0 := rfl
        rw [h0]
        obtain ⟨z1, z2, z3, z4⟩ := hsz
        omega
      have t1 : fitS l (nW l 0) (nH l 0) = true := by rw [F.out]; simp
      have t2 : fitS l (nW l 0 - 1) (nH l 0) = false := by rw [F.out, decide_eq_false (by omega)]; rfl
      have t3 : fitS l (nW l 0) (nH l 0 - 1) = false := by rw [F.out, decide_eq_false (show ¬ nH l 0 ≤ nH l 0 - 1 by omega), Bool.and_false]
      have tf : ∀ t, fitS l a b = t → Hid (fitS l a b = t) := fun t h => h
      rw [hok]
      generalize hW : nW l 0 = W at *
      generalize hH : nH l 0 = H at *
      clear hsz hok hW hH
      by_cases h1 : W ≤ a
      · by_cases h2 : H ≤ b
        · have t0 : fitS l a b = true := by rw [F.out, decide_eq_true h1, decide_eq_true h2]; rfl
          have hd2 : decide (H ≤ b) = true := decide_eq_true h2
          rw [t0]
          go_wp2_with (fail)
          refine (sFitsIn_any (l := l) a b _ hr3 (by omega)).mono ?_
          rintro e w4 ⟨he, hx4⟩
          rw [t0] at he
          subst he
          have hb4 := after hb3 hx4 (Nat.le_refl _)
          have hr4 := hr3.below hx4 (Nat.le_refl _)
          clear hx4 hb3 hr3
          go_wp2_with (fail)
          refine (FitsIn_any (l := l) W H _ hr4).mono ?_
          rintro e w5 ⟨he, hx5⟩
          rw [t1] at he
          subst he
          have hb5 := after hb4 hx5 (Nat.le_refl _)
          have hr5 := hr4.below hx5 (Nat.le_refl _)
          clear hx5 hb4 hr4
          go_wp2_with (fail)
          refine (FitsIn_any (l := l) (W - 1) H _ hr5).mono ?_
          rintro e w6 ⟨he, hx6⟩
          rw [t2] at he
          subst he
          have hb6 := after hb5 hx6 (Nat.le_refl _)
          have hr6 := hr5.below hx6 (Nat.le_refl _)
          clear hx6 hb5 hr5
          go_wp2_with (fail)
          refine (FitsIn_any (l := l) W (H - 1) _ hr6).mono ?_
          rintro e w7 ⟨he, hx7⟩
          rw [t3] at he
          subst he
          have hb7 := after hb6 hx7 (Nat.le_refl _)
          have hr7 := hr6.below hx7 (Nat.le_refl _)
          clear hx7 hb6 hr6
          go_wp2
          go_ret
          exact ⟨rfl, hb7⟩
        · have t0 : fitS l a b = false := by rw [F.out, decide_eq_false h2, Bool.and_false]
          have hd2 : decide (H ≤ b) = false := decide_eq_false h2
          rw [t0]
          go_wp2_with (fail)
          refine (sFitsIn_any (l := l) a b _ hr3 (by omega)).mono ?_
          rintro e w4 ⟨he, hx4⟩
          rw [t0] at he
          subst he
          have hb4 := after hb3 hx4 (Nat.le_refl _)
          have hr4 := hr3.below hx4 (Nat.le_refl _)
          clear hx4 hb3 hr3
          go_wp2_with (fail)
          refine (FitsIn_any (l := l) W H _ hr4).mono ?_
          rintro e w5 ⟨he, hx5⟩
          rw [t1] at he
          subst he
          have hb5 := after hb4 hx5 (Nat.le_refl _)
          have hr5 := hr4.below hx5 (Nat.le_refl _)
          clear hx5 hb4 hr4
          go_wp2_with (fail)
          refine (FitsIn_any (l := l) (W - 1) H _ hr5).mono ?_
          rintro e w6 ⟨he, hx6⟩
          rw [t2] at he
          subst he
          have hb6 := after hb5 hx6 (Nat.le_refl _)
          have hr6 := hr5.below hx6 (Nat.le_refl _)
          clear hx6 hb5 hr5
          go_wp2_with (fail)
          refine (FitsIn_any (l := l) W (H - 1) _ hr6).mono ?_
          rintro e w7 ⟨he, hx7⟩
          rw [t3] at he
          subst he
          have hb7 := after hb6 hx7 (Nat.le_refl _)
          have hr7 := hr6.below hx7 (Nat.le_refl _)
          clear hx7 hb6 hr6
          go_wp2
          go_ret
          exact ⟨rfl, hb7⟩
      · have t0 : fitS l a b = false := by rw [F.out, decide_eq_false h1]; rfl
        rw [t0]
        go_wp2_with (fail)
        refine (sFitsIn_any (l := l) a b _ hr3 (by omega)).mono ?_
        rintro e w4 ⟨he, hx4⟩
        rw [t0] at he
        subst he
        have hb4 := after hb3 hx4 (Nat.le_refl _)
        have hr4 := hr3.below hx4 (Nat.le_refl _)
        clear hx4 hb3 hr3
        go_wp2_with (fail)
        refine (FitsIn_any (l := l) W H _ hr4).mono ?_
        rintro e w5 ⟨he, hx5⟩
        rw [t1] at he
        subst he
        have hb5 := after hb4 hx5 (Nat.le_refl _)
        have hr5 := hr4.below hx5 (Nat.le_refl _)
        clear hx5 hb4 hr4
        go_wp2_with (fail)
        refine (FitsIn_any (l := l) (W - 1) H _ hr5).mono ?_
        rintro e w6 ⟨he, hx6⟩
        rw [t2] at he
        subst he
        have hb6 := after hb5 hx6 (Nat.le_refl _)
        have hr6 := hr5.below hx6 (Nat.le_refl _)
        clear hx6 hb5 hr5
        go_wp2_with (fail)
        refine (FitsIn_any (l := l) W (H - 1) _ hr6).mono ?_
        rintro e w7 ⟨he, hx7⟩
        rw [t3] at he
        subst he
        have hb7 := after hb6 hx7 (Nat.le_refl _)
        have hr7 := hr6.below hx7 (Nat.le_refl _)
        clear hx7 hb6 hr6
        go_wp2
        go_ret
        exact ⟨rfl, hb7⟩
    · have hok' : inB l 0 = false := by simpa using hok
      rw [hok']
      clear hok
      generalize ht : fitS l a b = t
      cases t
      · go_wp2_with (fail)
        refine (sFitsIn_any (l := l) a b _ hr3 (by omega)).mono ?_
        rintro e w4 ⟨he, hx4⟩
        rw [ht] at he
        subst he
        have hb4 := after hb3 hx4 (Nat.le_refl _)
        have hr4 := hr3.below hx4 (Nat.le_refl _)
        clear hx4 hb3 hr3
        go_wp2_with (fail)
        refine (sFitsIn_any (l := l) a b _ hr4 (by omega)).mono ?_
        rintro e w5 ⟨he, hx5⟩
        rw [ht] at he
        subst he
        have hb5 := after hb4 hx5 (Nat.le_refl _)
        go_wp2
        go_ret
        exact ⟨rfl, hb5⟩
      · go_wp2_with (fail)
        refine (sFitsIn_any (l := l) a b _ hr3 (by omega)).mono ?_
        rintro e w4 ⟨he, hx4⟩
        rw [ht] at he
        subst he
        have hb4 := after hb3 hx4 (Nat.le_refl _)
        have hr4 := hr3.below hx4 (Nat.le_refl _)
        clear hx4 hb3 hr3
        go_wp2_with (fail)
        refine (sFitsIn_any (l := l) a b _ hr4 (by omega)).mono ?_
        rintro e w5 ⟨he, hx5⟩
        rw [ht] at he
        subst he
        have hb5 := after hb4 hx5 (Nat.le_refl _)
        go_wp2
        go_ret
        exact ⟨rfl, hb5⟩
end Go.Proofs.Ytedheddfalmjmaa
