/-
  The small functions: ranges, boxes in order.
-/
import Derived.Test.YtdlggpphfkjidaaGreatDoorTree
namespace Go.Proofs.YtdlggpphfkjidaaGreatDoor
open Go Go.RowKit

set_option maxHeartbeats 400000 in
theorem within_any (a b c : Int) (w : World) :
    Calls Tryz.prog 35 #[.int .i64 a, .int .i64 b, .int .i64 c] w fun e w' => e = .returned (.bool (inR a b c)) ∧ w = w' := by
  go_enter Tryz.func35, Tryz.ntmps35
  by_cases h1 : b ≤ a
  · by_cases h2 : a ≤ c
    · go_wp2
      go_ret
      exact ⟨by simp [inR, h1, h2], rfl⟩
    · go_wp2
      go_ret
      exact ⟨by simp [inR, h2], rfl⟩
  · go_wp2
    go_ret
    exact ⟨by have h3 : ¬ b ≤ a := by omega
              simp [inR, h3], rfl⟩

set_option maxHeartbeats 400000 in
theorem inRange_any (a b c : Int) (w : World) :
    Calls Tryz.prog 53 #[.int .i64 a, .int .i64 b, .int .i64 c] w fun e w' => e = .returned (.bool (inR a b c)) ∧ w = w' := by
  go_enter Tryz.func53, Tryz.ntmps53
  by_cases h1 : b ≤ a
  · by_cases h2 : a ≤ c
    · go_wp2
      go_ret
      exact ⟨by simp [inR, h1, h2], rfl⟩
    · go_wp2
      go_ret
      exact ⟨by simp [inR, h2], rfl⟩
  · go_wp2
    go_ret
    exact ⟨by have h3 : ¬ b ≤ a := by omega
              simp [inR, h3], rfl⟩

theorem edgeOk_any (a : Int) (w : World) : Calls Tryz.prog 68 #[.int .i64 a] w fun e w' => e = .returned (.bool (inR a 0 50)) ∧ w = w' := by
  go_enter Tryz.func68, Tryz.ntmps68
  go_wp2_with (go_at_call 35; refine (within_any _ _ _ _).mono ?_; rintro e w' ⟨rfl, rfl⟩)
  go_ret
  exact ⟨rfl, rfl⟩
theorem justifyOk_any (a : Int) (w : World) : Calls Tryz.prog 69 #[.int .i64 a] w fun e w' => e = .returned (.bool (inR a 0 3)) ∧ w = w' := by
  go_enter Tryz.func69, Tryz.ntmps69
  go_wp2_with (go_at_call 35; refine (within_any _ _ _ _).mono ?_; rintro e w' ⟨rfl, rfl⟩)
  go_ret
  exact ⟨rfl, rfl⟩

abbrev Ext (w w' : World) : Prop := Below w.heap.size w w'

set_option maxHeartbeats 1000000 in
theorem styled_any (b : Bx) (w : World) : Calls Tryz.prog 36 #[b.agg] w fun e w' => e = .returned (.bool (okB b)) ∧ Ext w w' := by
  unfold Bx.agg
  go_enter Tryz.func36, Tryz.ntmps36
  by_cases hk : b.kind = 0
  · have hk' : (b.kind == 0) = true := by simp [hk]
    have Hk := Lib.hid hk
    clear hk
    go_wp2_with (first | (go_at_call 35; refine (within_any _ _ _ _).mono ?_; rintro e w' ⟨rfl, rfl⟩) | (go_at_call 68; refine (edgeOk_any _ _).mono ?_; rintro e w' ⟨rfl, rfl⟩) | (go_at_call 69; refine (justifyOk_any _ _).mono ?_; rintro e w' ⟨rfl, rfl⟩))
    all_goals
      go_ret
      exact ⟨by unfold okB; rw [show (if b.kind = 0 then (100 : Int) else 0) = 100 from by simp [Hk.out]]; simp [*], Below.of_alloc _ _⟩
  · have hk' : (b.kind == 0) = false := by simp [hk]
    have Hk := Lib.hid hk
    clear hk
    go_wp2_with (first | (go_at_call 35; refine (within_any _ _ _ _).mono ?_; rintro e w' ⟨rfl, rfl⟩) | (go_at_call 68; refine (edgeOk_any _ _).mono ?_; rintro e w' ⟨rfl, rfl⟩) | (go_at_call 69; refine (justifyOk_any _ _).mono ?_; rintro e w' ⟨rfl, rfl⟩))
    all_goals
      go_ret
      exact ⟨by unfold okB; rw [show (if b.kind = 0 then (100 : Int) else 0) = 0 from by simp [Hk.out]]; simp [*], Below.of_alloc _ _⟩

theorem okB_eq (b : Bx) : okB b = (inR b.kind 0 3 && inR b.w 0 100 && inR b.h 0 100 && inR b.pad 0 50 && inR b.gap 0 50 && inR b.grow 0 10 && inR b.shrink 0 10 && inR b.justify 0 3 && (b.kind == 0 || (b.w == 0 && b.h == 0))) := by
  unfold okB
  rw [Bool.eq_iff_iff]
  simp only [Bool.and_eq_true, Bool.or_eq_true, inR_iff, beq_iff_eq]
  by_cases hk : b.kind = 0
  · simp only [hk, if_true]
    constructor
    · rintro ⟨⟨⟨⟨⟨⟨⟨h1, h2⟩, h3⟩, h4⟩, h5⟩, h6⟩, h7⟩, h8⟩
      exact ⟨⟨⟨⟨⟨⟨⟨⟨h1, h2⟩, h3⟩, h4⟩, h5⟩, h6⟩, h7⟩, h8⟩, .inl trivial⟩
    · rintro ⟨⟨⟨⟨⟨⟨⟨⟨h1, h2⟩, h3⟩, h4⟩, h5⟩, h6⟩, h7⟩, h8⟩, _⟩
      exact ⟨⟨⟨⟨⟨⟨⟨h1, h2⟩, h3⟩, h4⟩, h5⟩, h6⟩, h7⟩, h8⟩
  · simp only [hk, if_false, false_or]
    constructor
    · rintro ⟨⟨⟨⟨⟨⟨⟨h1, h2⟩, h3⟩, h4⟩, h5⟩, h6⟩, h7⟩, h8⟩
      exact ⟨⟨⟨⟨⟨⟨⟨⟨h1, by omega⟩, by omega⟩, h4⟩, h5⟩, h6⟩, h7⟩, h8⟩, by omega, by omega⟩
    · rintro ⟨⟨⟨⟨⟨⟨⟨⟨h1, h2⟩, h3⟩, h4⟩, h5⟩, h6⟩, h7⟩, h8⟩, h9, h10⟩
      exact ⟨⟨⟨⟨⟨⟨⟨h1, by omega⟩, by omega⟩, h4⟩, h5⟩, h6⟩, h7⟩, h8⟩

set_option maxHeartbeats 1000000 in
theorem validBox_any (b : Bx) (w : World) : Calls Tryz.prog 52 #[b.agg] w fun e w' => e = .returned (.bool (okB b)) ∧ Ext w w' := by
  unfold Bx.agg
  go_enter Tryz.func52, Tryz.ntmps52
  go_wp2_with (first | (go_at_call 53; refine (inRange_any _ _ _ _).mono ?_; rintro e w' ⟨rfl, rfl⟩))
  all_goals
    go_ret
    refine ⟨?_, Below.of_alloc _ _⟩
    rw [okB_eq]
    generalize inR b.kind 0 3 = p1 at *
    generalize inR b.w 0 100 = p2 at *
    generalize inR b.h 0 100 = p3 at *
    generalize inR b.justify 0 3 = p4 at *
    simp_all

end Go.Proofs.YtdlggpphfkjidaaGreatDoor
