/-
  The law FnExactHitBox: the walk.
-/
import Derived.Test.YtbkhbmcoococmaaEx
import Derived.Test.YtbkhbmcoococmaaHitI
namespace Go.Proofs.Ytbkhbmcoococmaa
open Go Go.RowKit

set_option maxRecDepth 100000 in
set_option maxHeartbeats 4000000 in
theorem FnExactHitBox_any {v : Value} {l : List Bx} (sw sh x y : Int) (w : World) (hv : Rd w 9 v (Bs l)) :
    Calls Try.prog 4 #[v, .int .i64 sw, .int .i64 sh, .int .i64 x, .int .i64 y] w fun e w' => e = .returned (.bool true) ∧ Ext w w' := by
  have hv0 := hv
  obtain ⟨ad, c, rfl, hn, hc, _⟩ := hv.boxes
  unfold maxLen at hc
  clear hv
  by_cases hlen : l.length ≤ 1048576
  · have hL7 : l.length ≤ 1048577 := by omega
    go_enter Try.func4, Try.ntmps4
    go_wp2_with (fail)
    refine (szBoxS_any (l := l) _ hv0).mono ?_
    rintro e w0 ⟨r, rfl, hr, rfl⟩
    have hr0 : 0 ≤ r := by omega
    clear hr
    go_wp2_with (fail)
    refine (toBoxS_any (l := l) _ hv0 hL7).mono ?_
    rintro e w1 ⟨v1, rfl, ho1, hb⟩
    replace hv0 := hv0.below hb (Nat.le_refl _)
    have hr1 := ho1.rd
    clear ho1
    go_wp2_with (fail)
    refine ((sHitBox_any (l := l) sw sh x y _ hr1 hlen)).mono ?_
    rintro e w2 ⟨rfl, hx⟩
    replace hb := after hb hx (Nat.le_refl _)
    replace hv0 := hv0.below hx (Nat.le_refl _)
    clear hx
    clear hr1
    go_wp2_with (fail)
    refine ((toBoxS_any (l := l) _ hv0 hL7)).mono ?_
    rintro e w3 ⟨v3, rfl, ho3, hx⟩
    replace hb := after hb hx (Nat.le_refl _)
    replace hv0 := hv0.below hx (Nat.le_refl _)
    clear hx
    have hr3 := ho3.rd
    clear ho3
    go_wp2_with (fail)
    refine ((HitBox_any (l := l) sw sh x y _ hr3)).mono ?_
    rintro e w4 ⟨rfl, hx⟩
    replace hb := after hb hx (Nat.le_refl _)
    replace hv0 := hv0.below hx (Nat.le_refl _)
    replace hr3 := hr3.below hx (Nat.le_refl _)
    clear hx
    go_wp2_with (fail)
    refine ((toBoxS_any (l := l) _ hv0 hL7)).mono ?_
    rintro e w5 ⟨v5, rfl, ho5, hx⟩
    replace hb := after hb hx (Nat.le_refl _)
    replace hr3 := hr3.below hx (Nat.le_refl _)
    clear hx
    have hr5 := ho5.rd
    clear ho5
    go_wp2_with (fail)
    refine ((eqBoxS_any (l := l) _ hr3 hr5 hL7)).mono ?_
    rintro e w6 ⟨rfl, hx⟩
    replace hb := after hb hx (Nat.le_refl _)
    clear hx
    go_wp2
    go_ret
    exact ⟨rfl, hb⟩
  · go_enter Try.func4, Try.ntmps4
    go_wp2_with (fail)
    refine (szBoxS_any (l := l) _ hv0).mono ?_
    rintro e w1 ⟨r, rfl, hr, rfl⟩
    have hr0 : r < 0 := by omega
    clear hr
    go_wp2
    go_ret
    exact ⟨rfl, Below.refl _ _⟩
end Go.Proofs.Ytbkhbmcoococmaa
