/-
  Points in rectangles: has, InRect of the program; inRect of the reference; any rectangle's validity.
-/
import Derived.Test.YtbkhbmcoococmaaMeet2
import Derived.Test.YtbkhbmcoococmaaHit
namespace Go.Proofs.Ytbkhbmcoococmaa
open Go Go.RowKit

set_option maxHeartbeats 2000000 in
theorem has_any {r : Rc} (x y : Int) (w : World) (hr : RS r) :
    Calls Try.prog 61 #[r.agg, .int .i64 x, .int .i64 y] w fun e w' => e = .returned (.bool (hasB r x y)) ∧ Ext w w' := by
    obtain ⟨rx, ry, rw_, rh⟩ := r
    obtain ⟨a1, a2, a3, a4⟩ := hr
    dsimp only at a1 a2 a3 a4
    have hb0 := Below.of_alloc w (.cells #[.int .i64 rx, .int .i64 ry, .int .i64 rw_, .int .i64 rh] 39)
    have hw1 : IntKind.i64.wrap (rx + rw_) = rx + rw_ := by rw [IntKind.wrap_i64]; omega
    have hw2 : IntKind.i64.wrap (ry + rh) = ry + rh := by rw [IntKind.wrap_i64]; omega
    unfold Rc.agg
    go_enter Try.func61, Try.ntmps61
    by_cases h1 : rx ≤ x
    · by_cases h2 : x < rx + rw_
      · by_cases h3 : ry ≤ y
        · by_cases h4 : y < ry + rh
          · go_wp2
            go_ret
            exact ⟨by simp [hasB, h1, h2, h3, h4], hb0⟩
          · go_wp2
            go_ret
            exact ⟨by simp [hasB, h1, h2, h3, h4], hb0⟩
        · go_wp2
          go_ret
          exact ⟨by simp [hasB, h1, h2]; omega, hb0⟩
      · go_wp2
        go_ret
        exact ⟨by simp [hasB, h1]; omega, hb0⟩
    · go_wp2
      go_ret
      exact ⟨by simp [hasB]; omega, hb0⟩
set_option maxHeartbeats 2000000 in
theorem sinRect_any {r : Rc} (x y : Int) (w : World) (hr : RS r) :
    Calls Try.prog 98 #[r.agg, .int .i64 x, .int .i64 y] w fun e w' => e = .returned (.bool (hasB r x y)) ∧ Ext w w' := by
    obtain ⟨rx, ry, rw_, rh⟩ := r
    obtain ⟨a1, a2, a3, a4⟩ := hr
    dsimp only at a1 a2 a3 a4
    have hb0 := Below.of_alloc w (.cells #[.int .i64 rx, .int .i64 ry, .int .i64 rw_, .int .i64 rh] 39)
    have hw1 : IntKind.i64.wrap (rx + rw_) = rx + rw_ := by rw [IntKind.wrap_i64]; omega
    have hw2 : IntKind.i64.wrap (ry + rh) = ry + rh := by rw [IntKind.wrap_i64]; omega
    unfold Rc.agg
    go_enter Try.func98, Try.ntmps98
    by_cases h1 : rx ≤ x
    · by_cases h2 : x < rx + rw_
      · by_cases h3 : ry ≤ y
        · by_cases h4 : y < ry + rh
          · go_wp2
            go_ret
            exact ⟨by simp [hasB, h1, h2, h3, h4], hb0⟩
          · go_wp2
            go_ret
            exact ⟨by simp [hasB, h1, h2, h3, h4], hb0⟩
        · go_wp2
          go_ret
          exact ⟨by simp [hasB, h1, h2]; omega, hb0⟩
      · go_wp2
        go_ret
        exact ⟨by simp [hasB, h1]; omega, hb0⟩
    · go_wp2
      go_ret
      exact ⟨by simp [hasB]; omega, hb0⟩
set_option maxHeartbeats 2000000 in
theorem InRect_any {r : Rc} (x y : Int) (w : World) (vr : VR r) :
    Calls Try.prog 34 #[r.agg, .int .i64 x, .int .i64 y] w fun e w' => e = .returned (.bool (hasB r x y)) ∧ Ext w w' := by
  have hr := vr.rs
  have hb0 := Below.of_alloc w (.cells #[.int .i64 r.x, .int .i64 r.y, .int .i64 r.w, .int .i64 r.h] 39)
  have k0 := Keep.new w (.cells #[.int .i64 r.x, .int .i64 r.y, .int .i64 r.w, .int .i64 r.h] 39)
  unfold Rc.agg
  go_enter Try.func34, Try.ntmps34
  go_upto_region 1 with fail
  generalize w.alloc (.cells #[.int .i64 r.x, .int .i64 r.y, .int .i64 r.w, .int .i64 r.h] 39) = W at *
  have p0 : W.cell? ⟨w.heap.size, 0, none⟩ = some (.int .i64 r.x) := k0.cell 0
  have p1 : W.cell? ⟨w.heap.size, 1, none⟩ = some (.int .i64 r.y) := k0.cell 1
  have p2 : W.cell? ⟨w.heap.size, 2, none⟩ = some (.int .i64 r.w) := k0.cell 2
  have p3 : W.cell? ⟨w.heap.size, 3, none⟩ = some (.int .i64 r.h) := k0.cell 3
  go_wp2_with (fail)
  refine (rvalid_any (r := r) _ vr).mono ?_
  rintro e w1 ⟨rfl, hx⟩
  replace hb0 := after hb0 hx (Nat.le_refl _)
  replace k0 := keepE k0 hx
  clear p0 p1 p2 p3 hx
  have p0 : w1.cell? ⟨w.heap.size, 0, none⟩ = some (.int .i64 r.x) := k0.cell 0
  have p1 : w1.cell? ⟨w.heap.size, 1, none⟩ = some (.int .i64 r.y) := k0.cell 1
  have p2 : w1.cell? ⟨w.heap.size, 2, none⟩ = some (.int .i64 r.w) := k0.cell 2
  have p3 : w1.cell? ⟨w.heap.size, 3, none⟩ = some (.int .i64 r.h) := k0.cell 3
  go_wp2_with (fail)
  refine (has_any (r := r) x y _ hr).mono ?_
  rintro e w2 ⟨rfl, hx⟩
  replace hb0 := after hb0 hx (Nat.le_refl _)
  clear p0 p1 p2 p3 hx k0
  go_wp2
  go_ret
  exact ⟨rfl, hb0⟩
end Go.Proofs.Ytbkhbmcoococmaa
