/-
  Rectangles: impl's inset and turn, spec.inset.
-/
import Derived.IntWalk
import Derived.Test.YtbkhbmcoococmaaAa
import Derived.Test.YtbkhbmcoococmaaAf
namespace Go.Proofs.Ytbkhbmcoococmaa
open Go Go.RowKit

/-- numbers that are not large -/
structure RS (r : Rc) : Prop where
  x : -1000000 ≤ r.x ∧ r.x ≤ 1000000
  y : -1000000 ≤ r.y ∧ r.y ≤ 1000000
  w : 0 ≤ r.w ∧ r.w ≤ 1000000
  h : 0 ≤ r.h ∧ r.h ≤ 1000000
theorem below_set4 {B : Nat} {w0 w : World} {g o1 o2 o3 o4 : Nat} (h : Below B w0 w) (hg : B ≤ g) (a b c d : Value) : Below B w0 ((((w.setCell ⟨g, o1, none⟩ a).setCell ⟨g, o2, none⟩ b).setCell ⟨g, o3, none⟩ c).setCell ⟨g, o4, none⟩ d) :=
  (((h.setCell (p := ⟨g, o1, none⟩) hg _).setCell (p := ⟨g, o2, none⟩) hg _).setCell (p := ⟨g, o3, none⟩) hg _).setCell (p := ⟨g, o4, none⟩) hg _
theorem ext_two (w : World) (o1 o2 : Obj) : Ext w ((w.alloc o1).alloc o2) := (Below.of_alloc w o1).alloc (by simp) o2
set_option maxRecDepth 100000 in
set_option maxHeartbeats 2000000 in
theorem inset_any {r : Rc} {e : Int} (w : World) (hr : RS r) (he : 0 ≤ e ∧ e ≤ 50) :
    Calls Try.prog 104 #[r.agg, .int .i64 e] w fun x w' => x = .returned (insetR r e).agg ∧ Ext w w' := by
  obtain ⟨x, y, rw_, rh⟩ := r
  obtain ⟨h1, h2, h3, h4⟩ := hr
  dsimp only at h1 h2 h3 h4
  unfold Rc.agg
  have hb0 := Below.of_alloc w (.cells #[.int .i64 x, .int .i64 y, .int .i64 rw_, .int .i64 rh] 39)
  have hb1 := hb0.alloc (by simp) (.cells #[.int .i64 0, .int .i64 0, .int .i64 0, .int .i64 0] 39)
  have k1 : Keep (w.heap.size + 1) (.cells #[.int .i64 0, .int .i64 0, .int .i64 0, .int .i64 0] 39) ((w.alloc (.cells #[.int .i64 x, .int .i64 y, .int .i64 rw_, .int .i64 rh] 39)).alloc (.cells #[.int .i64 0, .int .i64 0, .int .i64 0, .int .i64 0] 39)) := by
    have := Keep.new (w.alloc (.cells #[.int .i64 x, .int .i64 y, .int .i64 rw_, .int .i64 rh] 39)) (.cells #[.int .i64 0, .int .i64 0, .int .i64 0, .int .i64 0] 39)
    rw [World.size_alloc] at this
    exact this
  have k0 : Keep w.heap.size (.cells #[.int .i64 x, .int .i64 y, .int .i64 rw_, .int .i64 rh] 39) ((w.alloc (.cells #[.int .i64 x, .int .i64 y, .int .i64 rw_, .int .i64 rh] 39)).alloc (.cells #[.int .i64 0, .int .i64 0, .int .i64 0, .int .i64 0] 39)) := (Keep.new _ _).alloc _
  have hq1 : rw_.tdiv 2 = rw_ / 2 := Int.tdiv_eq_ediv_of_nonneg (by omega)
  have hq2 : rh.tdiv 2 = rh / 2 := Int.tdiv_eq_ediv_of_nonneg (by omega)
  go_enter Try.func104, Try.ntmps104
  go_wp2_with (fail)
  generalize ((w.alloc (.cells #[.int .i64 x, .int .i64 y, .int .i64 rw_, .int .i64 rh] 39)).alloc (.cells #[.int .i64 0, .int .i64 0, .int .i64 0, .int .i64 0] 39)) = W at *
  have p2 : W.cell? ⟨w.heap.size, 2, none⟩ = some (.int .i64 rw_) := k0.cell 2
  have p3 : W.cell? ⟨w.heap.size, 3, none⟩ = some (.int .i64 rh) := k0.cell 3
  have HB := Lib.hid hb1
  have HK0 := Lib.hid k0
  have HK1 := Lib.hid k1
  clear k0 k1 hb0 hb1
  by_cases c1 : rw_ / 2 < e
  · have d1 : rw_ - 2 * e < 0 := by omega
    by_cases c2 : rh / 2 < e
    · have d2 : rh - 2 * e < 0 := by omega
      have HE := Lib.hid (show insetR ⟨x, y, rw_, rh⟩ e = ⟨x + (rw_ / 2), y + (rh / 2), 0, 0⟩ by unfold insetR; simp only [Rc.mk.injEq]; omega)
      go_wp2
      go_quiet (fail)
      have k0 : Keep w.heap.size (.cells #[.int .i64 x, .int .i64 y, .int .i64 rw_, .int .i64 rh] 39) (W.drewN nq) := HK0.out
      have k1 : Keep (w.heap.size + 1) (.cells #[.int .i64 0, .int .i64 0, .int .i64 0, .int .i64 0] 39) (W.drewN nq) := HK1.out
      have hb := below_drewN HB.out nq
      clear HK0 HK1 HB p2 p3
      generalize W.drewN nq = W at *
      have p0 : W.cell? ⟨w.heap.size, 0, none⟩ = some (.int .i64 x) := k0.cell 0
      have p1 : W.cell? ⟨w.heap.size, 1, none⟩ = some (.int .i64 y) := k0.cell 1
      have p2 : W.cell? ⟨w.heap.size, 2, none⟩ = some (.int .i64 rw_) := k0.cell 2
      have p3 : W.cell? ⟨w.heap.size, 3, none⟩ = some (.int .i64 rh) := k0.cell 3
      have q0 : W.cell? ⟨w.heap.size + 1, 0, none⟩ = some (.int .i64 0) := k1.cell 0
      have q1 : W.cell? ⟨w.heap.size + 1, 1, none⟩ = some (.int .i64 0) := k1.cell 1
      have q2 : W.cell? ⟨w.heap.size + 1, 2, none⟩ = some (.int .i64 0) := k1.cell 2
      have q3 : W.cell? ⟨w.heap.size + 1, 3, none⟩ = some (.int .i64 0) := k1.cell 3
      have z0 : W.frozen? ⟨w.heap.size + 1, 0, none⟩ = false := k1.frozen 0
      have z1 : W.frozen? ⟨w.heap.size + 1, 1, none⟩ = false := k1.frozen 1
      have z2 : W.frozen? ⟨w.heap.size + 1, 2, none⟩ = false := k1.frozen 2
      have z3 : W.frozen? ⟨w.heap.size + 1, 3, none⟩ = false := k1.frozen 3
      have hs := k1.lt
      have HB := Lib.hid hb
      clear k0 k1 hb
      go_wp2
      refine bodyPost_ret (v := .agg #[.int .i64 (x + (rw_ / 2)), .int .i64 (y + (rh / 2)), .int .i64 (0), .int .i64 (0)]) ?_ rfl ⟨?_, ?_⟩
      · simp [results, Try.results104, go_sem, q0, q1, q2, q3, hs]
      · rw [HE.out]
      · exact (below_set4 HB.out (Nat.le_succ _) _ _ _ _).alloc (by have := HB.out.size; simp [World.setCell]; omega) _
    · have d2 : ¬ rh - 2 * e < 0 := by omega
      have HE := Lib.hid (show insetR ⟨x, y, rw_, rh⟩ e = ⟨x + (rw_ / 2), y + e, 0, rh - 2 * e⟩ by unfold insetR; simp only [Rc.mk.injEq]; omega)
      go_wp2
      go_quiet (fail)
      have k0 : Keep w.heap.size (.cells #[.int .i64 x, .int .i64 y, .int .i64 rw_, .int .i64 rh] 39) (W.drewN nq) := HK0.out
      have k1 : Keep (w.heap.size + 1) (.cells #[.int .i64 0, .int .i64 0, .int .i64 0, .int .i64 0] 39) (W.drewN nq) := HK1.out
      have hb := below_drewN HB.out nq
      clear HK0 HK1 HB p2 p3
      generalize W.drewN nq = W at *
      have p0 : W.cell? ⟨w.heap.size, 0, none⟩ = some (.int .i64 x) := k0.cell 0
      have p1 : W.cell? ⟨w.heap.size, 1, none⟩ = some (.int .i64 y) := k0.cell 1
      have p2 : W.cell? ⟨w.heap.size, 2, none⟩ = some (.int .i64 rw_) := k0.cell 2
      have p3 : W.cell? ⟨w.heap.size, 3, none⟩ = some (.int .i64 rh) := k0.cell 3
      have q0 : W.cell? ⟨w.heap.size + 1, 0, none⟩ = some (.int .i64 0) := k1.cell 0
      have q1 : W.cell? ⟨w.heap.size + 1, 1, none⟩ = some (.int .i64 0) := k1.cell 1
      have q2 : W.cell? ⟨w.heap.size + 1, 2, none⟩ = some (.int .i64 0) := k1.cell 2
      have q3 : W.cell? ⟨w.heap.size + 1, 3, none⟩ = some (.int .i64 0) := k1.cell 3
      have z0 : W.frozen? ⟨w.heap.size + 1, 0, none⟩ = false := k1.frozen 0
      have z1 : W.frozen? ⟨w.heap.size + 1, 1, none⟩ = false := k1.frozen 1
      have z2 : W.frozen? ⟨w.heap.size + 1, 2, none⟩ = false := k1.frozen 2
      have z3 : W.frozen? ⟨w.heap.size + 1, 3, none⟩ = false := k1.frozen 3
      have hs := k1.lt
      have HB := Lib.hid hb
      clear k0 k1 hb
      go_wp2
      refine bodyPost_ret (v := .agg #[.int .i64 (x + (rw_ / 2)), .int .i64 (y + e), .int .i64 (0), .int .i64 (rh - 2 * e)]) ?_ rfl ⟨?_, ?_⟩
      · simp [results, Try.results104, go_sem, q0, q1, q2, q3, hs]
      · rw [HE.out]
      · exact (below_set4 HB.out (Nat.le_succ _) _ _ _ _).alloc (by have := HB.out.size; simp [World.setCell]; omega) _
  · have d1 : ¬ rw_ - 2 * e < 0 := by omega
    by_cases c2 : rh / 2 < e
    · have d2 : rh - 2 * e < 0 := by omega
      have HE := Lib.hid (show insetR ⟨x, y, rw_, rh⟩ e = ⟨x + e, y + (rh / 2), rw_ - 2 * e, 0⟩ by unfold insetR; simp only [Rc.mk.injEq]; omega)
      go_wp2
      go_quiet (fail)
      have k0 : Keep w.heap.size (.cells #[.int .i64 x, .int .i64 y, .int .i64 rw_, .int .i64 rh] 39) (W.drewN nq) := HK0.out
      have k1 : Keep (w.heap.size + 1) (.cells #[.int .i64 0, .int .i64 0, .int .i64 0, .int .i64 0] 39) (W.drewN nq) := HK1.out
      have hb := below_drewN HB.out nq
      clear HK0 HK1 HB p2 p3
      generalize W.drewN nq = W at *
      have p0 : W.cell? ⟨w.heap.size, 0, none⟩ = some (.int .i64 x) := k0.cell 0
      have p1 : W.cell? ⟨w.heap.size, 1, none⟩ = some (.int .i64 y) := k0.cell 1
      have p2 : W.cell? ⟨w.heap.size, 2, none⟩ = some (.int .i64 rw_) := k0.cell 2
      have p3 : W.cell? ⟨w.heap.size, 3, none⟩ = some (.int .i64 rh) := k0.cell 3
      have q0 : W.cell? ⟨w.heap.size + 1, 0, none⟩ = some (.int .i64 0) := k1.cell 0
      have q1 : W.cell? ⟨w.heap.size + 1, 1, none⟩ = some (.int .i64 0) := k1.cell 1
      have q2 : W.cell? ⟨w.heap.size + 1, 2, none⟩ = some (.int .i64 0) := k1.cell 2
      have q3 : W.cell? ⟨w.heap.size + 1, 3, none⟩ = some (.int .i64 0) := k1.cell 3
      have z0 : W.frozen? ⟨w.heap.size + 1, 0, none⟩ = false := k1.frozen 0
      have z1 : W.frozen? ⟨w.heap.size + 1, 1, none⟩ = false := k1.frozen 1
      have z2 : W.frozen? ⟨w.heap.size + 1, 2, none⟩ = false := k1.frozen 2
      have z3 : W.frozen? ⟨w.heap.size + 1, 3, none⟩ = false := k1.frozen 3
      have hs := k1.lt
      have HB := Lib.hid hb
      clear k0 k1 hb
      go_wp2
      refine bodyPost_ret (v := .agg #[.int .i64 (x + e), .int .i64 (y + (rh / 2)), .int .i64 (rw_ - 2 * e), .int .i64 (0)]) ?_ rfl ⟨?_, ?_⟩
      · simp [results, Try.results104, go_sem, q0, q1, q2, q3, hs]
      · rw [HE.out]
      · exact (below_set4 HB.out (Nat.le_succ _) _ _ _ _).alloc (by have := HB.out.size; simp [World.setCell]; omega) _
    · have d2 : ¬ rh - 2 * e < 0 := by omega
      have HE := Lib.hid (show insetR ⟨x, y, rw_, rh⟩ e = ⟨x + e, y + e, rw_ - 2 * e, rh - 2 * e⟩ by unfold insetR; simp only [Rc.mk.injEq]; omega)
      go_wp2
      go_quiet (fail)
      have k0 : Keep w.heap.size (.cells #[.int .i64 x, .int .i64 y, .int .i64 rw_, .int .i64 rh] 39) (W.drewN nq) := HK0.out
      have k1 : Keep (w.heap.size + 1) (.cells #[.int .i64 0, .int .i64 0, .int .i64 0, .int .i64 0] 39) (W.drewN nq) := HK1.out
      have hb := below_drewN HB.out nq
      clear HK0 HK1 HB p2 p3
      generalize W.drewN nq = W at *
      have p0 : W.cell? ⟨w.heap.size, 0, none⟩ = some (.int .i64 x) := k0.cell 0
      have p1 : W.cell? ⟨w.heap.size, 1, none⟩ = some (.int .i64 y) := k0.cell 1
      have p2 : W.cell? ⟨w.heap.size, 2, none⟩ = some (.int .i64 rw_) := k0.cell 2
      have p3 : W.cell? ⟨w.heap.size, 3, none⟩ = some (.int .i64 rh) := k0.cell 3
      have q0 : W.cell? ⟨w.heap.size + 1, 0, none⟩ = some (.int .i64 0) := k1.cell 0
      have q1 : W.cell? ⟨w.heap.size + 1, 1, none⟩ = some (.int .i64 0) := k1.cell 1
      have q2 : W.cell? ⟨w.heap.size + 1, 2, none⟩ = some (.int .i64 0) := k1.cell 2
      have q3 : W.cell? ⟨w.heap.size + 1, 3, none⟩ = some (.int .i64 0) := k1.cell 3
      have z0 : W.frozen? ⟨w.heap.size + 1, 0, none⟩ = false := k1.frozen 0
      have z1 : W.frozen? ⟨w.heap.size + 1, 1, none⟩ = false := k1.frozen 1
      have z2 : W.frozen? ⟨w.heap.size + 1, 2, none⟩ = false := k1.frozen 2
      have z3 : W.frozen? ⟨w.heap.size + 1, 3, none⟩ = false := k1.frozen 3
      have hs := k1.lt
      have HB := Lib.hid hb
      clear k0 k1 hb
      go_wp2
      refine bodyPost_ret (v := .agg #[.int .i64 (x + e), .int .i64 (y + e), .int .i64 (rw_ - 2 * e), .int .i64 (rh - 2 * e)]) ?_ rfl ⟨?_, ?_⟩
      · simp [results, Try.results104, go_sem, q0, q1, q2, q3, hs]
      · rw [HE.out]
      · exact (below_set4 HB.out (Nat.le_succ _) _ _ _ _).alloc (by have := HB.out.size; simp [World.setCell]; omega) _
set_option maxRecDepth 100000 in
set_option maxHeartbeats 2000000 in
theorem sinset_any {r : Rc} {e : Int} (w : World) (hr : RS r) (he : 0 ≤ e ∧ e ≤ 50) :
    Calls Try.prog 80 #[r.agg, .int .i64 e] w fun x w' => x = .returned (insetR r e).agg ∧ Ext w w' := by
  obtain ⟨x, y, rw_, rh⟩ := r
  obtain ⟨h1, h2, h3, h4⟩ := hr
  dsimp only at h1 h2 h3 h4
  unfold Rc.agg
  have hq1 : rw_.tdiv 2 = rw_ / 2 := Int.tdiv_eq_ediv_of_nonneg (by omega)
  have hq2 : rh.tdiv 2 = rh / 2 := Int.tdiv_eq_ediv_of_nonneg (by omega)
  rcases Int.lt_trichotomy (rw_ - 2 * e) 0 with d1 | d1 | d1
  · have c1 : rw_ / 2 < e := by omega
    have d1' : ¬ 0 < rw_ - 2 * e := by omega
    rcases Int.lt_trichotomy (rh - 2 * e) 0 with d2 | d2 | d2
    · have c2 : rh / 2 < e := by omega
      have d2' : ¬ 0 < rh - 2 * e := by omega
      have HE := Lib.hid (show insetR ⟨x, y, rw_, rh⟩ e = ⟨x + (rw_ / 2), y + (rh / 2), 0, 0⟩ by unfold insetR; simp only [Rc.mk.injEq]; omega)
      go_enter Try.func80, Try.ntmps80
      go_wp2
      refine bodyPost_ret (v := .agg #[.int .i64 (x + (rw_ / 2)), .int .i64 (y + (rh / 2)), .int .i64 (0), .int .i64 (0)]) ?_ rfl ⟨?_, ?_⟩
      · simp [results, Try.results80, go_sem]
      · rw [HE.out]
      · exact ext_two _ _ _
    · have c2 : ¬ rh / 2 < e := by omega
      have d2' : ¬ 0 < rh - 2 * e := by omega
      have HD := Lib.hid d2
      clear d2
      have HE := Lib.hid (show insetR ⟨x, y, rw_, rh⟩ e = ⟨x + (rw_ / 2), y + e, 0, 0⟩ by unfold insetR; simp only [Rc.mk.injEq]; omega)
      go_enter Try.func80, Try.ntmps80
      go_wp2
      refine bodyPost_ret (v := .agg #[.int .i64 (x + (rw_ / 2)), .int .i64 (y + e), .int .i64 (0), .int .i64 (0)]) ?_ rfl ⟨?_, ?_⟩
      · simp [results, Try.results80, go_sem]
      · rw [HE.out]
      · exact ext_two _ _ _
    · have c2 : ¬ rh / 2 < e := by omega
      have HE := Lib.hid (show insetR ⟨x, y, rw_, rh⟩ e = ⟨x + (rw_ / 2), y + e, 0, rh - 2 * e⟩ by unfold insetR; simp only [Rc.mk.injEq]; omega)
      go_enter Try.func80, Try.ntmps80
      go_wp2
      refine bodyPost_ret (v := .agg #[.int .i64 (x + (rw_ / 2)), .int .i64 (y + e), .int .i64 (0), .int .i64 (rh - 2 * e)]) ?_ rfl ⟨?_, ?_⟩
      · simp [results, Try.results80, go_sem]
      · rw [HE.out]
      · exact ext_two _ _ _
  · have c1 : ¬ rw_ / 2 < e := by omega
    have d1' : ¬ 0 < rw_ - 2 * e := by omega
    have HD := Lib.hid d1
    rcases Int.lt_trichotomy (rh - 2 * e) 0 with d2 | d2 | d2
    · have c2 : rh / 2 < e := by omega
      have d2' : ¬ 0 < rh - 2 * e := by omega
      have HE := Lib.hid (show insetR ⟨x, y, rw_, rh⟩ e = ⟨x + e, y + (rh / 2), 0, 0⟩ by unfold insetR; simp only [Rc.mk.injEq]; omega)
      go_enter Try.func80, Try.ntmps80
      go_wp2
      refine bodyPost_ret (v := .agg #[.int .i64 (x + e), .int .i64 (y + (rh / 2)), .int .i64 (0), .int .i64 (0)]) ?_ rfl ⟨?_, ?_⟩
      · simp [results, Try.results80, go_sem]
      · rw [HE.out]
      · exact ext_two _ _ _
    · have c2 : ¬ rh / 2 < e := by omega
      have d2' : ¬ 0 < rh - 2 * e := by omega
      have HE := Lib.hid (show insetR ⟨x, y, rw_, rh⟩ e = ⟨x + e, y + e, 0, 0⟩ by unfold insetR; simp only [Rc.mk.injEq]; omega)
      go_enter Try.func80, Try.ntmps80
      go_wp2
      refine bodyPost_ret (v := .agg #[.int .i64 (x + e), .int .i64 (y + e), .int .i64 (0), .int .i64 (0)]) ?_ rfl ⟨?_, ?_⟩
      · simp [results, Try.results80, go_sem]
      · rw [HE.out]
      · exact ext_two _ _ _
    · have c2 : ¬ rh / 2 < e := by omega
      have HE := Lib.hid (show insetR ⟨x, y, rw_, rh⟩ e = ⟨x + e, y + e, 0, rh - 2 * e⟩ by unfold insetR; simp only [Rc.mk.injEq]; omega)
      go_enter Try.func80, Try.ntmps80
      go_wp2
      refine bodyPost_ret (v := .agg #[.int .i64 (x + e), .int .i64 (y + e), .int .i64 (0), .int .i64 (rh - 2 * e)]) ?_ rfl ⟨?_, ?_⟩
      · simp [results, Try.results80, go_sem]
      · rw [HE.out]
      · exact ext_two _ _ _
  · have c1 : ¬ rw_ / 2 < e := by omega
    rcases Int.lt_trichotomy (rh - 2 * e) 0 with d2 | d2 | d2
    · have c2 : rh / 2 < e := by omega
      have d2' : ¬ 0 < rh - 2 * e := by omega
      have HE := Lib.hid (show insetR ⟨x, y, rw_, rh⟩ e = ⟨x + e, y + (rh / 2), rw_ - 2 * e, 0⟩ by unfold insetR; simp only [Rc.mk.injEq]; omega)
      go_enter Try.func80, Try.ntmps80
      go_wp2
      refine bodyPost_ret (v := .agg #[.int .i64 (x + e), .int .i64 (y + (rh / 2)), .int .i64 (rw_ - 2 * e), .int .i64 (0)]) ?_ rfl ⟨?_, ?_⟩
      · simp [results, Try.results80, go_sem]
      · rw [HE.out]
      · exact ext_two _ _ _
    · have c2 : ¬ rh / 2 < e := by omega
      have d2' : ¬ 0 < rh - 2 * e := by omega
      have HE := Lib.hid (show insetR ⟨x, y, rw_, rh⟩ e = ⟨x + e, y + e, rw_ - 2 * e, 0⟩ by unfold insetR; simp only [Rc.mk.injEq]; omega)
      go_enter Try.func80, Try.ntmps80
      go_wp2
      refine bodyPost_ret (v := .agg #[.int .i64 (x + e), .int .i64 (y + e), .int .i64 (rw_ - 2 * e), .int .i64 (0)]) ?_ rfl ⟨?_, ?_⟩
      · simp [results, Try.results80, go_sem]
      · rw [HE.out]
      · exact ext_two _ _ _
    · have c2 : ¬ rh / 2 < e := by omega
      have HE := Lib.hid (show insetR ⟨x, y, rw_, rh⟩ e = ⟨x + e, y + e, rw_ - 2 * e, rh - 2 * e⟩ by unfold insetR; simp only [Rc.mk.injEq]; omega)
      go_enter Try.func80, Try.ntmps80
      go_wp2
      refine bodyPost_ret (v := .agg #[.int .i64 (x + e), .int .i64 (y + e), .int .i64 (rw_ - 2 * e), .int .i64 (rh - 2 * e)]) ?_ rfl ⟨?_, ?_⟩
      · simp [results, Try.results80, go_sem]
      · rw [HE.out]
      · exact ext_two _ _ _
def Rc.turn (r : Rc) : Rc := ⟨r.y, r.x, r.h, r.w⟩
set_option maxHeartbeats 1000000 in
theorem turnR_any (r : Rc) (w : World) :
    Calls Try.prog 109 #[r.agg] w fun x w' => x = .returned r.turn.agg ∧ Ext w w' := by
  obtain ⟨x, y, rw_, rh⟩ := r
  unfold Rc.turn Rc.agg
  dsimp only
  go_enter Try.func109, Try.ntmps109
  go_wp2
  refine bodyPost_ret (v := .agg #[.int .i64 y, .int .i64 x, .int .i64 rh, .int .i64 rw_]) ?_ rfl ⟨rfl, ?_⟩
  · simp [results, Try.results109, go_sem]
  · exact ext_two _ _ _
set_option maxHeartbeats 1000000 in
theorem turnS_any (x y : Int) (w : World) :
    Calls Try.prog 110 #[.agg #[.int .i64 x, .int .i64 y]] w fun e w' => e = .returned (.agg #[.int .i64 y, .int .i64 x]) ∧ Ext w w' := by
  go_enter Try.func110, Try.ntmps110
  go_wp2
  refine bodyPost_ret (v := .agg #[.int .i64 y, .int .i64 x]) ?_ rfl ⟨rfl, ?_⟩
  · simp [results, Try.results110, go_sem]
  · exact ext_two _ _ _
end Go.Proofs.Ytbkhbmcoococmaa
