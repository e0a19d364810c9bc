/-
  What is drawn for the laws over hits and seen boxes: DrawHitBox, someRect, anyRect, DrawSeenBoxes.
-/
import Derived.Test.YtbkhbmcoococmaaAg
import Derived.Test.YtbkhbmcoococmaaMeet
namespace Go.Proofs.Ytbkhbmcoococmaa
open Go Go.RowKit

set_option maxRecDepth 100000 in
set_option maxHeartbeats 2000000 in
theorem DrawHitBox_any {v : Value} (w : World) (hv : RdBytes w v) :
    Calls Try.prog 31 #[v] w fun e w' => ∃ (v' : Value) (sw sh x y : Int), e = .returned (.tuple #[v', .int .i64 sw, .int .i64 sh, .int .i64 x, .int .i64 y]) ∧ ∃ l : List Bx, l.length ≤ 16 ∧ (-1 ≤ x ∧ x ≤ 200) ∧ (-1 ≤ y ∧ y ≤ 200) ∧ Own w' w.heap.size 9 v' (Bs l) ∧ Ext w w' := by
  go_enter Try.func31, Try.ntmps31
  go_wp2_with (fail)
  refine (newReader_any _ hv).mono ?_
  rintro e w1 ⟨rfl, hr1, hx1⟩
  go_wp2_with (fail)
  refine (anyTree_any _ hr1 (by omega)).mono ?_
  rintro e w2 ⟨v2, rfl, l, hl, ho2, hr2, hx2⟩
  have hb2 := afterR (bel_of hx1) hx2 (Nat.le_refl _)
  have hR := hr2.lt
  have hR1 := hr1.lt
  have hs1 := hx1.size
  clear hr1 hx1 hx2
  go_wp2_with (fail)
  refine (someSide_any _ hr2 (by omega)).mono ?_
  rintro e w3 ⟨i, rfl, hi0, hi1, hr3, hx3⟩
  have hb3 := afterR hb2 hx3 (Nat.le_refl _)
  have ho3 := ho2.bel hx3 hR1
  clear hr2 ho2 hx3 hb2
  go_wp2_with (fail)
  refine (someSide_any _ hr3 (by omega)).mono ?_
  rintro e w4 ⟨j, rfl, hj0, hj1, hr4, hx4⟩
  have hb4 := afterR hb3 hx4 (Nat.le_refl _)
  have ho4 := ho3.bel hx4 hR1
  clear hr3 ho3 hx4 hb3
  go_wp2_with (fail)
  refine (pick_any 200 _ hr4 (by omega)).mono ?_
  rintro e w5 ⟨r5, rfl, ⟨r50, r51⟩, hr5, hx5⟩
  have r51 := r51 (by omega)
  have hb5 := afterR hb4 hx5 (Nat.le_refl _)
  have ho5 := ho4.bel hx5 hR1
  clear hr4 ho4 hx5 hb4
  go_wp2_with (fail)
  refine (one_any (l := [0, 5, 30, 99, 150, -1, r5]) _ (hr5.ext (Below.of_alloc _ _)) (by omega) (heapAt _ rfl) (by have := hr5.lt; omega) (by simp) (by simp)).mono ?_
  rintro e w6 ⟨x, rfl, hm6, hr6, hx6⟩
  have q6 : -1 ≤ x ∧ x ≤ 200 := by simp at hm6; omega
  have hb6 := afterR (bel_alloc hb5 (Nat.le_refl _) _) hx6 (Nat.le_refl _)
  have ho6 := (ho5.alloc _).bel hx6 hR1
  clear hm6 hr5 ho5 hx6 hb5
  go_wp2_with (fail)
  refine (pick_any 200 _ hr6 (by omega)).mono ?_
  rintro e w7 ⟨r7, rfl, ⟨r70, r71⟩, hr7, hx7⟩
  have r71 := r71 (by omega)
  have hb7 := afterR hb6 hx7 (Nat.le_refl _)
  have ho7 := ho6.bel hx7 hR1
  clear hr6 ho6 hx7 hb6
  go_wp2_with (fail)
  refine (one_any (l := [0, 5, 30, 99, 150, -1, r7]) _ (hr7.ext (Below.of_alloc _ _)) (by omega) (heapAt _ rfl) (by have := hr7.lt; omega) (by simp) (by simp)).mono ?_
  rintro e w8 ⟨y, rfl, hm8, hr8, hx8⟩
  have q8 : -1 ≤ y ∧ y ≤ 200 := by simp at hm8; omega
  have hb8 := below_of_bel (afterR (bel_alloc hb7 (Nat.le_refl _) _) hx8 (Nat.le_refl _)) (Nat.le_refl _)
  have ho8 := (ho7.alloc _).bel hx8 hR1
  clear hm8 hr7 ho7 hx8 hb7
  go_wp2
  refine bodyPost_ret (v := .tuple #[v2, .int .i64 i, .int .i64 j, .int .i64 x, .int .i64 y]) ?_ rfl ?_
  · simp [results, Try.results31, go_sem]
  exact ⟨_, i, j, x, y, rfl, l, hl, q6, q8, ho8.weak hs1, hb8⟩
theorem keepRect {w : World} {g : Nat} {e : TypeId} {c : Array Value} (h : Keep g (.cells c e) w) (hc : c.size = 4) (a b d f : Value) :
    Keep g (.cells #[a, b, d, f] e) ((((w.setCell ⟨g, 0, none⟩ a).setCell ⟨g, 1, none⟩ b).setCell ⟨g, 2, none⟩ d).setCell ⟨g, 3, none⟩ f) := by
  have h4 := (((h.store 0 a).store 1 b).store 2 d).store 3 f
  obtain ⟨l⟩ := c
  match l, hc with
  | [c0, c1, c2, c3], _ => exact h4
set_option maxRecDepth 100000 in
set_option maxHeartbeats 2000000 in
theorem someRect_any {R m : Nat} (w : World) (h : Rdr R w m) (hm : m ≤ 90000) :
    Calls Try.prog 102 #[.pointer (some ⟨R, 0, none⟩)] w fun e w' => ∃ x : Rc, e = .returned x.agg ∧ Rdr R w' (m + 4) ∧ ExtR R w w' := by
  have hRl := h.lt
  have hR0 : R < w.heap.size := hRl
  have hb0 : Bel R w.heap.size w (w.alloc (.cells #[.int .i64 0, .int .i64 0, .int .i64 0, .int .i64 0] 39)) := bel_of (Below.of_alloc _ _)
  have k0 : Keep w.heap.size (.cells #[.int .i64 0, .int .i64 0, .int .i64 0, .int .i64 0] 39) (w.alloc (.cells #[.int .i64 0, .int .i64 0, .int .i64 0, .int .i64 0] 39)) := Keep.new _ _
  have hr0 := h.ext (Below.of_alloc w (.cells #[.int .i64 0, .int .i64 0, .int .i64 0, .int .i64 0] 39))
  go_enter Try.func102, Try.ntmps102
  go_wp2_with (fail)
  change Calls _ _ _ (w.alloc (.cells #[.int .i64 0, .int .i64 0, .int .i64 0, .int .i64 0] 39)) _
  generalize w.alloc (.cells #[.int .i64 0, .int .i64 0, .int .i64 0, .int .i64 0] 39) = W at *
  obtain ⟨g, hg⟩ : ∃ g, w.heap.size = g := ⟨_, rfl⟩
  rw [hg] at k0 hRl ⊢
  have hgw : w.heap.size ≤ g := by omega
  clear h hg
  refine (pick_any 40 _ hr0 (by omega)).mono ?_
  rintro e w1 ⟨r1, rfl, ⟨r10, r11⟩, hr1, hx1⟩
  have r11 := r11 (by omega)
  have hb1 := afterR hb0 hx1 (Nat.le_refl _)
  have k1 := k0.extR hx1 (by omega)
  clear hb0 k0 hx1 hr0
  go_wp2_with (fail)
  refine (pick_any 40 _ hr1 (by omega)).mono ?_
  rintro e w2 ⟨r2, rfl, ⟨r20, r21⟩, hr2, hx2⟩
  have r21 := r21 (by omega)
  have hb2 := afterR hb1 hx2 (Nat.le_refl _)
  have k2 := k1.extR hx2 (by omega)
  clear hb1 k1 hx2 hr1
  go_wp2_with (fail)
  refine (one_any (l := [10, 20, 1, 0, 5, 40]) _ (hr2.ext (Below.of_alloc _ _)) (by omega) (heapAt _ rfl) (by have := hr2.lt; omega) (by simp) (by simp)).mono ?_
  rintro e w3 ⟨r3, rfl, _, hr3, hx3⟩
  have hb3 := afterR (bel_alloc hb2 (Nat.le_refl _) _) hx3 (Nat.le_refl _)
  have k3 := (k2.alloc _).extR hx3 (by omega)
  clear hb2 k2 hx3 hr2
  go_wp2_with (fail)
  refine (one_any (l := [10, 20, 1, 0, 7, 40]) _ (hr3.ext (Below.of_alloc _ _)) (by omega) (heapAt _ rfl) (by have := hr3.lt; omega) (by simp) (by simp)).mono ?_
  rintro e w4 ⟨r4, rfl, _, hr4, hx4⟩
  have hb4 := afterR (bel_alloc hb3 (Nat.le_refl _) _) hx4 (Nat.le_refl _)
  have k4 := (k3.alloc _).extR hx4 (by omega)
  clear hb3 k3 hx4 hr3
  have q0 := k4.cell 0
  have q1 := k4.cell 1
  have q2 := k4.cell 2
  have q3 := k4.cell 3
  have z0 := k4.frozen 0
  have z1 := k4.frozen 1
  have z2 := k4.frozen 2
  have z3 := k4.frozen 3
  have hl := k4.lt
  have hw1 : IntKind.i64.wrap (r1 - 10) = r1 - 10 := by rw [IntKind.wrap_i64]; omega
  have hw2 : IntKind.i64.wrap (r2 - 10) = r2 - 10 := by rw [IntKind.wrap_i64]; omega
  have HR := Lib.hid (Rdr.setCell (p := ⟨g, 3, none⟩) (Rdr.setCell (p := ⟨g, 2, none⟩) (Rdr.setCell (p := ⟨g, 1, none⟩) (Rdr.setCell (p := ⟨g, 0, none⟩) hr4 hRl (.int .i64 (r1 - 10))) hRl (.int .i64 (r2 - 10))) hRl (.int .i64 r3)) hRl (.int .i64 r4))
  have HB := Lib.hid (bel_setCell (p := ⟨g, 3, none⟩) (bel_setCell (p := ⟨g, 2, none⟩) (bel_setCell (p := ⟨g, 1, none⟩) (bel_setCell (p := ⟨g, 0, none⟩) hb4 hgw (.int .i64 (r1 - 10))) hgw (.int .i64 (r2 - 10))) hgw (.int .i64 r3)) hgw (.int .i64 r4))
  clear k4 hr4 hb4
  go_wp2
  refine bodyPost_ret (v := .agg #[.int .i64 (r1 - 10), .int .i64 (r2 - 10), .int .i64 r3, .int .i64 r4]) ?_ rfl ⟨⟨r1 - 10, r2 - 10, r3, r4⟩, rfl, HR.out, HB.out⟩
  simp [results, Try.results102, go_sem, q0, q1, q2, q3]
set_option maxRecDepth 100000 in
set_option maxHeartbeats 4000000 in
theorem anyRect_any {R m : Nat} (w : World) (h : Rdr R w m) (hm : m ≤ 80000) :
    Calls Try.prog 74 #[.pointer (some ⟨R, 0, none⟩)] w fun e w' => ∃ x : Rc, e = .returned x.agg ∧ Rdr R w' (m + 6) ∧ ExtR R w w' := by
  have hRl := h.lt
  have hb0 : Bel R w.heap.size w (w.alloc (.cells #[.int .i64 0, .int .i64 0, .int .i64 0, .int .i64 0] 39)) := bel_of (Below.of_alloc _ _)
  have k0 : Keep w.heap.size (.cells #[.int .i64 0, .int .i64 0, .int .i64 0, .int .i64 0] 39) (w.alloc (.cells #[.int .i64 0, .int .i64 0, .int .i64 0, .int .i64 0] 39)) := Keep.new _ _
  have hr0 := h.ext (Below.of_alloc w (.cells #[.int .i64 0, .int .i64 0, .int .i64 0, .int .i64 0] 39))
  go_enter Try.func74, Try.ntmps74
  go_wp2_with (fail)
  change Calls _ _ _ (w.alloc (.cells #[.int .i64 0, .int .i64 0, .int .i64 0, .int .i64 0] 39)) _
  generalize w.alloc (.cells #[.int .i64 0, .int .i64 0, .int .i64 0, .int .i64 0] 39) = W at *
  obtain ⟨g, hg⟩ : ∃ g, w.heap.size = g := ⟨_, rfl⟩
  rw [hg] at k0 hRl ⊢
  have hgw : w.heap.size ≤ g := by omega
  clear h hg
  refine (someRect_any _ hr0 (by omega)).mono ?_
  rintro e w1 ⟨x, rfl, hr1, hx1⟩
  have hb1 := afterR hb0 hx1 (Nat.le_refl _)
  have k1 := k0.extR hx1 (by omega)
  clear hb0 k0 hx1 hr0
  have hr2 := hr1.ext (Below.of_alloc w1 (.cells #[.int .i64 x.x, .int .i64 x.y, .int .i64 x.w, .int .i64 x.h] 39))
  have hb2 := bel_alloc hb1 (Nat.le_refl _) (.cells #[.int .i64 x.x, .int .i64 x.y, .int .i64 x.w, .int .i64 x.h] 39)
  have k2 := k1.alloc (.cells #[.int .i64 x.x, .int .i64 x.y, .int .i64 x.w, .int .i64 x.h] 39)
  have x2 := Keep.new w1 (.cells #[.int .i64 x.x, .int .i64 x.y, .int .i64 x.w, .int .i64 x.h] 39)
  have hgx := k1.lt
  have hRx := hr1.lt
  have hxw := hb1.size
  clear hr1 hb1 k1
  unfold Rc.agg
  go_wp2_with (fail)
  change Calls _ _ _ (w1.alloc (.cells #[.int .i64 x.x, .int .i64 x.y, .int .i64 x.w, .int .i64 x.h] 39)) _
  generalize w1.alloc (.cells #[.int .i64 x.x, .int .i64 x.y, .int .i64 x.w, .int .i64 x.h] 39) = W1 at *
  obtain ⟨f, hf⟩ : ∃ f, w1.heap.size = f := ⟨_, rfl⟩
  rw [hf] at x2 hgx hRx hxw ⊢
  clear hf
  refine (pick_any 20 _ hr2 (by omega)).mono ?_
  rintro e w3 ⟨r, rfl, _, hr3, hx3⟩
  have hb3 := afterR hb2 hx3 (Nat.le_refl _)
  have k3 := k2.extR hx3 (by omega)
  have x3 := x2.extR hx3 (by omega)
  clear hr2 hx3 hb2 k2 x2
  by_cases h0 : r = 0
  · subst h0
    go_wp2_with (fail)
    refine (one_any (l := [100000, 100001, -100001]) _ (hr3.ext (Below.of_alloc _ _)) (by omega) (heapAt _ rfl) (by have := hr3.lt; omega) (by simp) (by simp)).mono ?_
    rintro e w5 ⟨t, rfl, _, hr5, hx5⟩
    have hb5 := afterR (bel_alloc hb3 (Nat.le_refl _) _) hx5 (Nat.le_refl _)
    have k5 := (k3.alloc _).extR hx5 (by omega)
    have x5 := (x3.alloc _).extR hx5 (by omega)
    have x4 : Keep f (.cells #[.int .i64 t, .int .i64 x.y, .int .i64 x.w, .int .i64 x.h] 39) (w5.setCell ⟨f, 0, none⟩ (.int .i64 t)) := x5.store 0 (.int .i64 t)
    have k4 := k5.setOther (p := ⟨f, 0, none⟩) (show g ≠ f by omega) (.int .i64 t)
    have c0 := x5.cell 0
    have f0 := x5.frozen 0
    have hr4 := hr5.setCell (p := ⟨f, 0, none⟩) hRx (.int .i64 t)
    have hb4 := bel_setCell (p := ⟨f, 0, none⟩) hb5 hxw (.int .i64 t)
    clear hx5 hb5 k5 x5 hr5 hr3 hb3 k3 x3
    go_upto_region 7 with fail
    clear c0 f0
    generalize w5.setCell ⟨f, 0, none⟩ (.int .i64 t) = W5 at *
    generalize hy : (⟨t, x.y, x.w, x.h⟩ : Rc) = y at *
    replace x4 : Keep f (.cells #[.int .i64 y.x, .int .i64 y.y, .int .i64 y.w, .int .i64 y.h] 39) W5 := by rw [← hy]; exact x4
    clear hy
    have q0 := k4.cell 0
    have q1 := k4.cell 1
    have q2 := k4.cell 2
    have q3 := k4.cell 3
    have z0 := k4.frozen 0
    have z1 := k4.frozen 1
    have z2 := k4.frozen 2
    have z3 := k4.frozen 3
    have x0 := x4.cell 0
    have x1 := x4.cell 1
    have x2 := x4.cell 2
    have x3 := x4.cell 3
    have hl := k4.lt
    have HR := Lib.hid (Rdr.setCell (p := ⟨g, 3, none⟩) (Rdr.setCell (p := ⟨g, 2, none⟩) (Rdr.setCell (p := ⟨g, 1, none⟩) (Rdr.setCell (p := ⟨g, 0, none⟩) hr4 hRl (.int .i64 y.x)) hRl (.int .i64 y.y)) hRl (.int .i64 y.w)) hRl (.int .i64 y.h))
    have HB := Lib.hid (bel_setCell (p := ⟨g, 3, none⟩) (bel_setCell (p := ⟨g, 2, none⟩) (bel_setCell (p := ⟨g, 1, none⟩) (bel_setCell (p := ⟨g, 0, none⟩) hb4 hgw (.int .i64 y.x)) hgw (.int .i64 y.y)) hgw (.int .i64 y.w)) hgw (.int .i64 y.h))
    clear k4 x4 hr4 hb4
    go_wp2
    refine bodyPost_ret (v := .agg #[.int .i64 y.x, .int .i64 y.y, .int .i64 y.w, .int .i64 y.h]) ?_ rfl ⟨y, rfl, HR.out.mono (by omega), HB.out⟩
    simp [results, Try.results74, go_sem, q0, q1, q2, q3]
  · have h0' : (r == 0) = false := by simp [h0]
    clear h0
    by_cases h1 : r = 1
    · subst h1
      go_wp2_with (fail)
      refine (one_any (l := [-1, 200000, 200001]) _ (hr3.ext (Below.of_alloc _ _)) (by omega) (heapAt _ rfl) (by have := hr3.lt; omega) (by simp) (by simp)).mono ?_
      rintro e w5 ⟨t, rfl, _, hr5, hx5⟩
      have hb5 := afterR (bel_alloc hb3 (Nat.le_refl _) _) hx5 (Nat.le_refl _)
      have k5 := (k3.alloc _).extR hx5 (by omega)
      have x5 := (x3.alloc _).extR hx5 (by omega)
      have x4 : Keep f (.cells #[.int .i64 x.x, .int .i64 x.y, .int .i64 t, .int .i64 x.h] 39) (w5.setCell ⟨f, 2, none⟩ (.int .i64 t)) := x5.store 2 (.int .i64 t)
      have k4 := k5.setOther (p := ⟨f, 2, none⟩) (show g ≠ f by omega) (.int .i64 t)
      have c0 := x5.cell 2
      have f0 := x5.frozen 2
      have hr4 := hr5.setCell (p := ⟨f, 2, none⟩) hRx (.int .i64 t)
      have hb4 := bel_setCell (p := ⟨f, 2, none⟩) hb5 hxw (.int .i64 t)
      clear hx5 hb5 k5 x5 hr5 hr3 hb3 k3 x3
      go_upto_region 7 with fail
      clear c0 f0
      generalize w5.setCell ⟨f, 2, none⟩ (.int .i64 t) = W5 at *
      generalize hy : (⟨x.x, x.y, t, x.h⟩ : Rc) = y at *
      replace x4 : Keep f (.cells #[.int .i64 y.x, .int .i64 y.y, .int .i64 y.w, .int .i64 y.h] 39) W5 := by rw [← hy]; exact x4
      clear hy
      have q0 := k4.cell 0
      have q1 := k4.cell 1
      have q2 := k4.cell 2
      have q3 := k4.cell 3
      have z0 := k4.frozen 0
      have z1 := k4.frozen 1
      have z2 := k4.frozen 2
      have z3 := k4.frozen 3
      have x0 := x4.cell 0
      have x1 := x4.cell 1
      have x2 := x4.cell 2
      have x3 := x4.cell 3
      have hl := k4.lt
      have HR := Lib.hid (Rdr.setCell (p := ⟨g, 3, none⟩) (Rdr.setCell (p := ⟨g, 2, none⟩) (Rdr.setCell (p := ⟨g, 1, none⟩) (Rdr.setCell (p := ⟨g, 0, none⟩) hr4 hRl (.int .i64 y.x)) hRl (.int .i64 y.y)) hRl (.int .i64 y.w)) hRl (.int .i64 y.h))
      have HB := Lib.hid (bel_setCell (p := ⟨g, 3, none⟩) (bel_setCell (p := ⟨g, 2, none⟩) (bel_setCell (p := ⟨g, 1, none⟩) (bel_setCell (p := ⟨g, 0, none⟩) hb4 hgw (.int .i64 y.x)) hgw (.int .i64 y.y)) hgw (.int .i64 y.w)) hgw (.int .i64 y.h))
      clear k4 x4 hr4 hb4
      go_wp2
      refine bodyPost_ret (v := .agg #[.int .i64 y.x, .int .i64 y.y, .int .i64 y.w, .int .i64 y.h]) ?_ rfl ⟨y, rfl, HR.out.mono (by omega), HB.out⟩
      simp [results, Try.results74, go_sem, q0, q1, q2, q3]
    · have h1' : (r == 1) = false := by simp [h1]
      have k4 := k3
      have x4 := x3
      have hr4 := hr3
      have hb4 := hb3
      clear h1 hr3 hb3 k3 x3
      generalize x = y at *
      have q0 := k4.cell 0
      have q1 := k4.cell 1
      have q2 := k4.cell 2
      have q3 := k4.cell 3
      have z0 := k4.frozen 0
      have z1 := k4.frozen 1
      have z2 := k4.frozen 2
      have z3 := k4.frozen 3
      have x0 := x4.cell 0
      have x1 := x4.cell 1
      have x2 := x4.cell 2
      have x3 := x4.cell 3
      have hl := k4.lt
      have HR := Lib.hid (Rdr.setCell (p := ⟨g, 3, none⟩) (Rdr.setCell (p := ⟨g, 2, none⟩) (Rdr.setCell (p := ⟨g, 1, none⟩) (Rdr.setCell (p := ⟨g, 0, none⟩) hr4 hRl (.int .i64 y.x)) hRl (.int .i64 y.y)) hRl (.int .i64 y.w)) hRl (.int .i64 y.h))
      have HB := Lib.hid (bel_setCell (p := ⟨g, 3, none⟩) (bel_setCell (p := ⟨g, 2, none⟩) (bel_setCell (p := ⟨g, 1, none⟩) (bel_setCell (p := ⟨g, 0, none⟩) hb4 hgw (.int .i64 y.x)) hgw (.int .i64 y.y)) hgw (.int .i64 y.w)) hgw (.int .i64 y.h))
      clear k4 x4 hr4 hb4
      go_wp2
      refine bodyPost_ret (v := .agg #[.int .i64 y.x, .int .i64 y.y, .int .i64 y.w, .int .i64 y.h]) ?_ rfl ⟨y, rfl, HR.out.mono (by omega), HB.out⟩
      simp [results, Try.results74, go_sem, q0, q1, q2, q3]
theorem RdBytes.ext2 {w w' : World} {v : Value} (h : RdBytes w v) (hx : Ext w w') : RdBytes w' v := by
  obtain ⟨a, n, c, rfl, hn, hc, h⟩ := h
  refine ⟨a, n, c, rfl, hn, hc, ?_⟩
  rcases h with h | ⟨b, off, ha, hb, hj⟩
  · exact .inl h
  · refine .inr ⟨b, off, ha, Nat.lt_of_lt_of_le hb hx.size, fun j hj' => ?_⟩
    obtain ⟨x, h1, h2, h3⟩ := hj j hj'
    exact ⟨x, h1, h2, by rw [hx.cell (by exact hb)]; exact h3⟩
set_option maxRecDepth 100000 in
set_option maxHeartbeats 8000000 in
theorem DrawSeenBoxes_any {v : Value} (w : World) (hv : RdBytes w v) :
    Calls Try.prog 37 #[v] w fun e w' => ∃ (v' : Value) (sw sh : Int) (x : Rc), e = .returned (.tuple #[v', .int .i64 sw, .int .i64 sh, x.agg]) ∧ ∃ l : List Bx, l.length ≤ 16 ∧ Own w' w.heap.size 9 v' (Bs l) ∧ Ext w w' := by
  have hv0 := hv.ext2 (Below.of_alloc w (.cells #[.int .i64 0, .int .i64 0, .int .i64 0, .int .i64 0] 39))
  have k0 : Keep w.heap.size (.cells #[.int .i64 0, .int .i64 0, .int .i64 0, .int .i64 0] 39) (w.alloc (.cells #[.int .i64 0, .int .i64 0, .int .i64 0, .int .i64 0] 39)) := Keep.new _ _
  have b0 : Below w.heap.size w (w.alloc (.cells #[.int .i64 0, .int .i64 0, .int .i64 0, .int .i64 0] 39)) := Below.of_alloc _ _
  clear hv
  go_enter Try.func37, Try.ntmps37
  go_wp2_with (fail)
  change Calls _ _ _ (w.alloc (.cells #[.int .i64 0, .int .i64 0, .int .i64 0, .int .i64 0] 39)) _
  generalize w.alloc (.cells #[.int .i64 0, .int .i64 0, .int .i64 0, .int .i64 0] 39) = W0 at *
  obtain ⟨g, hg⟩ : ∃ g, w.heap.size = g := ⟨_, rfl⟩
  rw [hg] at k0 ⊢
  have hgw : w.heap.size ≤ g := by omega
  have hgw2 : g ≤ w.heap.size := by omega
  have hs0 : g < W0.heap.size := k0.lt
  clear hg
  refine (newReader_any _ hv0).mono ?_
  rintro e w1 ⟨rfl, hr1, hx1⟩
  have k1 := k0.extR (R := W0.heap.size) (bel_of hx1) (by omega)
  go_wp2_with (fail)
  refine (anyTree_any _ hr1 (by omega)).mono ?_
  rintro e w2 ⟨v2, rfl, l, hl16, ho2, hr2, hx2⟩
  have hb2 := afterR (bel_of hx1) hx2 (Nat.le_refl _)
  have k2 := k1.extR hx2 (by omega)
  have hR1 := hr1.lt
  have hs1 := hx1.size
  clear hr1 hx1 hx2 k1 k0
  go_wp2_with (fail)
  refine (someSide_any _ hr2 (by omega)).mono ?_
  rintro e w3 ⟨i, rfl, _, _, hr3, hx3⟩
  have hb3 := afterR hb2 hx3 (Nat.le_refl _)
  have k3 := k2.extR hx3 (by omega)
  have ho3 := ho2.bel hx3 hR1
  clear hr2 hx3 hb2 ho2 k2
  go_wp2_with (fail)
  refine (someSide_any _ hr3 (by omega)).mono ?_
  rintro e w4 ⟨j, rfl, _, _, hr4, hx4⟩
  have hb4 := afterR hb3 hx4 (Nat.le_refl _)
  have k4 := k3.extR hx4 (by omega)
  have ho4 := ho3.bel hx4 hR1
  clear hr3 hx4 hb3 ho3 k3
  go_wp2_with (fail)
  refine (anyRect_any _ hr4 (by omega)).mono ?_
  rintro e w5 ⟨x, rfl, hr5, hx5⟩
  have hb5 := afterR hb4 hx5 (Nat.le_refl _)
  have k5 := k4.extR hx5 (by omega)
  have ho5 := ho4.bel hx5 hR1
  clear hr4 hx5 hb4 ho4 k4
  have hr6 := hr5.ext (Below.of_alloc w5 (.cells #[.int .i64 x.x, .int .i64 x.y, .int .i64 x.w, .int .i64 x.h] 39))
  have hb6 := bel_alloc hb5 (Nat.le_refl _) (.cells #[.int .i64 x.x, .int .i64 x.y, .int .i64 x.w, .int .i64 x.h] 39)
  have k6 := k5.alloc (.cells #[.int .i64 x.x, .int .i64 x.y, .int .i64 x.w, .int .i64 x.h] 39)
  have x6 := Keep.new w5 (.cells #[.int .i64 x.x, .int .i64 x.y, .int .i64 x.w, .int .i64 x.h] 39)
  have ho6 := ho5.alloc (.cells #[.int .i64 x.x, .int .i64 x.y, .int .i64 x.w, .int .i64 x.h] 39)
  have hgx := k5.lt
  have hRx := hr5.lt
  have hxw := hb5.size
  have HBV : Hid (blk v2 ≠ some w5.heap.size) := fun e => by
    have := (ho5.lt _ e).2
    omega
  clear hr5 hb5 k5 ho5
  unfold Rc.agg
  go_wp2_with (fail)
  change Calls _ _ _ (w5.alloc (.cells #[.int .i64 x.x, .int .i64 x.y, .int .i64 x.w, .int .i64 x.h] 39)) _
  generalize w5.alloc (.cells #[.int .i64 x.x, .int .i64 x.y, .int .i64 x.w, .int .i64 x.h] 39) = W5 at *
  obtain ⟨f, hf⟩ : ∃ f, w5.heap.size = f := ⟨_, rfl⟩
  rw [hf] at x6 hgx hRx hxw HBV ⊢
  clear hf
  refine (pick_any 2 _ hr6 (by omega)).mono ?_
  rintro e w7 ⟨r, rfl, _, hr7, hx7⟩
  have hb7 := afterR hb6 hx7 (Nat.le_refl _)
  have k7 := k6.extR hx7 (by omega)
  have x7 := x6.extR hx7 (by omega)
  have ho7 := ho6.bel hx7 hR1
  clear hr6 hx7 hb6 k6 x6 ho6
  by_cases h0 : r = 0
  · subst h0
    go_wp2_with (fail)
    refine (pick_any 100 _ hr7 (by omega)).mono ?_
    rintro e wpa ⟨ra, rfl, _, hrpa, hx⟩
    have hbpa := afterR hb7 hx (Nat.le_refl _)
    have kpa := k7.extR hx (by omega)
    have xpa := x7.extR hx (by omega)
    have hopa := ho7.bel hx hR1
    clear hr7 hx hb7 k7 x7 ho7
    go_wp2_with (fail)
    refine (pick_any 100 _ hrpa (by omega)).mono ?_
    rintro e wpb ⟨rb, rfl, _, hrpb, hx⟩
    have hbpb := afterR hbpa hx (Nat.le_refl _)
    have kpb := kpa.extR hx (by omega)
    have xpb := xpa.extR hx (by omega)
    have hopb := hopa.bel hx hR1
    clear hrpa hx hbpa kpa xpa hopa
    go_wp2_with (fail)
    refine (pick_any 100 _ hrpb (by omega)).mono ?_
    rintro e wpc ⟨rc, rfl, _, hrpc, hx⟩
    have hbpc := afterR hbpb hx (Nat.le_refl _)
    have kpc := kpb.extR hx (by omega)
    have xpc := xpb.extR hx (by omega)
    have hopc := hopb.bel hx hR1
    clear hrpb hx hbpb kpb xpb hopb
    go_wp2_with (fail)
    refine (pick_any 100 _ hrpc (by omega)).mono ?_
    rintro e wd ⟨rd, rfl, _, hra, hx⟩
    have hba := afterR hbpc hx (Nat.le_refl _)
    have ka := kpc.extR hx (by omega)
    have xa := xpc.extR hx (by omega)
    have hoa := hopc.bel hx hR1
    clear hrpc hx hbpc kpc xpc hopc
    have c0 := xa.cell 0
    have c1 := xa.cell 1
    have c2 := xa.cell 2
    have c3 := xa.cell 3
    have f0 := xa.frozen 0
    have f1 := xa.frozen 1
    have f2 := xa.frozen 2
    have f3 := xa.frozen 3
    have x8 := keepRect xa rfl (.int .i64 ra) (.int .i64 rb) (.int .i64 rc) (.int .i64 rd)
    have k8 := (((ka.setOther (p := ⟨f, 0, none⟩) (show g ≠ f by omega) (.int .i64 ra)).setOther (p := ⟨f, 1, none⟩) (show g ≠ f by omega) (.int .i64 rb)).setOther (p := ⟨f, 2, none⟩) (show g ≠ f by omega) (.int .i64 rc)).setOther (p := ⟨f, 3, none⟩) (show g ≠ f by omega) (.int .i64 rd)
    have ho8 := (((hoa.setOther (p := ⟨f, 0, none⟩) HBV.out (.int .i64 ra)).setOther (p := ⟨f, 1, none⟩) HBV.out (.int .i64 rb)).setOther (p := ⟨f, 2, none⟩) HBV.out (.int .i64 rc)).setOther (p := ⟨f, 3, none⟩) HBV.out (.int .i64 rd)
    have HB9 : Hid (Below w.heap.size w wd) := b0.trans (below_of_bel (hba.mono (by omega)) (by omega))
    have HB8 := Lib.hid (below_set4' (o1 := 0) (o2 := 1) (o3 := 2) (o4 := 3) HB9.out (show w.heap.size ≤ f by omega) (.int .i64 ra) (.int .i64 rb) (.int .i64 rc) (.int .i64 rd))
    clear xa ka hoa hba HB9 hra b0
    go_upto_region 8 with fail
    clear c0 c1 c2 c3 f0 f1 f2 f3
    generalize (((wd.setCell ⟨f, 0, none⟩ (.int .i64 ra)).setCell ⟨f, 1, none⟩ (.int .i64 rb)).setCell ⟨f, 2, none⟩ (.int .i64 rc)).setCell ⟨f, 3, none⟩ (.int .i64 rd) = W8 at *
    generalize hy : (⟨ra, rb, rc, rd⟩ : Rc) = y at *
    replace x8 : Keep f (.cells #[.int .i64 y.x, .int .i64 y.y, .int .i64 y.w, .int .i64 y.h] 39) W8 := by rw [← hy]; exact x8
    clear hy
    have q0 := k8.cell 0
    have q1 := k8.cell 1
    have q2 := k8.cell 2
    have q3 := k8.cell 3
    have z0 := k8.frozen 0
    have z1 := k8.frozen 1
    have z2 := k8.frozen 2
    have z3 := k8.frozen 3
    have x0 := x8.cell 0
    have x1 := x8.cell 1
    have x2 := x8.cell 2
    have x3 := x8.cell 3
    have hl := k8.lt
    have hblk : blk v2 ≠ some g := fun e => by
      have := (ho8.lt _ e).1
      omega
    have HO := Lib.hid ((((ho8.setOther (p := ⟨g, 0, none⟩) hblk (.int .i64 y.x)).setOther (p := ⟨g, 1, none⟩) hblk (.int .i64 y.y)).setOther (p := ⟨g, 2, none⟩) hblk (.int .i64 y.w)).setOther (p := ⟨g, 3, none⟩) hblk (.int .i64 y.h))
    have HB := Lib.hid (below_set4' (o1 := 0) (o2 := 1) (o3 := 2) (o4 := 3) HB8.out hgw (.int .i64 y.x) (.int .i64 y.y) (.int .i64 y.w) (.int .i64 y.h))
    clear k8 x8 ho8 hblk
    go_upto_region 8 with fail
    go_region
    go_wp2
    refine bodyPost_ret (v := .tuple #[v2, .int .i64 i, .int .i64 j, .agg #[.int .i64 y.x, .int .i64 y.y, .int .i64 y.w, .int .i64 y.h]]) ?_ rfl ⟨_, i, j, y, rfl, l, hl16, (HO.out.weak (by omega)).drew, HB.out.drew⟩
    simp [results, Try.results37, go_sem, q0, q1, q2, q3]
  · have h0' : (r == 0) = false := by simp [h0]
    have k8 := k7
    have x8 := x7
    have ho8 := ho7
    have HB8 : Hid (Below w.heap.size w w7) := b0.trans (below_of_bel (hb7.mono (by omega)) (by omega))
    clear h0 hr7 hb7 k7 x7 ho7 b0
    generalize x = y at *
    have q0 := k8.cell 0
    have q1 := k8.cell 1
    have q2 := k8.cell 2
    have q3 := k8.cell 3
    have z0 := k8.frozen 0
    have z1 := k8.frozen 1
    have z2 := k8.frozen 2
    have z3 := k8.frozen 3
    have x0 := x8.cell 0
    have x1 := x8.cell 1
    have x2 := x8.cell 2
    have x3 := x8.cell 3
    have hl := k8.lt
    have hblk : blk v2 ≠ some g := fun e => by
      have := (ho8.lt _ e).1
      omega
    have HO := Lib.hid ((((ho8.setOther (p := ⟨g, 0, none⟩) hblk (.int .i64 y.x)).setOther (p := ⟨g, 1, none⟩) hblk (.int .i64 y.y)).setOther (p := ⟨g, 2, none⟩) hblk (.int .i64 y.w)).setOther (p := ⟨g, 3, none⟩) hblk (.int .i64 y.h))
    have HB := Lib.hid (below_set4' (o1 := 0) (o2 := 1) (o3 := 2) (o4 := 3) HB8.out hgw (.int .i64 y.x) (.int .i64 y.y) (.int .i64 y.w) (.int .i64 y.h))
    clear k8 x8 ho8 hblk
    go_upto_region 8 with fail
    go_region
    go_wp2
    refine bodyPost_ret (v := .tuple #[v2, .int .i64 i, .int .i64 j, .agg #[.int .i64 y.x, .int .i64 y.y, .int .i64 y.w, .int .i64 y.h]]) ?_ rfl ⟨_, i, j, y, rfl, l, hl16, (HO.out.weak (by omega)).drew, HB.out.drew⟩
    simp [results, Try.results37, go_sem, q0, q1, q2, q3]
end Go.Proofs.Ytbkhbmcoococmaa
