/-
  Rectangles that may be any ones: valid, validRect; meet and MeetRects where there are common points.
-/
import Derived.Test.YtbkhbmcoococmaaMeet
namespace Go.Proofs.Ytbkhbmcoococmaa
open Go Go.RowKit

/-- is a rectangle valid? -/
def vrB (r : Rc) : Bool := inR r.x (-100000) 100000 && (inR r.y (-100000) 100000 && (inR r.w 0 200000 && inR r.h 0 200000))
theorem vrB_iff {r : Rc} : vrB r = true ↔ VR r := by
  unfold vrB
  rw [Bool.and_eq_true, Bool.and_eq_true, Bool.and_eq_true]
  exact ⟨fun ⟨a, b, c, d⟩ => ⟨a, b, c, d⟩, fun ⟨a, b, c, d⟩ => ⟨a, b, c, d⟩⟩
theorem VR.rs {r : Rc} (h : VR r) : RS r := by
  obtain ⟨h1, h2, h3, h4⟩ := h
  rw [inR_iff] at h1 h2 h3 h4
  exact ⟨by omega, by omega, by omega, by omega⟩
set_option maxHeartbeats 1000000 in
theorem rvalidA_any {r : Rc} (w : World) :
    Calls Try.prog 72 #[r.agg] w fun x w' => x = .returned (.bool (vrB r)) ∧ Ext w w' := by
  unfold Rc.agg
  go_enter Try.func72, Try.ntmps72
  go_wp2_with (fail)
  refine (within_any _ _ _ _).mono ?_
  rintro e w1 ⟨he, rfl⟩
  cases h1 : inR r.x (-100000) 100000 with
  | false =>
    rw [h1] at he
    subst he
    have HE : Hid (vrB r = false) := by
      show _ = _
      unfold vrB
      simp [h1]
    go_wp2
    go_ret
    exact ⟨by rw [HE.out]; rfl, Below.of_alloc _ _⟩
  | true =>
  rw [h1] at he
  subst he
  go_wp2_with (fail)
  refine (within_any _ _ _ _).mono ?_
  rintro e w1 ⟨he, rfl⟩
  cases h2 : inR r.y (-100000) 100000 with
  | false =>
    rw [h2] at he
    subst he
    have HE : Hid (vrB r = false) := by
      show _ = _
      unfold vrB
      simp [h2]
    go_wp2
    go_ret
    exact ⟨by rw [HE.out]; rfl, Below.of_alloc _ _⟩
  | true =>
  rw [h2] at he
  subst he
  go_wp2_with (fail)
  refine (sizeOk_any _ _).mono ?_
  rintro e w1 ⟨he, rfl⟩
  cases h3 : inR r.w 0 200000 with
  | false =>
    rw [h3] at he
    subst he
    have HE : Hid (vrB r = false) := by
      show _ = _
      unfold vrB
      simp [h3]
    go_wp2
    go_ret
    exact ⟨by rw [HE.out]; rfl, Below.of_alloc _ _⟩
  | true =>
  rw [h3] at he
  subst he
  go_wp2_with (fail)
  refine (sizeOk_any _ _).mono ?_
  rintro e w1 ⟨he, rfl⟩
  cases h4 : inR r.h 0 200000 with
  | false =>
    rw [h4] at he
    subst he
    have HE : Hid (vrB r = false) := by
      show _ = _
      unfold vrB
      simp [h4]
    go_wp2
    go_ret
    exact ⟨by rw [HE.out]; rfl, Below.of_alloc _ _⟩
  | true =>
  rw [h4] at he
  subst he
  have HE : Hid (vrB r = true) := by
    show _ = _
    unfold vrB
    simp [h1, h2, h3, h4]
  go_wp2
  go_ret
  exact ⟨by rw [HE.out]; rfl, Below.of_alloc _ _⟩
set_option maxHeartbeats 1000000 in
theorem svalidRect_any {r : Rc} (w : World) :
    Calls Try.prog 75 #[r.agg] w fun x w' => x = .returned (.bool (vrB r)) ∧ Ext w w' := by
  unfold Rc.agg
  go_enter Try.func75, Try.ntmps75
  go_wp2_with (fail)
  refine (inRange_any _ _ _ _).mono ?_
  rintro e w1 ⟨he, rfl⟩
  cases h1 : inR r.x (-100000) 100000 with
  | false =>
    rw [h1] at he
    subst he
    have HE : Hid (vrB r = false) := by
      show _ = _
      unfold vrB
      simp [h1]
    go_wp2
    go_ret
    exact ⟨by rw [HE.out]; rfl, Below.of_alloc _ _⟩
  | true =>
  rw [h1] at he
  subst he
  go_wp2_with (fail)
  refine (inRange_any _ _ _ _).mono ?_
  rintro e w1 ⟨he, rfl⟩
  cases h2 : inR r.y (-100000) 100000 with
  | false =>
    rw [h2] at he
    subst he
    have HE : Hid (vrB r = false) := by
      show _ = _
      unfold vrB
      simp [h2]
    go_wp2
    go_ret
    exact ⟨by rw [HE.out]; rfl, Below.of_alloc _ _⟩
  | true =>
  rw [h2] at he
  subst he
  go_wp2_with (fail)
  refine (inRange_any _ _ _ _).mono ?_
  rintro e w1 ⟨he, rfl⟩
  cases h3 : inR r.w 0 200000 with
  | false =>
    rw [h3] at he
    subst he
    have HE : Hid (vrB r = false) := by
      show _ = _
      unfold vrB
      simp [h3]
    go_wp2
    go_ret
    exact ⟨by rw [HE.out]; rfl, Below.of_alloc _ _⟩
  | true =>
  rw [h3] at he
  subst he
  go_wp2_with (fail)
  refine (inRange_any _ _ _ _).mono ?_
  rintro e w1 ⟨he, rfl⟩
  cases h4 : inR r.h 0 200000 with
  | false =>
    rw [h4] at he
    subst he
    have HE : Hid (vrB r = false) := by
      show _ = _
      unfold vrB
      simp [h4]
    go_wp2
    go_ret
    exact ⟨by rw [HE.out]; rfl, Below.of_alloc _ _⟩
  | true =>
  rw [h4] at he
  subst he
  have HE : Hid (vrB r = true) := by
    show _ = _
    unfold vrB
    simp [h1, h2, h3, h4]
  go_wp2
  go_ret
  exact ⟨by rw [HE.out]; rfl, Below.of_alloc _ _⟩
set_option maxRecDepth 100000 in
set_option maxHeartbeats 8000000 in
theorem meetT_any {r s : Rc} (w : World) (hr : RS r) (hs : RS s) (hm : meetB r s = true) :
    Calls Try.prog 77 #[r.agg, s.agg] w fun x w' => (∃ t : Rc, x = .returned (.tuple #[t.agg, .bool true])) ∧ Ext w w' := by
  obtain ⟨x, y, rw_, rh⟩ := r
  obtain ⟨x2, y2, w2, v2⟩ := s
  obtain ⟨a1, a2, a3, a4⟩ := hr
  obtain ⟨b1, b2, b3, b4⟩ := hs
  dsimp only at a1 a2 a3 a4 b1 b2 b3 b4
  have HM : Hid (0 < min (x + rw_) (x2 + w2) - max x x2 ∧ 0 < min (y + rh) (y2 + v2) - max y y2) := by
    obtain ⟨h1, h2⟩ := (Bool.and_eq_true _ _).mp hm
    exact ⟨of_decide_eq_true h1, of_decide_eq_true h2⟩
  unfold Rc.agg
  clear hm
  have hb0 := (ext_two w (.cells #[.int .i64 x, .int .i64 y, .int .i64 rw_, .int .i64 rh] 39) (.cells #[.int .i64 x2, .int .i64 y2, .int .i64 w2, .int .i64 v2] 39)).alloc (by simp; omega) (.cells #[.int .i64 0, .int .i64 0, .int .i64 0, .int .i64 0] 39)
  have k0 : Keep (w.heap.size + 2) (.cells #[.int .i64 0, .int .i64 0, .int .i64 0, .int .i64 0] 39) _ := keep_next2 w (.cells #[.int .i64 x, .int .i64 y, .int .i64 rw_, .int .i64 rh] 39) (.cells #[.int .i64 x2, .int .i64 y2, .int .i64 w2, .int .i64 v2] 39) _
  have HB := Lib.hid hb0
  have HK := Lib.hid k0
  clear hb0 k0
  go_enter Try.func77, Try.ntmps77
  go_wp2_with (fail)
  all_goals
    refine (between_any _ (by omega) (by omega) (by omega) (by omega)).mono ?_
    rintro e w1 ⟨⟨⟨ta, tb, tw, th⟩, rfl, e1, e2⟩, hx⟩
    dsimp only at e1 e2
    have hw : 0 < tw ∧ 0 < th := by
      have := HM.out
      omega
    have hb1 := after HB.out hx (Nat.le_refl _)
    have k1 : Keep (w.heap.size + 2) (.cells #[.int .i64 0, .int .i64 0, .int .i64 0, .int .i64 0] 39) w1 := (hx.block _ HK.out.lt).trans HK.out
    clear hx e1 e2
    have kt := Keep.new w1 (.cells #[.int .i64 ta, .int .i64 tb, .int .i64 tw, .int .i64 th] 39)
    have k2 := k1.alloc (.cells #[.int .i64 ta, .int .i64 tb, .int .i64 tw, .int .i64 th] 39)
    have hb2 := hb1.alloc hb1.size (.cells #[.int .i64 ta, .int .i64 tb, .int .i64 tw, .int .i64 th] 39)
    have hne : w1.heap.size ≠ w.heap.size + 2 := by have := k1.lt; omega
    clear k1 hb1
    unfold Rc.agg
    go_upto_region 2 with fail
    generalize w1.alloc (.cells #[.int .i64 ta, .int .i64 tb, .int .i64 tw, .int .i64 th] 39) = W2 at *
    generalize w1.heap.size = g at *
    have p0 : W2.cell? ⟨g, 0, none⟩ = some (.int .i64 ta) := kt.cell 0
    have p1 : W2.cell? ⟨g, 1, none⟩ = some (.int .i64 tb) := kt.cell 1
    have p2 : W2.cell? ⟨g, 2, none⟩ = some (.int .i64 tw) := kt.cell 2
    have p3 : W2.cell? ⟨g, 3, none⟩ = some (.int .i64 th) := kt.cell 3
    have q0 : W2.cell? ⟨w.heap.size + 2, 0, none⟩ = some (.int .i64 0) := k2.cell 0
    have q1 : W2.cell? ⟨w.heap.size + 2, 1, none⟩ = some (.int .i64 0) := k2.cell 1
    have q2 : W2.cell? ⟨w.heap.size + 2, 2, none⟩ = some (.int .i64 0) := k2.cell 2
    have q3 : W2.cell? ⟨w.heap.size + 2, 3, none⟩ = some (.int .i64 0) := k2.cell 3
    have z0 : W2.frozen? ⟨w.heap.size + 2, 0, none⟩ = false := k2.frozen 0
    have z1 : W2.frozen? ⟨w.heap.size + 2, 1, none⟩ = false := k2.frozen 1
    have z2 : W2.frozen? ⟨w.heap.size + 2, 2, none⟩ = false := k2.frozen 2
    have z3 : W2.frozen? ⟨w.heap.size + 2, 3, none⟩ = false := k2.frozen 3
    have HB2 := Lib.hid hb2
    have hl2 := k2.lt
    clear hb2 k2 kt
    obtain ⟨hq, ht⟩ := hw
    go_region
    go_wp2
    refine bodyPost_ret (v := .tuple #[.agg #[.int .i64 ta, .int .i64 tb, .int .i64 tw, .int .i64 th], .bool true]) ?_ rfl ⟨⟨⟨ta, tb, tw, th⟩, rfl⟩, ?_⟩
    · simp [results, Try.results77, go_sem, q0, q1, q2, q3]
    · exact (below_set4' HB2.out (by omega) _ _ _ _).drew
set_option maxRecDepth 100000 in
set_option maxHeartbeats 4000000 in
theorem MeetRectsT_any {r s : Rc} (w : World) (hr : RS r) (hs : RS s) (vr : VR r) (vs : VR s) (hm : meetB r s = true) :
    Calls Try.prog 39 #[r.agg, s.agg] w fun x w' => (∃ t : Rc, x = .returned (.tuple #[t.agg, .bool true])) ∧ Ext w w' := by
  have hb0 := (ext_two w (.cells #[.int .i64 r.x, .int .i64 r.y, .int .i64 r.w, .int .i64 r.h] 39) (.cells #[.int .i64 s.x, .int .i64 s.y, .int .i64 s.w, .int .i64 s.h] 39)).alloc (by simp; omega) (.cells #[.int .i64 0, .int .i64 0, .int .i64 0, .int .i64 0] 39)
  have k0 := keep_next2 w (.cells #[.int .i64 r.x, .int .i64 r.y, .int .i64 r.w, .int .i64 r.h] 39) (.cells #[.int .i64 s.x, .int .i64 s.y, .int .i64 s.w, .int .i64 s.h] 39) (.cells #[.int .i64 0, .int .i64 0, .int .i64 0, .int .i64 0] 39)
  have ks := (keep_next w (.cells #[.int .i64 r.x, .int .i64 r.y, .int .i64 r.w, .int .i64 r.h] 39) (.cells #[.int .i64 s.x, .int .i64 s.y, .int .i64 s.w, .int .i64 s.h] 39)).alloc (.cells #[.int .i64 0, .int .i64 0, .int .i64 0, .int .i64 0] 39)
  have kr := ((Keep.new w (.cells #[.int .i64 r.x, .int .i64 r.y, .int .i64 r.w, .int .i64 r.h] 39)).alloc (.cells #[.int .i64 s.x, .int .i64 s.y, .int .i64 s.w, .int .i64 s.h] 39)).alloc (.cells #[.int .i64 0, .int .i64 0, .int .i64 0, .int .i64 0] 39)
  have HM := Lib.hid (meetT_any (r := r) (s := s))
  unfold Rc.agg
  go_enter Try.func39, Try.ntmps39
  go_upto_region 1 with fail
  generalize ((w.alloc (.cells #[.int .i64 r.x, .int .i64 r.y, .int .i64 r.w, .int .i64 r.h] 39)).alloc (.cells #[.int .i64 s.x, .int .i64 s.y, .int .i64 s.w, .int .i64 s.h] 39)).alloc (.cells #[.int .i64 0, .int .i64 0, .int .i64 0, .int .i64 0] 39) = W at *
  obtain ⟨g, hg⟩ : ∃ g, w.heap.size = g := ⟨_, rfl⟩
  rw [hg] at k0 ks kr ⊢
  have hgw : g ≤ w.heap.size := by omega
  have hgw2 : w.heap.size ≤ g + 2 := by omega
  clear hg
  have r0 := kr.cell 0
  have r1 := kr.cell 1
  have r2 := kr.cell 2
  have r3 := kr.cell 3
  have s0 := ks.cell 0
  have s1 := ks.cell 1
  have s2 := ks.cell 2
  have s3 := ks.cell 3
  go_wp2_with (fail)
  refine (rvalid_any (r := r) _ vr).mono ?_
  rintro e w1 ⟨rfl, hx⟩
  replace hb0 := after hb0 hx (Nat.le_refl _)
  replace k0 : Keep (g + 2) _ w1 := (hx.block _ k0.lt).trans k0
  replace ks : Keep (g + 1) _ w1 := (hx.block _ ks.lt).trans ks
  replace kr : Keep g _ w1 := (hx.block _ kr.lt).trans kr
  clear r0 r1 r2 r3 s0 s1 s2 s3 hx
  have r0 := kr.cell 0
  have r1 := kr.cell 1
  have r2 := kr.cell 2
  have r3 := kr.cell 3
  have s0 := ks.cell 0
  have s1 := ks.cell 1
  have s2 := ks.cell 2
  have s3 := ks.cell 3
  go_wp2_with (fail)
  refine (rvalid_any (r := s) _ vs).mono ?_
  rintro e w2 ⟨rfl, hx⟩
  replace hb0 := after hb0 hx (Nat.le_refl _)
  replace k0 : Keep (g + 2) _ w2 := (hx.block _ k0.lt).trans k0
  replace ks : Keep (g + 1) _ w2 := (hx.block _ ks.lt).trans ks
  replace kr : Keep g _ w2 := (hx.block _ kr.lt).trans kr
  clear r0 r1 r2 r3 s0 s1 s2 s3 hx
  have r0 := kr.cell 0
  have r1 := kr.cell 1
  have r2 := kr.cell 2
  have r3 := kr.cell 3
  have s0 := ks.cell 0
  have s1 := ks.cell 1
  have s2 := ks.cell 2
  have s3 := ks.cell 3
  go_wp2_with (fail)
  refine (HM.out _ hr hs hm).mono ?_
  rintro e w3 ⟨⟨t, rfl⟩, hx⟩
  replace hb0 := after hb0 hx (Nat.le_refl _)
  replace k0 : Keep (g + 2) _ w3 := (hx.block _ k0.lt).trans k0
  replace ks : Keep (g + 1) _ w3 := (hx.block _ ks.lt).trans ks
  replace kr : Keep g _ w3 := (hx.block _ kr.lt).trans kr
  clear r0 r1 r2 r3 s0 s1 s2 s3 hx
  clear kr ks
  have kt := Keep.new w3 (.cells #[.int .i64 t.x, .int .i64 t.y, .int .i64 t.w, .int .i64 t.h] 39)
  replace k0 := k0.alloc (.cells #[.int .i64 t.x, .int .i64 t.y, .int .i64 t.w, .int .i64 t.h] 39)
  replace hb0 := hb0.alloc hb0.size (.cells #[.int .i64 t.x, .int .i64 t.y, .int .i64 t.w, .int .i64 t.h] 39)
  unfold Rc.agg
  go_upto_region 4 with fail
  generalize w3.alloc (.cells #[.int .i64 t.x, .int .i64 t.y, .int .i64 t.w, .int .i64 t.h] 39) = W4 at *
  generalize w3.heap.size = g3 at *
  have t0 := kt.cell 0
  have t1 := kt.cell 1
  have t2 := kt.cell 2
  have t3 := kt.cell 3
  have q0 := k0.cell 0
  have q1 := k0.cell 1
  have q2 := k0.cell 2
  have q3 := k0.cell 3
  have z0 := k0.frozen 0
  have z1 := k0.frozen 1
  have z2 := k0.frozen 2
  have z3 := k0.frozen 3
  have hl := k0.lt
  have HB := Lib.hid hb0
  clear kt k0 hb0
  go_wp2
  refine bodyPost_ret (v := .tuple #[.agg #[.int .i64 t.x, .int .i64 t.y, .int .i64 t.w, .int .i64 t.h], .bool true]) ?_ rfl ⟨⟨t, rfl⟩, ?_⟩
  · simp [results, Try.results39, go_sem, q0, q1, q2, q3]
  · exact below_set4' HB.out hgw2 _ _ _ _
/-- what spec.meet answers -/
def mR (r s : Rc) : Rc := ⟨max r.x s.x, max r.y s.y, min (r.x + r.w) (s.x + s.w) - max r.x s.x, min (r.y + r.h) (s.y + s.h) - max r.y s.y⟩
set_option maxRecDepth 100000 in
set_option maxHeartbeats 8000000 in
theorem smeet_any {r s : Rc} (w : World) (hr : RS r) (hs : RS s) :
    Calls Try.prog 76 #[r.agg, s.agg] w fun x w' => x = .returned (.tuple #[(mR r s).agg, .bool (meetB r s)]) ∧ Ext w w' := by
  obtain ⟨x, y, rw_, rh⟩ := r
  obtain ⟨x2, y2, w2, v2⟩ := s
  obtain ⟨a1, a2, a3, a4⟩ := hr
  obtain ⟨b1, b2, b3, b4⟩ := hs
  dsimp only at a1 a2 a3 a4 b1 b2 b3 b4
  have HM : Hid (meetB ⟨x, y, rw_, rh⟩ ⟨x2, y2, w2, v2⟩ = (decide (0 < min (x + rw_) (x2 + w2) - max x x2) && decide (0 < min (y + rh) (y2 + v2) - max y y2))) := rfl
  unfold Rc.agg mR
  have hb0 := (ext_two w (.cells #[.int .i64 x, .int .i64 y, .int .i64 rw_, .int .i64 rh] 39) (.cells #[.int .i64 x2, .int .i64 y2, .int .i64 w2, .int .i64 v2] 39)).alloc (by simp; omega) (.cells #[.int .i64 0, .int .i64 0, .int .i64 0, .int .i64 0] 39)
  have k0 := keep_next2 w (.cells #[.int .i64 x, .int .i64 y, .int .i64 rw_, .int .i64 rh] 39) (.cells #[.int .i64 x2, .int .i64 y2, .int .i64 w2, .int .i64 v2] 39) (.cells #[.int .i64 0, .int .i64 0, .int .i64 0, .int .i64 0] 39)
  have ks := (keep_next w (.cells #[.int .i64 x, .int .i64 y, .int .i64 rw_, .int .i64 rh] 39) (.cells #[.int .i64 x2, .int .i64 y2, .int .i64 w2, .int .i64 v2] 39)).alloc (.cells #[.int .i64 0, .int .i64 0, .int .i64 0, .int .i64 0] 39)
  have kr := ((Keep.new w (.cells #[.int .i64 x, .int .i64 y, .int .i64 rw_, .int .i64 rh] 39)).alloc (.cells #[.int .i64 x2, .int .i64 y2, .int .i64 w2, .int .i64 v2] 39)).alloc (.cells #[.int .i64 0, .int .i64 0, .int .i64 0, .int .i64 0] 39)
  go_enter Try.func76, Try.ntmps76
  go_upto_region 1 with fail
  generalize ((w.alloc (.cells #[.int .i64 x, .int .i64 y, .int .i64 rw_, .int .i64 rh] 39)).alloc (.cells #[.int .i64 x2, .int .i64 y2, .int .i64 w2, .int .i64 v2] 39)).alloc (.cells #[.int .i64 0, .int .i64 0, .int .i64 0, .int .i64 0] 39) = W at *
  obtain ⟨g, hg⟩ : ∃ g, w.heap.size = g := ⟨_, rfl⟩
  rw [hg] at k0 ks kr ⊢
  have hgw2 : w.heap.size ≤ g + 2 := by omega
  clear hg
  have r0 := kr.cell 0
  have r1 := kr.cell 1
  have r2 := kr.cell 2
  have r3 := kr.cell 3
  have s0 := ks.cell 0
  have s1 := ks.cell 1
  have s2 := ks.cell 2
  have s3 := ks.cell 3
  have q0 := k0.cell 0
  have q1 := k0.cell 1
  have q2 := k0.cell 2
  have q3 := k0.cell 3
  have z0 := k0.frozen 0
  have z1 := k0.frozen 1
  have z2 := k0.frozen 2
  have z3 := k0.frozen 3
  have hl := k0.lt
  have HB := Lib.hid hb0
  have hw1 : IntKind.i64.wrap (x + rw_) = x + rw_ := by rw [IntKind.wrap_i64]; omega
  have hw2 : IntKind.i64.wrap (x2 + w2) = x2 + w2 := by rw [IntKind.wrap_i64]; omega
  have hw3 : IntKind.i64.wrap (y + rh) = y + rh := by rw [IntKind.wrap_i64]; omega
  have hw4 : IntKind.i64.wrap (y2 + v2) = y2 + v2 := by rw [IntKind.wrap_i64]; omega
  have hw5 : IntKind.i64.wrap (min (x + rw_) (x2 + w2) - max x x2) = min (x + rw_) (x2 + w2) - max x x2 := by rw [IntKind.wrap_i64]; omega
  have hw6 : IntKind.i64.wrap (min (y + rh) (y2 + v2) - max y y2) = min (y + rh) (y2 + v2) - max y y2 := by rw [IntKind.wrap_i64]; omega
  clear k0 hb0 ks kr
  by_cases h1 : 0 < min (x + rw_) (x2 + w2) - max x x2
  · by_cases h2 : 0 < min (y + rh) (y2 + v2) - max y y2
    · have HE : Hid (meetB ⟨x, y, rw_, rh⟩ ⟨x2, y2, w2, v2⟩ = true) := HM.out.trans (by rw [decide_eq_true h1, decide_eq_true h2]; rfl)
      go_wp2
      all_goals
        refine bodyPost_ret (v := .tuple #[.agg #[.int .i64 (max x x2), .int .i64 (max y y2), .int .i64 (min (x + rw_) (x2 + w2) - max x x2), .int .i64 (min (y + rh) (y2 + v2) - max y y2)], .bool true]) ?_ rfl ⟨by first | (rw [HE.out]; done) | (rw [HE.out]; rfl), ?_⟩
        · simp [results, Try.results76, go_sem, q0, q1, q2, q3]
          omega
        · exact below_set4' HB.out hgw2 _ _ _ _
    · have HE : Hid (meetB ⟨x, y, rw_, rh⟩ ⟨x2, y2, w2, v2⟩ = false) := HM.out.trans (by rw [decide_eq_true h1, decide_eq_false h2]; rfl)
      go_wp2
      all_goals
        refine bodyPost_ret (v := .tuple #[.agg #[.int .i64 (max x x2), .int .i64 (max y y2), .int .i64 (min (x + rw_) (x2 + w2) - max x x2), .int .i64 (min (y + rh) (y2 + v2) - max y y2)], .bool false]) ?_ rfl ⟨by first | (rw [HE.out]; done) | (rw [HE.out]; rfl), ?_⟩
        · simp [results, Try.results76, go_sem, q0, q1, q2, q3]
          omega
        · exact below_set4' HB.out hgw2 _ _ _ _
  · have HE : Hid (meetB ⟨x, y, rw_, rh⟩ ⟨x2, y2, w2, v2⟩ = false) := HM.out.trans (by rw [decide_eq_false h1]; rfl)
    go_wp2
    all_goals
      refine bodyPost_ret (v := .tuple #[.agg #[.int .i64 (max x x2), .int .i64 (max y y2), .int .i64 (min (x + rw_) (x2 + w2) - max x x2), .int .i64 (min (y + rh) (y2 + v2) - max y y2)], .bool false]) ?_ rfl ⟨by first | (rw [HE.out]; done) | (rw [HE.out]; rfl), ?_⟩
      · simp [results, Try.results76, go_sem, q0, q1, q2, q3]
        omega
      · exact below_set4' HB.out hgw2 _ _ _ _
end Go.Proofs.Ytbkhbmcoococmaa
