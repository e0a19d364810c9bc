/-
  Rectangles: between, meet, MeetRects, InsetRect.
-/
import Derived.Test.YtbkhbmcoococmaaAj
namespace Go.Proofs.Ytbkhbmcoococmaa
open Go Go.RowKit

def Rc.small (r : Rc) : Prop := (-1000000 ≤ r.x ∧ r.x ≤ 1000000) ∧ (-1000000 ≤ r.y ∧ r.y ≤ 1000000) ∧ (-1000000 ≤ r.w ∧ r.w ≤ 1000000) ∧ (-1000000 ≤ r.h ∧ r.h ≤ 1000000)
set_option maxHeartbeats 1000000 in
theorem between_any {a b c d : Int} (w : World) (ha : -1000000 ≤ a ∧ a ≤ 1000000) (hb : -1000000 ≤ b ∧ b ≤ 1000000) (hc : -3000000 ≤ c ∧ c ≤ 3000000) (hd : -3000000 ≤ d ∧ d ≤ 3000000) :
    Calls Try.prog 103 #[.int .i64 a, .int .i64 b, .int .i64 c, .int .i64 d] w fun x w' => (∃ t : Rc, x = .returned t.agg ∧ t.w = c - a ∧ t.h = d - b) ∧ Ext w w' := by
  go_enter Try.func103, Try.ntmps103
  go_wp2
  refine bodyPost_ret (v := .agg #[.int .i64 a, .int .i64 b, .int .i64 (c - a), .int .i64 (d - b)]) ?_ rfl ⟨⟨⟨a, b, c - a, d - b⟩, rfl, rfl, rfl⟩, ?_⟩
  · simp [results, Try.results103, go_sem]
  · exact Below.of_alloc _ _
set_option maxRecDepth 100000 in
set_option maxHeartbeats 8000000 in
theorem meet_any {r s : Rc} (w : World) (hr : RS r) (hs : RS s) (hm : meetB r s = false) :
    Calls Try.prog 77 #[r.agg, s.agg] w fun x w' => (∃ t : Rc, x = .returned (.tuple #[t.agg, .bool false])) ∧ Ext w w' := by
  obtain ⟨x, y, rw_, rh⟩ := r
  obtain ⟨x2, y2, w2, v2⟩ := s
  obtain ⟨a1, a2, a3, a4⟩ := hr
  obtain ⟨b1, b2, b3, b4⟩ := hs
  dsimp only at a1 a2 a3 a4 b1 b2 b3 b4
  have HM : Hid (¬ 0 < min (x + rw_) (x2 + w2) - max x x2 ∨ ¬ 0 < min (y + rh) (y2 + v2) - max y y2) := by
    show _ ∨ _
    rcases Bool.and_eq_false_iff.1 hm with h | h
    · exact .inl (of_decide_eq_false h)
    · exact .inr (of_decide_eq_false h)
  unfold Rc.agg
  clear hm
  have hb0 := (ext_two w (.cells #[.int .i64 x, .int .i64 y, .int .i64 rw_, .int .i64 rh] 39) (.cells #[.int .i64 x2, .int .i64 y2, .int .i64 w2, .int .i64 v2] 39)).alloc (by simp; omega) (.cells #[.int .i64 0, .int .i64 0, .int .i64 0, .int .i64 0] 39)
  have k0 : Keep (w.heap.size + 2) (.cells #[.int .i64 0, .int .i64 0, .int .i64 0, .int .i64 0] 39) _ := keep_next2 w (.cells #[.int .i64 x, .int .i64 y, .int .i64 rw_, .int .i64 rh] 39) (.cells #[.int .i64 x2, .int .i64 y2, .int .i64 w2, .int .i64 v2] 39) _
  have HB := Lib.hid hb0
  have HK := Lib.hid k0
  clear hb0 k0
  go_enter Try.func77, Try.ntmps77
  go_wp2_with (fail)
  all_goals
    refine (between_any _ (by omega) (by omega) (by omega) (by omega)).mono ?_
    rintro e w1 ⟨⟨⟨ta, tb, tw, th⟩, rfl, e1, e2⟩, hx⟩
    dsimp only at e1 e2
    have hw : tw ≤ 0 ∨ th ≤ 0 := by
      have := HM.out
      omega
    have hb1 := after HB.out hx (Nat.le_refl _)
    have k1 : Keep (w.heap.size + 2) (.cells #[.int .i64 0, .int .i64 0, .int .i64 0, .int .i64 0] 39) w1 := (hx.block _ HK.out.lt).trans HK.out
    clear hx e1 e2
    have kt := Keep.new w1 (.cells #[.int .i64 ta, .int .i64 tb, .int .i64 tw, .int .i64 th] 39)
    have k2 := k1.alloc (.cells #[.int .i64 ta, .int .i64 tb, .int .i64 tw, .int .i64 th] 39)
    have hb2 := hb1.alloc hb1.size (.cells #[.int .i64 ta, .int .i64 tb, .int .i64 tw, .int .i64 th] 39)
    have hne : w1.heap.size ≠ w.heap.size + 2 := by have := k1.lt; omega
    clear k1 hb1
    unfold Rc.agg
    go_upto_region 2 with fail
    generalize w1.alloc (.cells #[.int .i64 ta, .int .i64 tb, .int .i64 tw, .int .i64 th] 39) = W2 at *
    generalize w1.heap.size = g at *
    have p0 : W2.cell? ⟨g, 0, none⟩ = some (.int .i64 ta) := kt.cell 0
    have p1 : W2.cell? ⟨g, 1, none⟩ = some (.int .i64 tb) := kt.cell 1
    have p2 : W2.cell? ⟨g, 2, none⟩ = some (.int .i64 tw) := kt.cell 2
    have p3 : W2.cell? ⟨g, 3, none⟩ = some (.int .i64 th) := kt.cell 3
    have q0 : W2.cell? ⟨w.heap.size + 2, 0, none⟩ = some (.int .i64 0) := k2.cell 0
    have q1 : W2.cell? ⟨w.heap.size + 2, 1, none⟩ = some (.int .i64 0) := k2.cell 1
    have q2 : W2.cell? ⟨w.heap.size + 2, 2, none⟩ = some (.int .i64 0) := k2.cell 2
    have q3 : W2.cell? ⟨w.heap.size + 2, 3, none⟩ = some (.int .i64 0) := k2.cell 3
    have z0 : W2.frozen? ⟨w.heap.size + 2, 0, none⟩ = false := k2.frozen 0
    have z1 : W2.frozen? ⟨w.heap.size + 2, 1, none⟩ = false := k2.frozen 1
    have z2 : W2.frozen? ⟨w.heap.size + 2, 2, none⟩ = false := k2.frozen 2
    have z3 : W2.frozen? ⟨w.heap.size + 2, 3, none⟩ = false := k2.frozen 3
    have HB2 := Lib.hid hb2
    have hl2 := k2.lt
    clear hb2 k2 kt
    by_cases hq : 0 < tw
    · have ht : ¬ 0 < th := by omega
      clear hw
      go_region
      go_wp2
      refine bodyPost_ret (v := .tuple #[.agg #[.int .i64 ta, .int .i64 tb, .int .i64 tw, .int .i64 th], .bool false]) ?_ rfl ⟨⟨⟨ta, tb, tw, th⟩, rfl⟩, ?_⟩
      · simp [results, Try.results77, go_sem, q0, q1, q2, q3]
      · exact (below_set4' HB2.out (by omega) _ _ _ _).drew
    · clear hw
      go_region
      go_wp2
      refine bodyPost_ret (v := .tuple #[.agg #[.int .i64 ta, .int .i64 tb, .int .i64 tw, .int .i64 th], .bool false]) ?_ rfl ⟨⟨⟨ta, tb, tw, th⟩, rfl⟩, ?_⟩
      · simp [results, Try.results77, go_sem, q0, q1, q2, q3]
      · exact (below_set4' HB2.out (by omega) _ _ _ _).drew
set_option maxRecDepth 100000 in
set_option maxHeartbeats 4000000 in
theorem MeetRects_any {r s : Rc} (w : World) (hr : RS r) (hs : RS s) (vr : VR r) (vs : VR s) (hm : meetB r s = false) :
    Calls Try.prog 39 #[r.agg, s.agg] w fun x w' => x = .returned (.tuple #[zr.agg, .bool false]) ∧ Ext w w' := by
  have hb0 := (ext_two w (.cells #[.int .i64 r.x, .int .i64 r.y, .int .i64 r.w, .int .i64 r.h] 39) (.cells #[.int .i64 s.x, .int .i64 s.y, .int .i64 s.w, .int .i64 s.h] 39)).alloc (by simp; omega) (.cells #[.int .i64 0, .int .i64 0, .int .i64 0, .int .i64 0] 39)
  have k0 := keep_next2 w (.cells #[.int .i64 r.x, .int .i64 r.y, .int .i64 r.w, .int .i64 r.h] 39) (.cells #[.int .i64 s.x, .int .i64 s.y, .int .i64 s.w, .int .i64 s.h] 39) (.cells #[.int .i64 0, .int .i64 0, .int .i64 0, .int .i64 0] 39)
  have ks := (keep_next w (.cells #[.int .i64 r.x, .int .i64 r.y, .int .i64 r.w, .int .i64 r.h] 39) (.cells #[.int .i64 s.x, .int .i64 s.y, .int .i64 s.w, .int .i64 s.h] 39)).alloc (.cells #[.int .i64 0, .int .i64 0, .int .i64 0, .int .i64 0] 39)
  have kr := ((Keep.new w (.cells #[.int .i64 r.x, .int .i64 r.y, .int .i64 r.w, .int .i64 r.h] 39)).alloc (.cells #[.int .i64 s.x, .int .i64 s.y, .int .i64 s.w, .int .i64 s.h] 39)).alloc (.cells #[.int .i64 0, .int .i64 0, .int .i64 0, .int .i64 0] 39)
  have HM := Lib.hid (meet_any (r := r) (s := s))
  unfold Rc.agg
  go_enter Try.func39, Try.ntmps39
  go_upto_region 1 with fail
  generalize ((w.alloc (.cells #[.int .i64 r.x, .int .i64 r.y, .int .i64 r.w, .int .i64 r.h] 39)).alloc (.cells #[.int .i64 s.x, .int .i64 s.y, .int .i64 s.w, .int .i64 s.h] 39)).alloc (.cells #[.int .i64 0, .int .i64 0, .int .i64 0, .int .i64 0] 39) = W at *
  obtain ⟨g, hg⟩ : ∃ g, w.heap.size = g := ⟨_, rfl⟩
  rw [hg] at k0 ks kr ⊢
  have hgw : g ≤ w.heap.size := by omega
  have hgw2 : w.heap.size ≤ g + 2 := by omega
  clear hg
  have r0 := kr.cell 0
  have r1 := kr.cell 1
  have r2 := kr.cell 2
  have r3 := kr.cell 3
  have s0 := ks.cell 0
  have s1 := ks.cell 1
  have s2 := ks.cell 2
  have s3 := ks.cell 3
  go_wp2_with (fail)
  refine (rvalid_any (r := r) _ vr).mono ?_
  rintro e w1 ⟨rfl, hx⟩
  replace hb0 := after hb0 hx (Nat.le_refl _)
  replace k0 : Keep (g + 2) _ w1 := (hx.block _ k0.lt).trans k0
  replace ks : Keep (g + 1) _ w1 := (hx.block _ ks.lt).trans ks
  replace kr : Keep g _ w1 := (hx.block _ kr.lt).trans kr
  clear r0 r1 r2 r3 s0 s1 s2 s3 hx
  have r0 := kr.cell 0
  have r1 := kr.cell 1
  have r2 := kr.cell 2
  have r3 := kr.cell 3
  have s0 := ks.cell 0
  have s1 := ks.cell 1
  have s2 := ks.cell 2
  have s3 := ks.cell 3
  go_wp2_with (fail)
  refine (rvalid_any (r := s) _ vs).mono ?_
  rintro e w2 ⟨rfl, hx⟩
  replace hb0 := after hb0 hx (Nat.le_refl _)
  replace k0 : Keep (g + 2) _ w2 := (hx.block _ k0.lt).trans k0
  replace ks : Keep (g + 1) _ w2 := (hx.block _ ks.lt).trans ks
  replace kr : Keep g _ w2 := (hx.block _ kr.lt).trans kr
  clear r0 r1 r2 r3 s0 s1 s2 s3 hx
  have r0 := kr.cell 0
  have r1 := kr.cell 1
  have r2 := kr.cell 2
  have r3 := kr.cell 3
  have s0 := ks.cell 0
  have s1 := ks.cell 1
  have s2 := ks.cell 2
  have s3 := ks.cell 3
  go_wp2_with (fail)
  refine (HM.out _ hr hs hm).mono ?_
  rintro e w3 ⟨⟨t, rfl⟩, hx⟩
  replace hb0 := after hb0 hx (Nat.le_refl _)
  replace k0 : Keep (g + 2) _ w3 := (hx.block _ k0.lt).trans k0
  replace ks : Keep (g + 1) _ w3 := (hx.block _ ks.lt).trans ks
  replace kr : Keep g _ w3 := (hx.block _ kr.lt).trans kr
  clear r0 r1 r2 r3 s0 s1 s2 s3 hx
  clear kr ks
  replace k0 := k0.alloc (.cells #[.int .i64 t.x, .int .i64 t.y, .int .i64 t.w, .int .i64 t.h] 39)
  replace hb0 := hb0.alloc hb0.size (.cells #[.int .i64 t.x, .int .i64 t.y, .int .i64 t.w, .int .i64 t.h] 39)
  unfold Rc.agg
  go_upto_region 4 with fail
  generalize w3.alloc (.cells #[.int .i64 t.x, .int .i64 t.y, .int .i64 t.w, .int .i64 t.h] 39) = W4 at *
  have q0 := k0.cell 0
  have q1 := k0.cell 1
  have q2 := k0.cell 2
  have q3 := k0.cell 3
  have z0 := k0.frozen 0
  have z1 := k0.frozen 1
  have z2 := k0.frozen 2
  have z3 := k0.frozen 3
  have hl := k0.lt
  have HB := Lib.hid hb0
  clear k0 hb0
  go_wp2
  refine bodyPost_ret (v := .tuple #[.agg #[.int .i64 0, .int .i64 0, .int .i64 0, .int .i64 0], .bool false]) ?_ rfl ⟨rfl, ?_⟩
  · simp [results, Try.results39, go_sem, q0, q1, q2, q3]
  · exact below_set4' HB.out hgw2 _ _ _ _
end Go.Proofs.Ytbkhbmcoococmaa
