/-
  Parts of the proof: SesR SesL SSm SSr SSl SSx.
-/
import Derived.Deep.Cut
import Derived.IntWalk
import Derived.StillTailTactics
import Derived.Test.YthkkgleoikpfgaaGreatDoorKAu
import Derived.Test.YthkkgleoikpfgaaGreatDoorKBa
import Derived.Test.YthkkgleoikpfgaaGreatDoorKAt
import Derived.Test.YthkkgleoikpfgaaGreatDoorKAs
import Derived.Test.YthkkgleoikpfgaaGreatDoorKAl
import Derived.Test.YthkkgleoikpfgaaGreatDoorKAn
import Derived.Test.YthkkgleoikpfgaaGreatDoorKAo
namespace Go.Proofs.YthkkgleoikpfgaaGreatDoor
open Go Go.RowKit
theorem keep_rect {w : World} {g : Nat} {e : TypeId} {c : Array Value} (h : Keep g (.cells c e) w) (hc : c.size = 4) (a b d f : Value) :
 Keep g (.cells #[a, b, d, f] e) ((((w.setCell ⟨g, 0, none⟩ a).setCell ⟨g, 1, none⟩ b).setCell ⟨g, 2, none⟩ d).setCell ⟨g, 3, none⟩ f) := by
 have h4 := (((h.store 0 a).store 1 b).store 2 d).store 3 f
 obtain ⟨l⟩ := c
 match l, hc with
 | [c0, c1, c2, c3], _ => exact h4
set_option maxRecDepth 100000 in
set_option maxHeartbeats 40000000 in
set_option maxRecDepth 100000 in
set_option maxHeartbeats 1000000 in
theorem hit_m {g : Nat} {No : Nat → Prop} {st : St} {v : Value} (a b : Int) (w : World) (h : SesA 45 g No st w) (hok : OkS st) (ht : Tab w) (hv : Rd w 1 v (Is [a, b])) :
 Calls Tryz.prog 36 #[.pointer (some ⟨g, 0, none⟩), v] w fun e w' => e = .returned (sv (dcZ (hitI st.tree st.w st.h a b))) ∧ Ext w w' := by
 obtain ⟨av, cv, rfl, _, _, hC⟩ := hv.ints
 obtain ⟨bn, off, rfl, hC'⟩ := hC 0 a rfl
 have e0 : w.cell? ⟨bn, off, none⟩ = some (.int .i64 a) := hC' 0 a rfl
 have e1 : w.cell? ⟨bn, off + 1, none⟩ = some (.int .i64 b) := hC' 1 b rfl
 obtain ⟨vt, k, ho, hvt⟩ := h
 obtain ⟨a1, c1, rfl, _, _, _⟩ := ho.rd.boxes
 have c0 : w.cell? ⟨g, 0, none⟩ = some (.slice a1 st.tree.length c1) := k.cell 0
 have c1' : w.cell? ⟨g, 1, none⟩ = some (.int .i64 st.w) := k.cell 1
 have c2 : w.cell? ⟨g, 2, none⟩ = some (.int .i64 st.h) := k.cell 2
 have HO : Hid (∀ w', Ext w w' → Rd w' 9 (.slice a1 st.tree.length c1) (Bs st.tree)) := fun w' hw => ho.rd.below hw (Nat.le_refl _)
 have HTB : Hid (∀ w', Ext w w' → Tab w') := fun w' hw => ht.below hw (Nat.le_refl _)
 have HHB := Lib.hid (fun w hv => HitBox_any (l := st.tree) (v := .slice a1 st.tree.length c1) st.w st.h a b w hv)
 have hhb : -1 ≤ hitI st.tree st.w st.h a b ∧ hitI st.tree st.w st.h a b ≤ 16 := by
  have := hok.1.hi
  unfold hitI
  split
  ·have := hitTo_ge st.tree st.w st.h a b st.tree.length
   omega
  ·omega
 clear hC hC' hv k ho hvt ht hok
 obtain ⟨n, hn⟩ : ∃ n, hitI st.tree st.w st.h a b = n := ⟨_, rfl⟩
 rw [hn] at hhb HHB ⊢
 clear hn
 go_enter Tryz.func36, Tryz.ntmps36
 go_upto_region 1 with fail
 refine wp_region_held_drew (S := fun w' => Below w.heap.size w w') (by kernel_rfl) (Below.refl _ _).drew (fun hS => ?_)
 change wpAnyH _ _ _ _ _ _ _ _ w.drew
 generalize w.drew = wd at *
 refine hTk hS 0 5 rfl (v := ?_) ?_ ?_
 rotate_left
 ·intro _ _; go_simp; first | done | with_reducible rfl
 simp only [Act.put, lsA, ls0, ls1]
 refine hTk hS 1 6 rfl (v := ?_) ?_ ?_
 rotate_left
 ·intro _ _; go_simp; first | done | with_reducible rfl
 simp only [Act.put, lsA, ls0, ls1]
 refine hTk hS 2 7 rfl (v := ?_) ?_ ?_
 rotate_left
 ·intro _ _; go_simp; first | done | with_reducible rfl
 simp only [Act.put, lsA, ls0, ls1]
 refine hTk hS 3 8 rfl (v := ?_) ?_ ?_
 rotate_left
 ·intro w9 hS9; have q := cellB hS9 c0; go_simp; first | done | with_reducible rfl
 simp only [Act.put, lsA, ls0, ls1]
 refine hTk hS 4 9 rfl (v := ?_) ?_ ?_
 rotate_left
 ·intro _ _; go_simp; first | done | with_reducible rfl
 simp only [Act.put, lsA, ls0, ls1]
 refine hTk hS 5 10 rfl (v := ?_) ?_ ?_
 rotate_left
 ·intro _ _; go_simp; first | done | with_reducible rfl
 simp only [Act.put, lsA, ls0, ls1]
 refine hTk hS 6 11 rfl (v := ?_) ?_ ?_
 rotate_left
 ·intro _ _; go_simp; first | done | with_reducible rfl
 simp only [Act.put, lsA, ls0, ls1]
 refine hTk hS 7 12 rfl (v := ?_) ?_ ?_
 rotate_left
 ·intro w9 hS9; have q := cellB hS9 c1'; go_simp; first | done | with_reducible rfl
 simp only [Act.put, lsA, ls0, ls1]
 refine hTk hS 8 13 rfl (v := ?_) ?_ ?_
 rotate_left
 ·intro _ _; go_simp; first | done | with_reducible rfl
 simp only [Act.put, lsA, ls0, ls1]
 refine hTk hS 9 14 rfl (v := ?_) ?_ ?_
 rotate_left
 ·intro _ _; go_simp; first | done | with_reducible rfl
 simp only [Act.put, lsA, ls0, ls1]
 refine hTk hS 10 15 rfl (v := ?_) ?_ ?_
 rotate_left
 ·intro _ _; go_simp; first | done | with_reducible rfl
 simp only [Act.put, lsA, ls0, ls1]
 refine hTk hS 11 16 rfl (v := ?_) ?_ ?_
 rotate_left
 ·intro w9 hS9; have q := cellB hS9 c2; go_simp; first | done | with_reducible rfl
 simp only [Act.put, lsA, ls0, ls1]
 refine hTk hS 12 17 rfl (v := ?_) ?_ ?_
 rotate_left
 ·intro _ _; go_simp; first | done | with_reducible rfl
 simp only [Act.put, lsA, ls0, ls1]
 refine hTk hS 13 18 rfl (v := ?_) ?_ ?_
 rotate_left
 ·intro _ _; go_simp; first | done | with_reducible rfl
 simp only [Act.put, lsA, ls0, ls1]
 refine hTk hS 14 19 rfl (v := ?_) ?_ ?_
 rotate_left
 ·intro w9 hS9; have q := cellB hS9 e0; go_simp; first | done | with_reducible rfl
 simp only [Act.put, lsA, ls0, ls1]
 refine hTk hS 15 20 rfl (v := ?_) ?_ ?_
 rotate_left
 ·intro _ _; go_simp; first | done | with_reducible rfl
 simp only [Act.put, lsA, ls0, ls1]
 refine hTk hS 16 21 rfl (v := ?_) ?_ ?_
 rotate_left
 ·intro _ _; go_simp; first | done | with_reducible rfl
 simp only [Act.put, lsA, ls0, ls1]
 refine hTk hS 17 22 rfl (v := ?_) ?_ ?_
 rotate_left
 ·intro w9 hS9; have q := cellB hS9 e1; go_simp; first | done | with_reducible rfl
 simp only [Act.put, lsA, ls0, ls1]
 refine wpAnyH_ready (rs := [18]) (by kernel_rfl) (by simp) ?_
 refine AllReadyH.cons (o := _) rfl (fun K9 hK9 => ?_) AllReadyH.nil
 go_simp
 refine (HHB.out _ (HO.out _ hS)).mono ?_
 rintro e w3 ⟨rfl, hx3⟩
 try go_wp2_with fail
 refine hK9.out _ _ (after hS hx3 (Nat.le_refl _)) (fun hS => ?_)
 clear hK9 K9
 try simp only [Act.put, lsA, ls0, ls1]
 clear hx3
 refine wpAnyH_ready (rs := [19]) (by kernel_rfl) (by simp) ?_
 refine AllReadyH.cons (o := _) rfl (fun K9 hK9 => ?_) AllReadyH.nil
 go_simp
 have hS3 := hS
 refine hK9.out _ _ (after hS (Below.of_alloc w3 (.cells #[.int .i64 n] 3)) (Nat.le_refl _)) (fun hS => ?_)
 clear hK9 K9
 try simp only [Act.put, lsA, ls0, ls1]
 refine wpAnyH_ready (rs := [20]) (by kernel_rfl) (by simp) ?_
 refine AllReadyH.cons (o := _) rfl (fun K9 hK9 => ?_) AllReadyH.nil
 go_simp
 refine (told_any (l := [n]) _ (Rd.oneAt _ _ (by simp)) (by simp) (by simp) (fun m hm => by simp at hm; omega) (HTB.out _ hS)).mono ?_
 rintro e w4 ⟨rfl, hx4⟩
 rw [show ([n].map dcZ) = [dcZ n] from rfl, Lib.join_one]
 unfold sv
 try go_wp2_with fail
 refine hK9.out _ _ (after hS hx4 (Nat.le_refl _)) (fun hS => ?_)
 clear hK9 K9
 try simp only [Act.put, List.setIfInBounds_toArray]
 refine hTk hS 21 4 rfl (v := ?_) ?_ ?_
 rotate_left
 ·intro _ _; go_simp; first | done | with_reducible rfl
 simp only [Act.put, lsA, ls0, ls1]
 refine wpAnyH_done (by kernel_rfl) ?_ _
 have HX := Lib.hid hS
 clear hS hS3 hx4 c0 c1' c2 e0 e1
 go_wp2
 go_ret
 exact ⟨rfl, HX.out⟩
set_option maxRecDepth 100000 in
set_option maxHeartbeats 1000000 in
theorem rect_m {g : Nat} {No : Nat → Prop} {st : St} {v : Value} (n : Int) (w : World) (h : SesA 45 g No st w) (hok : OkS st) (ht : Tab w) (hv : Rd w 1 v (Is [n])) :
 Calls Tryz.prog 35 #[.pointer (some ⟨g, 0, none⟩), v] w fun e w' => e = .returned (sv (recS st n)) ∧ Ext w w' := by
 obtain ⟨av, cv, rfl, _, _, hC⟩ := hv.ints
 obtain ⟨bn, off, rfl, hC'⟩ := hC 0 n rfl
 have e0 : w.cell? ⟨bn, off, none⟩ = some (.int .i64 n) := hC' 0 n rfl
 obtain ⟨vt, k, ho, hvt⟩ := h
 obtain ⟨a1, c1, rfl, _, _, _⟩ := ho.rd.boxes
 have c0 : w.cell? ⟨g, 0, none⟩ = some (.slice a1 st.tree.length c1) := k.cell 0
 have c1' : w.cell? ⟨g, 1, none⟩ = some (.int .i64 st.w) := k.cell 1
 have c2 : w.cell? ⟨g, 2, none⟩ = some (.int .i64 st.h) := k.cell 2
 have HTB : Hid (∀ w', Ext w w' → Tab w') := fun w' hw => ht.below hw (Nat.le_refl _)
 have HQB : Hid (roB st.tree st.w st.h n = true → RB 100000 (roR st.tree st.w st.h n)) := fun hq => by
  rw [roR_t hq]
  unfold roB at hq
  rw [Bool.and_eq_true, inR_iff] at hq
  exact rect_ok hok.1 hok.2.1 hok.2.2 (by omega)
 have HIN0 : Hid (∀ w', Ext w w' → Calls Tryz.prog 62 #[.slice a1 st.tree.length c1, .int .i64 st.w, .int .i64 st.h, .int .i64 n] w' fun x w'' => x = .returned (.tuple #[(roR st.tree st.w st.h n).agg, .bool (roB st.tree st.w st.h n)]) ∧ Ext w' w'') := fun w' hw => RectOf_any (l := st.tree) st.w st.h n w' (ho.rd.below hw (Nat.le_refl _))
 obtain ⟨q, hqe⟩ : ∃ q, roR st.tree st.w st.h n = q := ⟨_, rfl⟩
 have HQE : Hid (roR st.tree st.w st.h n = q) := hqe
 rw [hqe] at HQB HIN0
 clear hC hC' hv k ho hvt ht hok hqe
 go_enter Tryz.func35, Tryz.ntmps35
 go_upto_region 1 with fail
 refine wp_region_held_drew (S := fun w' => Below w.heap.size w w') (by kernel_rfl) (Below.refl _ _).drew (fun hS => ?_)
 change wpAnyH _ _ _ _ _ _ _ _ w.drew
 generalize w.drew = wd at *
 refine hTk hS 0 8 rfl (v := ?_) ?_ ?_
 rotate_left
 ·intro _ _; go_simp; first | done | with_reducible rfl
 simp only [Act.put, lsA, ls0, ls1]
 refine hTk hS 1 9 rfl (v := ?_) ?_ ?_
 rotate_left
 ·intro _ _; go_simp; first | done | with_reducible rfl
 simp only [Act.put, lsA, ls0, ls1]
 refine hTk hS 2 10 rfl (v := ?_) ?_ ?_
 rotate_left
 ·intro _ _; go_simp; first | done | with_reducible rfl
 simp only [Act.put, lsA, ls0, ls1]
 refine hTk hS 3 11 rfl (v := ?_) ?_ ?_
 rotate_left
 ·intro w9 hS9; have q := cellB hS9 c0; go_simp; first | done | with_reducible rfl
 simp only [Act.put, lsA, ls0, ls1]
 refine hTk hS 4 12 rfl (v := ?_) ?_ ?_
 rotate_left
 ·intro _ _; go_simp; first | done | with_reducible rfl
 simp only [Act.put, lsA, ls0, ls1]
 refine hTk hS 5 13 rfl (v := ?_) ?_ ?_
 rotate_left
 ·intro _ _; go_simp; first | done | with_reducible rfl
 simp only [Act.put, lsA, ls0, ls1]
 refine hTk hS 6 14 rfl (v := ?_) ?_ ?_
 rotate_left
 ·intro _ _; go_simp; first | done | with_reducible rfl
 simp only [Act.put, lsA, ls0, ls1]
 refine hTk hS 7 15 rfl (v := ?_) ?_ ?_
 rotate_left
 ·intro w9 hS9; have q := cellB hS9 c1'; go_simp; first | done | with_reducible rfl
 simp only [Act.put, lsA, ls0, ls1]
 refine hTk hS 8 16 rfl (v := ?_) ?_ ?_
 rotate_left
 ·intro _ _; go_simp; first | done | with_reducible rfl
 simp only [Act.put, lsA, ls0, ls1]
 refine hTk hS 9 17 rfl (v := ?_) ?_ ?_
 rotate_left
 ·intro _ _; go_simp; first | done | with_reducible rfl
 simp only [Act.put, lsA, ls0, ls1]
 refine hTk hS 10 18 rfl (v := ?_) ?_ ?_
 rotate_left
 ·intro _ _; go_simp; first | done | with_reducible rfl
 simp only [Act.put, lsA, ls0, ls1]
 refine hTk hS 11 19 rfl (v := ?_) ?_ ?_
 rotate_left
 ·intro w9 hS9; have q := cellB hS9 c2; go_simp; first | done | with_reducible rfl
 simp only [Act.put, lsA, ls0, ls1]
 refine hTk hS 12 20 rfl (v := ?_) ?_ ?_
 rotate_left
 ·intro _ _; go_simp; first | done | with_reducible rfl
 simp only [Act.put, lsA, ls0, ls1]
 refine hTk hS 13 21 rfl (v := ?_) ?_ ?_
 rotate_left
 ·intro _ _; go_simp; first | done | with_reducible rfl
 simp only [Act.put, lsA, ls0, ls1]
 refine hTk hS 14 22 rfl (v := ?_) ?_ ?_
 rotate_left
 ·intro w9 hS9; have q := cellB hS9 e0; go_simp; first | done | with_reducible rfl
 simp only [Act.put, lsA, ls0, ls1]
 clear c0 c1' c2 e0
 refine wpAnyH_ready (rs := [15, 19]) (by kernel_rfl) (by simp) ?_
 refine AllReadyH.cons (o := _) rfl (fun K9 hK9 => ?_) (AllReadyH.cons (o := _) rfl (fun K9 hK9 => ?_) AllReadyH.nil)
 ·go_simp
  refine ((HIN0.out _ hS)).mono ?_
  rintro e w7 ⟨rfl, hx7⟩
  unfold Rc.agg
  try go_wp2_with fail
  refine hK9.out _ _ (after hS hx7 (Nat.le_refl _)) (fun hS => ?_)
  clear hK9 K9
  try simp only [Act.put, lsA, ls0, ls1]
  clear hx7
  refine hTk hS 16 7 rfl (v := ?_) ?_ ?_
  rotate_left
  ·intro _ _; go_simp; first | done | with_reducible rfl
  simp only [Act.put, lsA, ls0, ls1]
  refine hTk hS 17 24 rfl (v := ?_) ?_ ?_
  rotate_left
  ·intro _ _; go_simp; first | done | with_reducible rfl
  simp only [Act.put, lsA, ls0, ls1]
  refine hTk hS 18 25 rfl (v := ?_) ?_ ?_
  rotate_left
  ·intro _ _; go_simp; first | done | with_reducible rfl
  simp only [Act.put, lsA, ls0, ls1]
  refine wpAnyH_ready (rs := [19]) (by kernel_rfl) (by simp) ?_
  refine AllReadyH.cons (o := _) rfl (fun K9 hK9 => ?_) AllReadyH.nil
  go_simp
  have hS0 := hS
  refine hK9.out _ _ (hS.alloc hS.size _) (fun hS => ?_)
  clear hK9 K9
  try simp only [Act.put, lsA, ls0, ls1]
  clear hS
  refine wpAnyH_ready (rs := [20]) (by kernel_rfl) (by simp) ?_
  refine AllReadyH.cons (o := _) rfl (fun K9 hK9 => ?_) AllReadyH.nil
  go_simp
  refine hK9.out _ _ (hS0.alloc hS0.size _) (fun hS => ?_)
  clear hK9 K9
  try simp only [Act.put, lsA, ls0, ls1]
  refine hTk hS 21 6 rfl (v := ?_) ?_ ?_
  rotate_left
  ·intro _ _; go_simp; first | done | with_reducible rfl
  simp only [Act.put, lsA, ls0, ls1]
  refine wpAnyH_done (by kernel_rfl) ?_ _
  have kQ := Keep.new w7 (.cells #[.int .i64 q.x, .int .i64 q.y, .int .i64 q.w, .int .i64 q.h] 96)
  clear hS0
  generalize w7.alloc (.cells #[.int .i64 q.x, .int .i64 q.y, .int .i64 q.w, .int .i64 q.h] 96) = W7 at *
  generalize w7.heap.size = gQ at *
  have HX := Lib.hid hS
  have q0 := kQ.cell 0
  have q1 := kQ.cell 1
  have q2 := kQ.cell 2
  have q3 := kQ.cell 3
  clear hS kQ
  cases hq : roB st.tree st.w st.h n with
  | true =>
   have HR : Hid (recS st n = rcT q) := by
    show _ = _
    unfold recS
    rw [if_pos hq, HQE.out]
   have hbq := HQB.out hq
   clear hq
   go_wp2_with (fail)
   change Calls _ _ _ (W7.alloc (.cells #[.int .i64 q.x, .int .i64 q.y, .int .i64 q.w, .int .i64 q.h] 3)) _
   have hx9 := after HX.out (Below.of_alloc W7 (.cells #[.int .i64 q.x, .int .i64 q.y, .int .i64 q.w, .int .i64 q.h] 3)) (Nat.le_refl _)
   have hbx : (-1000000 ≤ q.x ∧ q.x ≤ 1000000) ∧ (-1000000 ≤ q.y ∧ q.y ≤ 1000000) ∧ (-1000000 ≤ q.w ∧ q.w ≤ 1000000) ∧ (-1000000 ≤ q.h ∧ q.h ≤ 1000000) := by
    obtain ⟨b1, b2, b3, b4, b5, b6, b7, b8⟩ := hbq
    omega
   have ho4 := Own.made W7 #[.int .i64 q.x, .int .i64 q.y, .int .i64 q.w, .int .i64 q.h] 3 W7.heap.size 1 4 4 (Nat.le_refl _) (Nat.le_refl _) (by decide) rfl
   have hr4 : Rd (W7.alloc (.cells #[.int .i64 q.x, .int .i64 q.y, .int .i64 q.w, .int .i64 q.h] 3)) 1 (.slice (some ⟨W7.heap.size, 0, none⟩) 4 4) (Is [q.x, q.y, q.w, q.h]) := ho4.rd
   refine (told_any (l := [q.x, q.y, q.w, q.h]) _ hr4 (by simp) (by simp) (fun m hm => by
    simp at hm
    rcases hm with rfl | rfl | rfl | rfl <;> omega) (HTB.out _ hx9)).mono ?_
   rintro e w9 ⟨rfl, hx10⟩
   unfold sv
   have HXX := Lib.hid (after hx9 hx10 (Nat.le_refl _))
   have HRC : Hid (rcT q = Lib.join ([q.x, q.y, q.w, q.h].map dcZ) [32]) := rfl
   generalize Lib.join ([q.x, q.y, q.w, q.h].map dcZ) [32] = out at *
   clear hx9 hx10 ho4 hr4
   go_wp2
   go_ret
   exact ⟨by rw [HR.out, HRC.out]; rfl, HXX.out⟩
  | false =>
   have HR : Hid (recS st n = yesT false) := by
    show _ = _
    unfold recS
    rw [if_neg (by rw [hq]; exact Bool.false_ne_true)]
   clear hq
   go_wp2
   go_ret
   exact ⟨by rw [HR.out]; rfl, HX.out⟩
 ·go_simp
  have kZ := Keep.new wd (.cells #[.int .i64 0, .int .i64 0, .int .i64 0, .int .i64 0] 96)
  have hgw := hS.size
  refine hK9.out _ _ (hS.alloc hS.size _) (fun hS => ?_)
  clear hK9 K9
  try simp only [Act.put, lsA, ls0, ls1]
  generalize wd.alloc (.cells #[.int .i64 0, .int .i64 0, .int .i64 0, .int .i64 0] 96) = we at *
  generalize wd.heap.size = gQ at *
  refine wpAnyH_ready (rs := [15]) (by kernel_rfl) (by simp) ?_
  refine AllReadyH.cons (o := _) rfl (fun K9 hK9 => ?_) AllReadyH.nil
  go_simp
  refine ((HIN0.out _ hS)).mono ?_
  rintro e w7 ⟨rfl, hx7⟩
  unfold Rc.agg
  try go_wp2_with fail
  replace kZ := keepE kZ hx7
  refine hK9.out _ _ (after hS hx7 (Nat.le_refl _)) (fun hS => ?_)
  clear hK9 K9
  try simp only [Act.put, lsA, ls0, ls1]
  clear hx7
  refine hTk hS 16 7 rfl (v := ?_) ?_ ?_
  rotate_left
  ·intro _ _; go_simp; first | done | with_reducible rfl
  simp only [Act.put, lsA, ls0, ls1]
  refine hTk hS 17 24 rfl (v := ?_) ?_ ?_
  rotate_left
  ·intro _ _; go_simp; first | done | with_reducible rfl
  simp only [Act.put, lsA, ls0, ls1]
  refine hTk hS 18 25 rfl (v := ?_) ?_ ?_
  rotate_left
  ·intro _ _; go_simp; first | done | with_reducible rfl
  simp only [Act.put, lsA, ls0, ls1]
  have z0 := kZ.cell 0
  have z1 := kZ.cell 1
  have z2 := kZ.cell 2
  have z3 := kZ.cell 3
  have f0 := kZ.frozen 0
  have f1 := kZ.frozen 1
  have f2 := kZ.frozen 2
  have f3 := kZ.frozen 3
  have kQ := keep_rect kZ rfl (.int .i64 q.x) (.int .i64 q.y) (.int .i64 q.w) (.int .i64 q.h)
  refine wpAnyH_ready (rs := [20]) (by kernel_rfl) (by simp) ?_
  refine AllReadyH.cons (o := _) rfl (fun K9 hK9 => ?_) AllReadyH.nil
  go_simp
  refine hK9.out _ _ (below_set4' hS hgw _ _ _ _) (fun hS => ?_)
  clear hK9 K9
  try simp only [Act.put, lsA, ls0, ls1]
  clear z0 z1 z2 z3 f0 f1 f2 f3 kZ hgw
  generalize (((w7.setCell ⟨gQ, 0, none⟩ (.int .i64 q.x)).setCell ⟨gQ, 1, none⟩ (.int .i64 q.y)).setCell ⟨gQ, 2, none⟩ (.int .i64 q.w)).setCell ⟨gQ, 3, none⟩ (.int .i64 q.h) = W7 at *
  refine hTk hS 21 6 rfl (v := ?_) ?_ ?_
  rotate_left
  ·intro _ _; go_simp; first | done | with_reducible rfl
  simp only [Act.put, lsA, ls0, ls1]
  refine wpAnyH_done (by kernel_rfl) ?_ _
  have HX := Lib.hid hS
  have q0 := kQ.cell 0
  have q1 := kQ.cell 1
  have q2 := kQ.cell 2
  have q3 := kQ.cell 3
  clear hS kQ
  cases hq : roB st.tree st.w st.h n with
  | true =>
   have HR : Hid (recS st n = rcT q) := by
    show _ = _
    unfold recS
    rw [if_pos hq, HQE.out]
   have hbq := HQB.out hq
   clear hq
   go_wp2_with (fail)
   change Calls _ _ _ (W7.alloc (.cells #[.int .i64 q.x, .int .i64 q.y, .int .i64 q.w, .int .i64 q.h] 3)) _
   have hx9 := after HX.out (Below.of_alloc W7 (.cells #[.int .i64 q.x, .int .i64 q.y, .int .i64 q.w, .int .i64 q.h] 3)) (Nat.le_refl _)
   have hbx : (-1000000 ≤ q.x ∧ q.x ≤ 1000000) ∧ (-1000000 ≤ q.y ∧ q.y ≤ 1000000) ∧ (-1000000 ≤ q.w ∧ q.w ≤ 1000000) ∧ (-1000000 ≤ q.h ∧ q.h ≤ 1000000) := by
    obtain ⟨b1, b2, b3, b4, b5, b6, b7, b8⟩ := hbq
    omega
   have ho4 := Own.made W7 #[.int .i64 q.x, .int .i64 q.y, .int .i64 q.w, .int .i64 q.h] 3 W7.heap.size 1 4 4 (Nat.le_refl _) (Nat.le_refl _) (by decide) rfl
   have hr4 : Rd (W7.alloc (.cells #[.int .i64 q.x, .int .i64 q.y, .int .i64 q.w, .int .i64 q.h] 3)) 1 (.slice (some ⟨W7.heap.size, 0, none⟩) 4 4) (Is [q.x, q.y, q.w, q.h]) := ho4.rd
   refine (told_any (l := [q.x, q.y, q.w, q.h]) _ hr4 (by simp) (by simp) (fun m hm => by
    simp at hm
    rcases hm with rfl | rfl | rfl | rfl <;> omega) (HTB.out _ hx9)).mono ?_
   rintro e w9 ⟨rfl, hx10⟩
   unfold sv
   have HXX := Lib.hid (after hx9 hx10 (Nat.le_refl _))
   have HRC : Hid (rcT q = Lib.join ([q.x, q.y, q.w, q.h].map dcZ) [32]) := rfl
   generalize Lib.join ([q.x, q.y, q.w, q.h].map dcZ) [32] = out at *
   clear hx9 hx10 ho4 hr4
   go_wp2
   go_ret
   exact ⟨by rw [HR.out, HRC.out]; rfl, HXX.out⟩
  | false =>
   have HR : Hid (recS st n = yesT false) := by
    show _ = _
    unfold recS
    rw [if_neg (by rw [hq]; exact Bool.false_ne_true)]
   clear hq
   go_wp2
   go_ret
   exact ⟨by rw [HR.out]; rfl, HX.out⟩
theorem len_two {α : Type} {l : List α} (h : l.length = 2) : ∃ a b, l = [a, b] := by
 match l, h with
 | [a, b], _ => exact ⟨a, b, rfl⟩
theorem word_add (st : St) (a b : List UInt8) (ws r : List (List UInt8)) (hw : ws = a :: b :: r) (hr : r ≠ []) (ha : a = addT) : wordS st ws = (yesT (addS st (prI b) (Lib.join r [32])).1, (addS st (prI b) (Lib.join r [32])).2) := by
 have hl : 2 < ws.length := by
  cases r with
  | nil => exact absurd rfl hr
  | cons => rw [hw]; simp
 unfold wordS
 rw [if_pos ⟨by rw [hw]; exact ha, hl⟩, hw]
 rfl
theorem word_sty (st : St) (a b : List UInt8) (ws r : List (List UInt8)) (hw : ws = a :: b :: r) (hr : r ≠ []) (ha : a = styT2) : wordS st ws = (yesT (styS st (prI b) (Lib.join r [32])).1, (styS st (prI b) (Lib.join r [32])).2) := by
 have hl : 2 < ws.length := by
  cases r with
  | nil => exact absurd rfl hr
  | cons => rw [hw]; simp
 unfold wordS
 have hn : ¬ (ws.headD [] = addT ∧ 2 < ws.length) := fun h => by
  have e : addT = styT2 := h.1.symm.trans (by rw [hw]; exact ha)
  exact absurd e (by decide)
 rw [if_neg hn, if_pos ⟨by rw [hw]; exact ha, hl⟩, hw]
 rfl
theorem word_rem (st : St) (a : List UInt8) : wordS st [remT, a] = (yesT (remS st (prI a)).1, (remS st (prI a)).2) := by
 unfold wordS
 simp [addT, styT2, remT]
theorem word_siz (st : St) (a b : List UInt8) : wordS st [sizT, a, b] = (yesT (sizS st (prI a) (prI b)).1, (sizS st (prI a) (prI b)).2) := by
 unfold wordS
 simp [addT, styT2, remT, sizT]
theorem word_rec (st : St) (a : List UInt8) : wordS st [recT, a] = (recS st (prI a), st) := by
 unfold wordS
 simp [addT, styT2, remT, sizT, recT]
theorem word_hit (st : St) (a b : List UInt8) : wordS st [hitT, a, b] = (dcZ (hitI st.tree st.w st.h (prI a) (prI b)), st) := by
 unfold wordS
 simp [addT, styT2, remT, sizT, recT, hitT]
theorem word_cnt (st : St) : wordS st [cntT] = (dcZ st.tree.length, st) := by
 unfold wordS
 simp [addT, styT2, remT, sizT, recT, hitT, cntT]
theorem word_what (st : St) (x : List UInt8) (r : List (List UInt8)) (h1 : x = addT → ¬ 2 < r.length + 1) (h2 : x = styT2 → ¬ 2 < r.length + 1) (h3 : x = remT → r.length + 1 ≠ 2) (h4 : x = sizT → r.length + 1 ≠ 3) (h5 : x = recT → r.length + 1 ≠ 2) (h6 : x = hitT → r.length + 1 ≠ 3) (h7 : x = cntT → r.length + 1 ≠ 1) : wordS st (x :: r) = (whaT, st) := by
 unfold wordS
 rw [if_neg (fun q : (x :: r).headD [] = addT ∧ 2 < (x :: r).length => h1 q.1 q.2), if_neg (fun q : (x :: r).headD [] = styT2 ∧ 2 < (x :: r).length => h2 q.1 q.2), if_neg (fun q : (x :: r).headD [] = remT ∧ (x :: r).length = 2 => h3 q.1 q.2), if_neg (fun q : (x :: r).headD [] = sizT ∧ (x :: r).length = 3 => h4 q.1 q.2), if_neg (fun q : (x :: r).headD [] = recT ∧ (x :: r).length = 2 => h5 q.1 q.2), if_neg (fun q : (x :: r).headD [] = hitT ∧ (x :: r).length = 3 => h6 q.1 q.2), if_neg (fun q : (x :: r).headD [] = cntT ∧ (x :: r).length = 1 => h7 q.1 q.2)]
theorem addS_ok {st : St} (h : OkS st) (i : Int) (s : List UInt8) : OkS (addS st i s).2 := by
 unfold addS
 cases pB s with
 | none => exact h
 | some b =>
  dsimp only
  by_cases hq : addOk st.tree i b = true
  ·rw [if_pos hq]
   unfold addOk at hq
   rw [Bool.and_eq_true] at hq
   exact ⟨vldB_iff.1 hq.2, h.2⟩
  ·rw [if_neg hq]
   exact h
theorem styS_ok {st : St} (h : OkS st) (i : Int) (s : List UInt8) : OkS (styS st i s).2 := by
 unfold styS
 cases pB s with
 | none => exact h
 | some b =>
  dsimp only
  by_cases hq : styleOk st.tree i b = true
  ·rw [if_pos hq]
   unfold styleOk at hq
   rw [Bool.and_eq_true] at hq
   exact ⟨vldB_iff.1 hq.2, h.2⟩
  ·rw [if_neg hq]
   exact h
theorem remS_ok {st : St} (h : OkS st) (i : Int) : OkS (remS st i).2 := by
 unfold remS
 by_cases hq : remB st.tree i = true
 ·rw [if_pos hq]
  unfold remB at hq
  rw [Bool.and_eq_true, inR_iff] at hq
  exact ⟨rem_valid h.1 (by omega) (by omega), h.2⟩
 ·rw [if_neg hq]
  exact h
theorem sizS_ok {st : St} (h : OkS st) (a b : Int) : OkS (sizS st a b).2 := by
 unfold sizS
 by_cases hq : (inR a 0 10000 && inR b 0 10000) = true
 ·rw [if_pos hq]
  rw [Bool.and_eq_true, inR_iff, inR_iff] at hq
  exact ⟨h.1, hq.1, hq.2⟩
 ·rw [if_neg hq]
  exact h
theorem yesT_len (b : Bool) : (yesT b).length ≤ 1000 := by cases b <;> decide
theorem recS_len {st : St} (h : OkS st) (i : Int) : (recS st i).length ≤ 1000 := by
 unfold recS
 by_cases hq : roB st.tree st.w st.h i = true
 ·rw [if_pos hq, roR_t hq]
  have hq2 := hq
  unfold roB at hq2
  rw [Bool.and_eq_true, inR_iff] at hq2
  have hr := rect_ok h.1 h.2.1 h.2.2 (k := i.toNat) (by omega)
  unfold RB at hr
  refine Nat.le_trans (join_len 32 8 _ ?_) (by simp)
  intro x hx
  simp only [List.mem_cons, List.not_mem_nil, or_false] at hx
  rcases hx with rfl | rfl | rfl | rfl <;> exact dcZ_len (by omega)
 ·rw [if_neg hq]
  exact yesT_len _
theorem line_ok {st : St} (h : OkS st) (ln : List UInt8) : OkS (lineS st ln).2 ∧ (lineS st ln).1.length ≤ 1000 := by
 unfold lineS wordS
 generalize splitB 32 ln = ws
 dsimp only
 split
 ·exact ⟨addS_ok h _ _, yesT_len _⟩
 split
 ·exact ⟨styS_ok h _ _, yesT_len _⟩
 split
 ·exact ⟨remS_ok h _, yesT_len _⟩
 split
 ·exact ⟨sizS_ok h _ _, yesT_len _⟩
 split
 ·exact ⟨h, recS_len h _⟩
 split
 ·refine ⟨h, Nat.le_trans (dcZ_len ?_) (by omega)⟩
  have := h.1.hi
  unfold hitI
  split
  ·have := hitTo_ge st.tree st.w st.h (prI (ws.getD 1 [])) (prI (ws.getD 2 [])) st.tree.length
   omega
  ·omega
 split
 ·have := h.1.hi
  have h2 := dcZ_len (n := (st.tree.length : Int)) (by omega)
  exact ⟨h, Nat.le_trans h2 (by omega)⟩
 ·exact ⟨h, show whaT.length ≤ 1000 by decide⟩
theorem st0_ok : OkS st0 := ⟨vldB_iff.1 (by decide), by decide, by decide⟩
theorem endS_ok (L : List (List UInt8)) : ∀ {st : St}, OkS st → OkS (endS L st) := by
 induction L with
 | nil => exact fun h => h
 | cons a t ih => exact fun h => ih (line_ok h a).1
theorem runS_len (L : List (List UInt8)) : ∀ {st : St}, OkS st → (runS L st).length ≤ L.length * 1001 := by
 induction L with
 | nil => exact fun _ => by simp [runS]
 | cons a t ih =>
  intro st h
  have h1 := (line_ok h a).2
  have h2 := ih (line_ok h a).1
  simp only [runS, List.length_append, List.length_cons]
  omega
theorem endS_app (L M : List (List UInt8)) : ∀ st, endS (L ++ M) st = endS M (endS L st) := by
 induction L with
 | nil => intro st; rfl
 | cons a t ih => exact fun st => ih _
theorem sdecZ_any (n : Int) (w : World) (h : -1000000 < n ∧ n < 1000000) : Calls Tryz.prog 18 #[.int .i64 n] w fun e w' => e = .returned (sv (dcZ n)) ∧ Ext w w' := by
 by_cases h0 : n < 0
 ·have HD : Hid (dcZ n = 45 :: Lib.decDigits n.natAbs) := if_pos h0
  obtain ⟨m, hm, hmb⟩ : ∃ m : Nat, n.natAbs = m ∧ m < 1000000 := ⟨_, rfl, by omega⟩
  rw [hm] at HD
  have hneg : n = -(m : Int) := by omega
  subst hneg
  have HR := Lib.hid (fun w => sdec_any m w hmb)
  have hw : IntKind.i64.wrap (-(-(m : Int))) = m := by rw [IntKind.wrap_i64]; omega
  have hln : (Lib.decDigits m).length ≤ 7 := nDig_le 7 m (by omega) (by omega)
  clear hm
  go_enter Tryz.func18, Tryz.ntmps18
  go_wp2_with (fail)
  refine (HR.out _).mono ?_
  rintro e w1 ⟨rfl, hx⟩
  generalize Lib.decDigits m = D at *
  have HZ : Hid ((⟨#[45]⟩ ++ ⟨D.toArray⟩ : ByteArray) = ⟨(45 :: D).toArray⟩) := by
   show _ = _
   rw [show (⟨#[45]⟩ : ByteArray) = ⟨[45].toArray⟩ from rfl, ba_append]
   rfl
  have hl9 : ¬ 9223372036854775807 < 1 + D.length := by omega
  unfold sv
  go_wp2
  rw [HZ.out]
  go_ret
  exact ⟨by rw [HD.out]; rfl, hx⟩
 ·obtain ⟨m, rfl⟩ := Int.eq_ofNat_of_zero_le (by omega : 0 ≤ n)
  have e : dcZ (m : Int) = Lib.decDigits m := by
   unfold dcZ Lib.itoa
   rw [if_neg h0, Int.toNat_natCast]
  rw [e]
  exact sdec_any m w (by omega)
/-- the words from the second on, joined as far as k -/
theorem rest_step {ws : List (List UInt8)} {k : Nat} (hk : 2 ≤ k) {x : List UInt8} (hx : ws[k]? = some x) : Lib.join ((ws.take (k + 1)).drop 2) [32] = (if 2 < k then Lib.join ((ws.take k).drop 2) [32] ++ [32] else Lib.join ((ws.take k).drop 2) [32]) ++ x := by
 have hl := (List.getElem?_eq_some_iff.1 hx).1
 have e : (ws.take (k + 1)).drop 2 = (ws.take k).drop 2 ++ [x] := by
  rw [List.take_succ_eq_append_getElem hl, (List.getElem?_eq_some_iff.1 hx).2, List.drop_append_of_le_length (by rw [List.length_take]; omega)]
 rw [e]
 by_cases h2 : 2 < k
 ·rw [if_pos h2, join_end _ (fun e => by
   have := congrArg List.length e
   rw [List.length_drop, List.length_take, List.length_nil] at this
   omega), List.append_assoc]
 ·obtain rfl : k = 2 := by omega
  rw [if_neg h2]
  have e2 : (ws.take 2).drop 2 = [] := List.eq_nil_of_length_eq_zero (by rw [List.length_drop, List.length_take]; omega)
  rw [e2, List.nil_append, Lib.join_one]
  rfl
set_option maxRecDepth 100000 in
set_option maxHeartbeats 1000000 in
theorem srest_any (s : List UInt8) (w : World) (hs : s.length ≤ 2000000) :
 Calls Tryz.prog 43 #[.string ⟨s.toArray⟩, .int .i64 2] w fun e w' => e = .returned (sv (Lib.join ((splitB 32 s).drop 2) [32])) ∧ Ext w w' := by
 have HSP := Lib.hid (fun w => splitAt_any s 32 w hs)
 have HLE := Lib.hid (fun x => splitB_le 32 s x)
 have hnum := splitB_num 32 s
 have hcnt := List.count_le_length (a := (32 : UInt8)) (l := s)
 obtain ⟨ws, hws⟩ : ∃ ws, ws = splitB 32 s := ⟨_, rfl⟩
 rw [← hws] at HSP HLE hnum ⊢
 replace hws := Lib.hid hws
 have hwl : ws.length ≤ 2000001 := by omega
 have HLN : Hid (∀ k, (Lib.join ((ws.take k).drop 2) [32]).length ≤ 4000010000000) := fun k => by
  refine Nat.le_trans (join_len 32 2000000 _ fun x hx => Nat.le_trans (HLE.out x (List.mem_of_mem_take (List.mem_of_mem_drop hx))) hs) ?_
  have : ((ws.take k).drop 2).length ≤ 2000001 := by rw [List.length_drop, List.length_take]; omega
  omega
 clear hnum hcnt
 go_enter Tryz.func43, Tryz.ntmps43
 go_wp2_with (fail)
 refine (HSP.out _).mono ?_
 rintro e w1 ⟨v1, rfl, ho1, hx1⟩
 obtain ⟨a, n, c, rfl, hn, hnc, hc, hcells⟩ := ho1.rd
 have hn' : ws.length = n := by
  have : (Ss ws).length = ws.length := by simp [Ss]
  omega
 clear ho1 hn HSP
 go_wp2
 go_loopw [6, 7] (fun o i wr => ∃ k : Nat, i = .int .i64 k ∧ 2 ≤ k ∧ (k ≤ n ∨ k = 2) ∧ o = .string ⟨(Lib.join ((ws.take k).drop 2) [32]).toArray⟩ ∧ wr = w1) (fun _ i _ => n - (intOf i).toNat)
 case atStart => exact ⟨2, rfl, Nat.le_refl _, .inr rfl, by
  have e2 : (ws.take 2).drop 2 = [] := List.eq_nil_of_length_eq_zero (by rw [List.length_drop, List.length_take]; omega)
  rw [e2]
  rfl, rfl⟩
 case round =>
  obtain ⟨k, rfl, hk2, hkn, rfl, rfl⟩ := hrel
  by_cases hk : k < n
  ·have hki : (k : Int) < n := by omega
   have hk0 : (0 : Int) ≤ k := by omega
   obtain ⟨x, hx⟩ : ∃ x, ws[k]? = some x := ⟨_, List.getElem?_eq_getElem (by omega)⟩
   have hxl := Nat.le_trans (HLE.out x (List.mem_of_getElem? hx)) hs
   have hcc : (Ss ws)[k]? = some (sv x) := by simp [Ss, hx]
   obtain ⟨bl, off, rfl, hcl⟩ := hcells.resolve_left (fun e => by rw [e] at hcc; cases hcc)
   have e0 : wr.cell? ⟨bl, off + k, none⟩ = some (.string ⟨x.toArray⟩) := hcl k _ hcc
   have HST := Lib.hid (rest_step hk2 hx)
   have hjl := HLN.out k
   generalize Lib.join ((ws.take k).drop 2) [32] = J at *
   clear hcl hcc hcells hx
   by_cases h2 : 2 < k
   ·have h2i : (2 : Int) < k := by omega
    rw [if_pos h2] at HST
    have HZ : Hid ((⟨J.toArray⟩ ++ ⟨#[32]⟩ ++ ⟨x.toArray⟩ : ByteArray) = ⟨(J ++ [32] ++ x).toArray⟩) := by
     show _ = _
     rw [show (⟨#[32]⟩ : ByteArray) = ⟨[32].toArray⟩ from rfl, ba_append, ba_append]
    have l1 : ¬ 9223372036854775807 < J.length + 1 := by omega
    have l2 : ¬ 9223372036854775807 < J.length + 1 + x.length := by omega
    go_wp2
    rw [HZ.out]
    go_roundw
    case rel => exact ⟨k + 1, by go_num, by omega, .inl (by omega), by rw [HST.out], trivial⟩
    case measure => simp [intOf]; omega
   ·have h2i : ¬ (2 : Int) < k := by omega
    rw [if_neg h2] at HST
    have HZ : Hid ((⟨J.toArray⟩ ++ ⟨x.toArray⟩ : ByteArray) = ⟨(J ++ x).toArray⟩) := by
     show _ = _
     rw [ba_append]
    have l2 : ¬ 9223372036854775807 < J.length + x.length := by omega
    go_wp2
    rw [HZ.out]
    go_roundw
    case rel => exact ⟨k + 1, by go_num, by omega, .inl (by omega), by rw [HST.out], trivial⟩
    case measure => simp [intOf]; omega
  ·have hki : ¬ (k : Int) < n := by omega
   have HE : Hid ((ws.take k).drop 2 = ws.drop 2) := by
    rcases hkn with h | rfl
    ·obtain rfl : k = n := by omega
     rw [← hn', List.take_length]
     exact rfl
    ·have e1 : ws.drop 2 = [] := List.eq_nil_of_length_eq_zero (by rw [List.length_drop]; omega)
     have e2 : (ws.take 2).drop 2 = [] := List.eq_nil_of_length_eq_zero (by rw [List.length_drop, List.length_take]; omega)
     show _ = _
     rw [e1, e2]
   rw [HE.out]
   obtain ⟨J, hJ⟩ : ∃ J, J = Lib.join (ws.drop 2) [32] := ⟨_, rfl⟩
   rw [← hJ]
   replace hJ := Lib.hid hJ
   go_wp2
   go_ret
   exact ⟨by rw [← hJ.out]; rfl, hx1⟩
set_option maxRecDepth 100000 in
set_option maxHeartbeats 1000000 in
theorem sadd_m {g : Nat} {No : Nat → Prop} {st : St} (i : Int) (tx : List UInt8) (w : World) (hA : ∀ k, No k → k < w.heap.size) (h : SesA 58 g No st w) (hok : OkS st) (htx : tx.length ≤ 2000000) :
 Calls Tryz.prog 41 #[.pointer (some ⟨g, 0, none⟩), .int .i64 i, .string ⟨tx.toArray⟩] w fun e w' => e = .returned (sv (yesT (addS st i tx).1)) ∧ SesA 58 g No (addS st i tx).2 w' ∧ ExtR g w w' := by
 have HPB := Lib.hid (fun w => sparseBox_any tx w htx)
 have hhi := hok.1.hi
 obtain ⟨pb, hpb⟩ : ∃ b, b = (pB tx).getD zb := ⟨_, rfl⟩
 have hrb : resB (pB tx) = .tuple #[pb.agg, .bool (pB tx).isSome] := by
  rw [hpb]
  cases pB tx <;> rfl
 rw [hrb] at HPB
 have HS : Hid (addS st i tx = if ((pB tx).isSome && addOk st.tree i pb) = true then (true, ⟨(addL st.tree i.toNat pb), st.w, st.h⟩) else (false, st)) := by
  show _ = _
  unfold addS
  cases hp : pB tx with
  | none => rfl
  | some b =>
   rw [hp] at hpb
   rw [hpb]
   rfl
 have HAB := Lib.hid (fun (w : World) (v : Value) (hv : Rd w 9 v (Bs st.tree)) => sAddBox_any (l := st.tree) i pb w hv (by omega))
 generalize (pB tx).isSome = ok at *
 clear hpb hrb
 unfold Bx.agg at HPB HAB
 go_enter Tryz.func41, Tryz.ntmps41
 go_wp2_with (fail)
 refine (HPB.out _).mono ?_
 rintro e w2 ⟨rfl, hx2⟩
 have kx := Keep.new w2 (.cells pb.arr 39)
 have hxd := after hx2 (Below.of_alloc w2 (.cells pb.arr 39)) (Nat.le_refl _)
 unfold Bx.arr at kx hxd
 clear hx2 HPB
 go_upto_region 2 with fail
 generalize w2.alloc (.cells #[.int .i64 pb.parent, .int .i64 pb.kind, .int .i64 pb.w, .int .i64 pb.h, .int .i64 pb.pad, .int .i64 pb.gap, .int .i64 pb.grow, .int .i64 pb.shrink, .int .i64 pb.justify] 39) = W3 at *
 generalize w2.heap.size = g9 at *
 replace h := h.ext hxd
 have hgl := h.lt
 have HSS := Lib.hid h
 obtain ⟨vt, k, ho, hvt⟩ := h
 obtain ⟨a1, c1, rfl, _, _, _⟩ := ho.rd.boxes
 have c0 := k.cell 0
 have d0 := kx.cell 0
 have d1 := kx.cell 1
 have d2 := kx.cell 2
 have d3 := kx.cell 3
 have d4 := kx.cell 4
 have d5 := kx.cell 5
 have d6 := kx.cell 6
 have d7 := kx.cell 7
 have d8 := kx.cell 8
 clear k kx hvt
 refine wp_region_held_drew (S := fun w' => Below W3.heap.size W3 w') (by kernel_rfl) (Below.refl _ _).drew (fun hS => ?_)
 change wpAnyH _ _ _ _ _ _ _ _ W3.drew
 have HO := Lib.hid (fun w' (hw : Below W3.heap.size W3 w') => ho.rd.below hw (Nat.le_refl _))
 clear ho
 generalize W3.drew = wd at *
 refine hTk hS 0 17 rfl (v := ?_) ?_ ?_
 rotate_left
 ·intro _ _; go_simp; first | done | with_reducible rfl
 simp only [Act.put, lsA, ls0, ls1]
 refine hTk hS 1 18 rfl (v := ?_) ?_ ?_
 rotate_left
 ·intro _ _; go_simp; first | done | with_reducible rfl
 simp only [Act.put, lsA, ls0, ls1]
 refine hTk hS 2 19 rfl (v := ?_) ?_ ?_
 rotate_left
 ·intro _ _; go_simp; first | done | with_reducible rfl
 simp only [Act.put, lsA, ls0, ls1]
 refine hTk hS 3 20 rfl (v := ?_) ?_ ?_
 rotate_left
 ·intro w9 hS9; have q := cellB hS9 c0; go_simp; first | done | with_reducible rfl
 simp only [Act.put, lsA, ls0, ls1]
 refine hTk hS 4 21 rfl (v := ?_) ?_ ?_
 rotate_left
 ·intro _ _; go_simp; first | done | with_reducible rfl
 simp only [Act.put, lsA, ls0, ls1]
 refine hTk hS 5 22 rfl (v := ?_) ?_ ?_
 rotate_left
 ·intro w9 hS9; have q0 := cellB hS9 d0; have q1 := cellB hS9 d1; have q2 := cellB hS9 d2; have q3 := cellB hS9 d3; have q4 := cellB hS9 d4; have q5 := cellB hS9 d5; have q6 := cellB hS9 d6; have q7 := cellB hS9 d7; have q8 := cellB hS9 d8; go_simp; first | done | with_reducible rfl
 simp only [Act.put, lsA, ls0, ls1]
 refine wpAnyH_ready (rs := [6]) (by kernel_rfl) (by simp) ?_
 refine AllReadyH.cons (o := _) rfl (fun K9 hK9 => ?_) AllReadyH.nil
 go_simp
 have hsz := hS.size
 refine (HAB.out _ _ (HO.out _ hS)).mono ?_
 rintro e w3 ⟨v3, rfl, ho3, hx3⟩
 try go_wp2_with fail
 refine hK9.out _ _ (after hS hx3 (Nat.le_refl _)) (fun hS => ?_)
 clear hK9 K9
 try simp only [Act.put, lsA, ls0, ls1]
 refine hTk hS 7 16 rfl (v := ?_) ?_ ?_
 rotate_left
 ·intro _ _; go_simp; first | done | with_reducible rfl
 simp only [Act.put, lsA, ls0, ls1]
 refine hTk hS 8 24 rfl (v := ?_) ?_ ?_
 rotate_left
 ·intro _ _; go_simp; first | done | with_reducible rfl
 simp only [Act.put, lsA, ls0, ls1]
 refine hTk hS 9 25 rfl (v := ?_) ?_ ?_
 rotate_left
 ·intro _ _; go_simp; first | done | with_reducible rfl
 simp only [Act.put, lsA, ls0, ls1]
 refine hTk hS 10 9 rfl (v := ?_) ?_ ?_
 rotate_left
 ·intro _ _; go_simp; first | done | with_reducible rfl
 simp only [Act.put, lsA, ls0, ls1]
 refine hTk hS 11 10 rfl (v := ?_) ?_ ?_
 rotate_left
 ·intro _ _; go_simp; first | done | with_reducible rfl
 simp only [Act.put, lsA, ls0, ls1]
 refine wpAnyH_done (by kernel_rfl) ?_ _
 clear c0 d0 d1 d2 d3 d4 d5 d6 d7 d8 HO hx3
 have hn3 : ∀ q, No q → blk v3 ≠ some q := fun q hq e => by
  have h1 := (ho3.lt _ e).1
  have h2 := hA q hq
  have h3 := hxd.size
  omega
 have h := HSS.out.ext hS
 have HX3 := Lib.hid (after hxd hS (Nat.le_refl _))
 clear HSS HAB hxd hS hsz
 cases ok with
 | false =>
  go_wp2
  go_ret
  exact ⟨by rw [HS.out]; rfl, by rw [HS.out]; exact h, extR_ext HX3.out⟩
 | true =>
  cases hq : addOk st.tree i pb with
  | false =>
   rw [hq] at HS
   clear hq
   go_wp2
   go_ret
   exact ⟨by rw [HS.out]; rfl, by rw [HS.out]; exact h, extR_ext HX3.out⟩
  | true =>
   rw [hq] at HS ho3
   have HT := Lib.hid (h.turn (l' := (addL st.tree i.toNat pb)) (ho3.weak (Nat.zero_le _)) hn3)
   have HB : Hid (ExtR g w (w3.setCell ⟨g, 0, none⟩ v3)) := ext_extR HX3.out (bel_setOne g w3 _)
   obtain ⟨vt, k, _, _⟩ := h
   have c0 := k.cell 0
   have f0 := k.frozen 0
   obtain ⟨a3, n3, c3, rfl, _⟩ := ho3
   clear k hn3 hq
   go_wp2
   go_ret
   exact ⟨by rw [HS.out]; rfl, by rw [HS.out]; exact HT.out, HB.out⟩
set_option maxRecDepth 100000 in
set_option maxHeartbeats 1000000 in
theorem ssty_m {g : Nat} {No : Nat → Prop} {st : St} (i : Int) (tx : List UInt8) (w : World) (hA : ∀ k, No k → k < w.heap.size) (h : SesA 58 g No st w) (hok : OkS st) (htx : tx.length ≤ 2000000) :
 Calls Tryz.prog 44 #[.pointer (some ⟨g, 0, none⟩), .int .i64 i, .string ⟨tx.toArray⟩] w fun e w' => e = .returned (sv (yesT (styS st i tx).1)) ∧ SesA 58 g No (styS st i tx).2 w' ∧ ExtR g w w' := by
 have HPB := Lib.hid (fun w => sparseBox_any tx w htx)
 have hhi := hok.1.hi
 obtain ⟨pb, hpb⟩ : ∃ b, b = (pB tx).getD zb := ⟨_, rfl⟩
 have hrb : resB (pB tx) = .tuple #[pb.agg, .bool (pB tx).isSome] := by
  rw [hpb]
  cases pB tx <;> rfl
 rw [hrb] at HPB
 have HS : Hid (styS st i tx = if ((pB tx).isSome && styleOk st.tree i pb) = true then (true, ⟨(styleL st.tree i pb), st.w, st.h⟩) else (false, st)) := by
  show _ = _
  unfold styS
  cases hp : pB tx with
  | none => rfl
  | some b =>
   rw [hp] at hpb
   rw [hpb]
   rfl
 have HAB := Lib.hid (fun (w : World) (v : Value) (hv : Rd w 9 v (Bs st.tree)) => sStyleBox_any (l := st.tree) i pb w hv (by omega))
 generalize (pB tx).isSome = ok at *
 clear hpb hrb
 unfold Bx.agg at HPB HAB
 go_enter Tryz.func44, Tryz.ntmps44
 go_wp2_with (fail)
 refine (HPB.out _).mono ?_
 rintro e w2 ⟨rfl, hx2⟩
 have kx := Keep.new w2 (.cells pb.arr 39)
 have hxd := after hx2 (Below.of_alloc w2 (.cells pb.arr 39)) (Nat.le_refl _)
 unfold Bx.arr at kx hxd
 clear hx2 HPB
 go_upto_region 2 with fail
 generalize w2.alloc (.cells #[.int .i64 pb.parent, .int .i64 pb.kind, .int .i64 pb.w, .int .i64 pb.h, .int .i64 pb.pad, .int .i64 pb.gap, .int .i64 pb.grow, .int .i64 pb.shrink, .int .i64 pb.justify] 39) = W3 at *
 generalize w2.heap.size = g9 at *
 replace h := h.ext hxd
 have hgl := h.lt
 have HSS := Lib.hid h
 obtain ⟨vt, k, ho, hvt⟩ := h
 obtain ⟨a1, c1, rfl, _, _, _⟩ := ho.rd.boxes
 have c0 := k.cell 0
 have d0 := kx.cell 0
 have d1 := kx.cell 1
 have d2 := kx.cell 2
 have d3 := kx.cell 3
 have d4 := kx.cell 4
 have d5 := kx.cell 5
 have d6 := kx.cell 6
 have d7 := kx.cell 7
 have d8 := kx.cell 8
 clear k kx hvt
 refine wp_region_held_drew (S := fun w' => Below W3.heap.size W3 w') (by kernel_rfl) (Below.refl _ _).drew (fun hS => ?_)
 change wpAnyH _ _ _ _ _ _ _ _ W3.drew
 have HO := Lib.hid (fun w' (hw : Below W3.heap.size W3 w') => ho.rd.below hw (Nat.le_refl _))
 clear ho
 generalize W3.drew = wd at *
 refine hTk hS 0 17 rfl (v := ?_) ?_ ?_
 rotate_left
 ·intro _ _; go_simp; first | done | with_reducible rfl
 simp only [Act.put, lsA, ls0, ls1]
 refine hTk hS 1 18 rfl (v := ?_) ?_ ?_
 rotate_left
 ·intro _ _; go_simp; first | done | with_reducible rfl
 simp only [Act.put, lsA, ls0, ls1]
 refine hTk hS 2 19 rfl (v := ?_) ?_ ?_
 rotate_left
 ·intro _ _; go_simp; first | done | with_reducible rfl
 simp only [Act.put, lsA, ls0, ls1]
 refine hTk hS 3 20 rfl (v := ?_) ?_ ?_
 rotate_left
 ·intro w9 hS9; have q := cellB hS9 c0; go_simp; first | done | with_reducible rfl
 simp only [Act.put, lsA, ls0, ls1]
 refine hTk hS 4 21 rfl (v := ?_) ?_ ?_
 rotate_left
 ·intro _ _; go_simp; first | done | with_reducible rfl
 simp only [Act.put, lsA, ls0, ls1]
 refine hTk hS 5 22 rfl (v := ?_) ?_ ?_
 rotate_left
 ·intro w9 hS9; have q0 := cellB hS9 d0; have q1 := cellB hS9 d1; have q2 := cellB hS9 d2; have q3 := cellB hS9 d3; have q4 := cellB hS9 d4; have q5 := cellB hS9 d5; have q6 := cellB hS9 d6; have q7 := cellB hS9 d7; have q8 := cellB hS9 d8; go_simp; first | done | with_reducible rfl
 simp only [Act.put, lsA, ls0, ls1]
 refine wpAnyH_ready (rs := [6]) (by kernel_rfl) (by simp) ?_
 refine AllReadyH.cons (o := _) rfl (fun K9 hK9 => ?_) AllReadyH.nil
 go_simp
 have hsz := hS.size
 refine (HAB.out _ _ (HO.out _ hS)).mono ?_
 rintro e w3 ⟨v3, rfl, ho3, hx3⟩
 try go_wp2_with fail
 refine hK9.out _ _ (after hS hx3 (Nat.le_refl _)) (fun hS => ?_)
 clear hK9 K9
 try simp only [Act.put, lsA, ls0, ls1]
 refine hTk hS 7 16 rfl (v := ?_) ?_ ?_
 rotate_left
 ·intro _ _; go_simp; first | done | with_reducible rfl
 simp only [Act.put, lsA, ls0, ls1]
 refine hTk hS 8 24 rfl (v := ?_) ?_ ?_
 rotate_left
 ·intro _ _; go_simp; first | done | with_reducible rfl
 simp only [Act.put, lsA, ls0, ls1]
 refine hTk hS 9 25 rfl (v := ?_) ?_ ?_
 rotate_left
 ·intro _ _; go_simp; first | done | with_reducible rfl
 simp only [Act.put, lsA, ls0, ls1]
 refine hTk hS 10 9 rfl (v := ?_) ?_ ?_
 rotate_left
 ·intro _ _; go_simp; first | done | with_reducible rfl
 simp only [Act.put, lsA, ls0, ls1]
 refine hTk hS 11 10 rfl (v := ?_) ?_ ?_
 rotate_left
 ·intro _ _; go_simp; first | done | with_reducible rfl
 simp only [Act.put, lsA, ls0, ls1]
 refine wpAnyH_done (by kernel_rfl) ?_ _
 clear c0 d0 d1 d2 d3 d4 d5 d6 d7 d8 HO hx3
 have hn3 : ∀ q, No q → blk v3 ≠ some q := fun q hq e => by
  have h1 := (ho3.lt _ e).1
  have h2 := hA q hq
  have h3 := hxd.size
  omega
 have h := HSS.out.ext hS
 have HX3 := Lib.hid (after hxd hS (Nat.le_refl _))
 clear HSS HAB hxd hS hsz
 cases ok with
 | false =>
  go_wp2
  go_ret
  exact ⟨by rw [HS.out]; rfl, by rw [HS.out]; exact h, extR_ext HX3.out⟩
 | true =>
  cases hq : styleOk st.tree i pb with
  | false =>
   rw [hq] at HS
   clear hq
   go_wp2
   go_ret
   exact ⟨by rw [HS.out]; rfl, by rw [HS.out]; exact h, extR_ext HX3.out⟩
  | true =>
   rw [hq] at HS ho3
   have HT := Lib.hid (h.turn (l' := (styleL st.tree i pb)) (ho3.weak (Nat.zero_le _)) hn3)
   have HB : Hid (ExtR g w (w3.setCell ⟨g, 0, none⟩ v3)) := ext_extR HX3.out (bel_setOne g w3 _)
   obtain ⟨vt, k, _, _⟩ := h
   have c0 := k.cell 0
   have f0 := k.frozen 0
   obtain ⟨a3, n3, c3, rfl, _⟩ := ho3
   clear k hn3 hq
   go_wp2
   go_ret
   exact ⟨by rw [HS.out]; rfl, by rw [HS.out]; exact HT.out, HB.out⟩
set_option maxRecDepth 100000 in
set_option maxHeartbeats 1000000 in
theorem srem_m {g : Nat} {No : Nat → Prop} {st : St} (i : Int) (w : World) (hA : ∀ k, No k → k < w.heap.size) (h : SesA 58 g No st w) (hok : OkS st) :
 Calls Tryz.prog 45 #[.pointer (some ⟨g, 0, none⟩), .int .i64 i] w fun e w' => e = .returned (sv (yesT (remS st i).1)) ∧ SesA 58 g No (remS st i).2 w' ∧ ExtR g w w' := by
 have hhi := hok.1.hi
 have HAB := Lib.hid (fun (w : World) (v : Value) (hv : Rd w 9 v (Bs st.tree)) => sRemoveBox_any (l := st.tree) i w hv (by omega))
 have HS : Hid (remS st i = if remB st.tree i = true then (true, ⟨remL st.tree i.toNat, st.w, st.h⟩) else (false, st)) := rfl
 have hgl := h.lt
 have HSS := Lib.hid h
 obtain ⟨vt, k, ho, hvt⟩ := h
 obtain ⟨a1, c1, rfl, _, _, _⟩ := ho.rd.boxes
 have c0 := k.cell 0
 clear k hvt
 go_enter Tryz.func45, Tryz.ntmps45
 go_wp2_with (fail)
 refine (HAB.out _ _ ho.rd).mono ?_
 rintro e w3 ⟨v3, rfl, ho3, hx3⟩
 have hn3 : ∀ q, No q → blk v3 ≠ some q := fun q hq e => by
  have h1 := (ho3.lt _ e).1
  have h2 := hA q hq
  omega
 have h := HSS.out.ext hx3
 have HX3 := Lib.hid hx3
 clear HSS HAB ho hx3 c0
 cases hq : remB st.tree i with
 | false =>
  rw [hq] at HS
  clear hq
  go_wp2
  go_ret
  exact ⟨by rw [HS.out]; rfl, by rw [HS.out]; exact h, extR_ext HX3.out⟩
 | true =>
  rw [hq] at HS ho3
  have HT := Lib.hid (h.turn (l' := remL st.tree i.toNat) (ho3.weak (Nat.zero_le _)) hn3)
  have HB : Hid (ExtR g w (w3.setCell ⟨g, 0, none⟩ v3)) := ext_extR HX3.out (bel_setOne g w3 _)
  obtain ⟨vt, k, _, _⟩ := h
  have c0 := k.cell 0
  have f0 := k.frozen 0
  obtain ⟨a3, n3, c3, rfl, _⟩ := ho3
  clear k hn3 hq
  go_wp2
  go_ret
  exact ⟨by rw [HS.out]; rfl, by rw [HS.out]; exact HT.out, HB.out⟩
set_option maxRecDepth 100000 in
set_option maxHeartbeats 1000000 in
theorem ssiz_m {g : Nat} {No : Nat → Prop} {st : St} (a b : Int) (w : World) (h : SesA 58 g No st w) :
 Calls Tryz.prog 46 #[.pointer (some ⟨g, 0, none⟩), .int .i64 a, .int .i64 b] w fun e w' => e = .returned (sv (yesT (sizS st a b).1)) ∧ SesA 58 g No (sizS st a b).2 w' ∧ ExtR g w w' := by
 have HS : Hid (sizS st a b = if (inR a 0 10000 && inR b 0 10000) = true then (true, ⟨st.tree, a, b⟩) else (false, st)) := rfl
 have HI := Lib.hid (fun (x : Int) (w : World) => inRange_any x 0 10000 w)
 have HSS := Lib.hid h
 obtain ⟨vt, k, ho, hvt⟩ := h
 have k1 : Keep g (.cells #[vt, .int .i64 a, .int .i64 st.h] 58) (w.setCell ⟨g, 1, none⟩ (.int .i64 a)) := k.store 1 _
 have k2 : Keep g (.cells #[vt, .int .i64 a, .int .i64 b] 58) ((w.setCell ⟨g, 1, none⟩ (.int .i64 a)).setCell ⟨g, 2, none⟩ (.int .i64 b)) := k1.store 2 _
 have ho2 := (ho.setOther (p := ⟨g, 1, none⟩) (hvt.2 g hvt.1) (.int .i64 a)).setOther (p := ⟨g, 2, none⟩) (hvt.2 g hvt.1) (.int .i64 b)
 have HT : Hid (SesA 58 g No ⟨st.tree, a, b⟩ ((w.setCell ⟨g, 1, none⟩ (.int .i64 a)).setCell ⟨g, 2, none⟩ (.int .i64 b))) := ⟨vt, k2, ho2, hvt⟩
 have HB : Hid (ExtR g w ((w.setCell ⟨g, 1, none⟩ (.int .i64 a)).setCell ⟨g, 2, none⟩ (.int .i64 b))) := ⟨rfl, rfl, rfl, by simp [World.setCell], fun q _ hq => (Below.heap_setCell _ _ _ _ hq).trans (Below.heap_setCell _ _ _ _ hq)⟩
 have d1 := k.cell 1
 have f1 := k.frozen 1
 have d2 := k1.cell 2
 have f2 := k1.frozen 2
 clear k k1 k2 ho ho2 hvt
 go_enter Tryz.func46, Tryz.ntmps46
 go_wp2_with (fail)
 refine (HI.out a _).mono ?_
 rintro e w' ⟨rfl, rfl⟩
 cases hqa : inR a 0 10000 with
 | false =>
  rw [hqa] at HS
  clear hqa
  go_wp2
  go_ret
  exact ⟨by rw [HS.out]; rfl, by rw [HS.out]; exact HSS.out, extR_ext (Below.refl _ _)⟩
 | true =>
  rw [hqa] at HS
  clear hqa
  go_wp2_with (fail)
  refine (HI.out b _).mono ?_
  rintro e w' ⟨rfl, rfl⟩
  cases hqb : inR b 0 10000 with
  | false =>
   rw [hqb] at HS
   clear hqb
   go_wp2
   go_ret
   exact ⟨by rw [HS.out]; rfl, by rw [HS.out]; exact HSS.out, extR_ext (Below.refl _ _)⟩
  | true =>
   rw [hqb] at HS
   clear hqb
   go_wp2
   go_ret
   exact ⟨by rw [HS.out]; rfl, by rw [HS.out]; exact HT.out, HB.out⟩
set_option maxRecDepth 100000 in
set_option maxHeartbeats 4000000 in
theorem srec_m {g : Nat} {No : Nat → Prop} {st : St} (n : Int) (w : World) (h : SesA 58 g No st w) (hok : OkS st) :
 Calls Tryz.prog 47 #[.pointer (some ⟨g, 0, none⟩), .int .i64 n] w fun e w' => e = .returned (sv (recS st n)) ∧ Ext w w' := by
 obtain ⟨vt, k, ho, hvt⟩ := h
 obtain ⟨a1, c1, rfl, _, _, _⟩ := ho.rd.boxes
 have c0 : w.cell? ⟨g, 0, none⟩ = some (.slice a1 st.tree.length c1) := k.cell 0
 have c1' : w.cell? ⟨g, 1, none⟩ = some (.int .i64 st.w) := k.cell 1
 have c2 : w.cell? ⟨g, 2, none⟩ = some (.int .i64 st.h) := k.cell 2
 have hhi := hok.1.hi
 have HQB : Hid (roB st.tree st.w st.h n = true → RB 100000 (roR st.tree st.w st.h n)) := fun hq => by
  rw [roR_t hq]
  unfold roB at hq
  rw [Bool.and_eq_true, inR_iff] at hq
  exact rect_ok hok.1 hok.2.1 hok.2.2 (by omega)
 have HIN0 : Hid (∀ w', Ext w w' → Calls Tryz.prog 71 #[.slice a1 st.tree.length c1, .int .i64 st.w, .int .i64 st.h, .int .i64 n] w' fun x w'' => x = .returned (.tuple #[(roR st.tree st.w st.h n).agg, .bool (roB st.tree st.w st.h n)]) ∧ Ext w' w'') := fun w' hw => sRectOf_any (l := st.tree) st.w st.h n w' (ho.rd.below hw (Nat.le_refl _)) (by omega)
 obtain ⟨q, hqe⟩ : ∃ q, roR st.tree st.w st.h n = q := ⟨_, rfl⟩
 have HQE : Hid (roR st.tree st.w st.h n = q) := hqe
 rw [hqe] at HQB HIN0
 have hgl := k.lt
 clear k ho hvt hok hqe hhi
 go_enter Tryz.func47, Tryz.ntmps47
 go_upto_region 1 with fail
 refine wp_region_held_drew (S := fun w' => Below w.heap.size w w') (by kernel_rfl) (Below.refl _ _).drew (fun hS => ?_)
 change wpAnyH _ _ _ _ _ _ _ _ w.drew
 generalize w.drew = wd at *
 refine hTk hS 0 8 rfl (v := ?_) ?_ ?_
 rotate_left
 ·intro _ _; go_simp; first | done | with_reducible rfl
 simp only [Act.put, lsA, ls0, ls1]
 refine hTk hS 1 9 rfl (v := ?_) ?_ ?_
 rotate_left
 ·intro _ _; go_simp; first | done | with_reducible rfl
 simp only [Act.put, lsA, ls0, ls1]
 refine hTk hS 2 10 rfl (v := ?_) ?_ ?_
 rotate_left
 ·intro _ _; go_simp; first | done | with_reducible rfl
 simp only [Act.put, lsA, ls0, ls1]
 refine hTk hS 3 11 rfl (v := ?_) ?_ ?_
 rotate_left
 ·intro w9 hS9; have q := cellB hS9 c0; go_simp; first | done | with_reducible rfl
 simp only [Act.put, lsA, ls0, ls1]
 refine hTk hS 4 12 rfl (v := ?_) ?_ ?_
 rotate_left
 ·intro _ _; go_simp; first | done | with_reducible rfl
 simp only [Act.put, lsA, ls0, ls1]
 refine hTk hS 5 13 rfl (v := ?_) ?_ ?_
 rotate_left
 ·intro _ _; go_simp; first | done | with_reducible rfl
 simp only [Act.put, lsA, ls0, ls1]
 refine hTk hS 6 14 rfl (v := ?_) ?_ ?_
 rotate_left
 ·intro _ _; go_simp; first | done | with_reducible rfl
 simp only [Act.put, lsA, ls0, ls1]
 refine hTk hS 7 15 rfl (v := ?_) ?_ ?_
 rotate_left
 ·intro w9 hS9; have q := cellB hS9 c1'; go_simp; first | done | with_reducible rfl
 simp only [Act.put, lsA, ls0, ls1]
 refine hTk hS 8 16 rfl (v := ?_) ?_ ?_
 rotate_left
 ·intro _ _; go_simp; first | done | with_reducible rfl
 simp only [Act.put, lsA, ls0, ls1]
 refine hTk hS 9 17 rfl (v := ?_) ?_ ?_
 rotate_left
 ·intro _ _; go_simp; first | done | with_reducible rfl
 simp only [Act.put, lsA, ls0, ls1]
 refine hTk hS 10 18 rfl (v := ?_) ?_ ?_
 rotate_left
 ·intro _ _; go_simp; first | done | with_reducible rfl
 simp only [Act.put, lsA, ls0, ls1]
 refine hTk hS 11 19 rfl (v := ?_) ?_ ?_
 rotate_left
 ·intro w9 hS9; have q := cellB hS9 c2; go_simp; first | done | with_reducible rfl
 simp only [Act.put, lsA, ls0, ls1]
 refine hTk hS 12 20 rfl (v := ?_) ?_ ?_
 rotate_left
 ·intro _ _; go_simp; first | done | with_reducible rfl
 simp only [Act.put, lsA, ls0, ls1]
 clear c0 c1' c2
 refine wpAnyH_ready (rs := [13, 17]) (by kernel_rfl) (by simp) ?_
 refine AllReadyH.cons (o := _) rfl (fun K9 hK9 => ?_) (AllReadyH.cons (o := _) rfl (fun K9 hK9 => ?_) AllReadyH.nil)
 ·go_simp
  refine ((HIN0.out _ hS)).mono ?_
  rintro e w7 ⟨rfl, hx7⟩
  unfold Rc.agg
  try go_wp2_with fail
  refine hK9.out _ _ (after hS hx7 (Nat.le_refl _)) (fun hS => ?_)
  clear hK9 K9
  try simp only [Act.put, lsA, ls0, ls1]
  clear hx7
  refine hTk hS 14 7 rfl (v := ?_) ?_ ?_
  rotate_left
  ·intro _ _; go_simp; first | done | with_reducible rfl
  simp only [Act.put, lsA, ls0, ls1]
  refine hTk hS 15 22 rfl (v := ?_) ?_ ?_
  rotate_left
  ·intro _ _; go_simp; first | done | with_reducible rfl
  simp only [Act.put, lsA, ls0, ls1]
  refine hTk hS 16 23 rfl (v := ?_) ?_ ?_
  rotate_left
  ·intro _ _; go_simp; first | done | with_reducible rfl
  simp only [Act.put, lsA, ls0, ls1]
  refine wpAnyH_ready (rs := [17]) (by kernel_rfl) (by simp) ?_
  refine AllReadyH.cons (o := _) rfl (fun K9 hK9 => ?_) AllReadyH.nil
  go_simp
  have hS0 := hS
  refine hK9.out _ _ (hS.alloc hS.size _) (fun hS => ?_)
  clear hK9 K9
  try simp only [Act.put, lsA, ls0, ls1]
  clear hS
  refine wpAnyH_ready (rs := [18]) (by kernel_rfl) (by simp) ?_
  refine AllReadyH.cons (o := _) rfl (fun K9 hK9 => ?_) AllReadyH.nil
  go_simp
  refine hK9.out _ _ (hS0.alloc hS0.size _) (fun hS => ?_)
  clear hK9 K9
  try simp only [Act.put, lsA, ls0, ls1]
  refine hTk hS 19 6 rfl (v := ?_) ?_ ?_
  rotate_left
  ·intro _ _; go_simp; first | done | with_reducible rfl
  simp only [Act.put, lsA, ls0, ls1]
  refine wpAnyH_done (by kernel_rfl) ?_ _
  have kQ := Keep.new w7 (.cells #[.int .i64 q.x, .int .i64 q.y, .int .i64 q.w, .int .i64 q.h] 96)
  clear hS0
  generalize w7.alloc (.cells #[.int .i64 q.x, .int .i64 q.y, .int .i64 q.w, .int .i64 q.h] 96) = W7 at *
  generalize w7.heap.size = gQ at *
  have HX := Lib.hid hS
  have q0 := kQ.cell 0
  have q1 := kQ.cell 1
  have q2 := kQ.cell 2
  have q3 := kQ.cell 3
  clear hS kQ
  cases hq : roB st.tree st.w st.h n with
  | true =>
   have hbq := HQB.out hq
   have HR : Hid (recS st n = rcT q) := by
    show _ = _
    unfold recS
    rw [if_pos hq, HQE.out]
   obtain ⟨h1, h2, h3, h4⟩ : (-1000000 < q.x ∧ q.x < 1000000) ∧ (-1000000 < q.y ∧ q.y < 1000000) ∧ (-1000000 < q.w ∧ q.w < 1000000) ∧ (-1000000 < q.h ∧ q.h < 1000000) := by
    obtain ⟨b1, b2, b3, b4, b5, b6, b7, b8⟩ := hbq
    omega
   have HRC : Hid ((⟨(dcZ q.x).toArray⟩ ++ ⟨#[32]⟩ ++ ⟨(dcZ q.y).toArray⟩ ++ ⟨#[32]⟩ ++ ⟨(dcZ q.w).toArray⟩ ++ ⟨#[32]⟩ ++ ⟨(dcZ q.h).toArray⟩ : ByteArray) = ⟨(rcT q).toArray⟩) := by
    show _ = _
    rw [show (⟨#[32]⟩ : ByteArray) = ⟨[32].toArray⟩ from rfl]
    simp only [ba_append]
    unfold rcT
    rw [join_flat]
    simp
   have HD := Lib.hid (fun (m : Int) (w : World) (hm : -1000000 < m ∧ m < 1000000) => sdecZ_any m w hm)
   have hl0 := dcZ_len (n := q.x) (by omega)
   have hl1 := dcZ_len (n := q.y) (by omega)
   have hl2 := dcZ_len (n := q.w) (by omega)
   have hl3 := dcZ_len (n := q.h) (by omega)
   have l1 : ¬ 9223372036854775807 < (dcZ q.x).length + 1 := by omega
   have l2 : ¬ 9223372036854775807 < (dcZ q.x).length + 1 + (dcZ q.y).length := by omega
   have l3 : ¬ 9223372036854775807 < (dcZ q.x).length + 1 + (dcZ q.y).length + 1 := by omega
   have l4 : ¬ 9223372036854775807 < (dcZ q.x).length + 1 + (dcZ q.y).length + 1 + (dcZ q.w).length := by omega
   have l5 : ¬ 9223372036854775807 < (dcZ q.x).length + 1 + (dcZ q.y).length + 1 + (dcZ q.w).length + 1 := by omega
   have l6 : ¬ 9223372036854775807 < (dcZ q.x).length + 1 + (dcZ q.y).length + 1 + (dcZ q.w).length + 1 + (dcZ q.h).length := by omega
   clear hq hbq hl0 hl1 hl2 hl3
   go_upto_region 4 with fail
   refine wp_region_held_drew (S := fun w' => Below W7.heap.size W7 w') (by kernel_rfl) (Below.refl _ _).drew (fun hS => ?_)
   change wpAnyH _ _ _ _ _ _ _ _ W7.drew
   generalize W7.drew = wd at *
   refine hTk hS 0 26 rfl (v := ?_) ?_ ?_
   rotate_left
   ·intro _ _; go_simp; first | done | with_reducible rfl
   simp only [Act.put, lsA, ls0, ls1]
   refine hTk hS 1 27 rfl (v := ?_) ?_ ?_
   rotate_left
   ·intro w9 hS9; have q := cellB hS9 q0; go_simp; first | done | with_reducible rfl
   simp only [Act.put, lsA, ls0, ls1]
   refine hTk hS 4 30 rfl (v := ?_) ?_ ?_
   rotate_left
   ·intro _ _; go_simp; first | done | with_reducible rfl
   simp only [Act.put, lsA, ls0, ls1]
   refine hTk hS 5 31 rfl (v := ?_) ?_ ?_
   rotate_left
   ·intro w9 hS9; have q := cellB hS9 q1; go_simp; first | done | with_reducible rfl
   simp only [Act.put, lsA, ls0, ls1]
   refine hTk hS 9 35 rfl (v := ?_) ?_ ?_
   rotate_left
   ·intro _ _; go_simp; first | done | with_reducible rfl
   simp only [Act.put, lsA, ls0, ls1]
   refine hTk hS 10 36 rfl (v := ?_) ?_ ?_
   rotate_left
   ·intro w9 hS9; have q := cellB hS9 q2; go_simp; first | done | with_reducible rfl
   simp only [Act.put, lsA, ls0, ls1]
   refine hTk hS 14 40 rfl (v := ?_) ?_ ?_
   rotate_left
   ·intro _ _; go_simp; first | done | with_reducible rfl
   simp only [Act.put, lsA, ls0, ls1]
   refine hTk hS 15 41 rfl (v := ?_) ?_ ?_
   rotate_left
   ·intro w9 hS9; have q := cellB hS9 q3; go_simp; first | done | with_reducible rfl
   simp only [Act.put, lsA, ls0, ls1]
   refine wpAnyH_ready (rs := [2]) (by kernel_rfl) (by simp) ?_
   refine AllReadyH.cons (o := _) rfl (fun K9 hK9 => ?_) AllReadyH.nil
   go_simp
   refine (HD.out _ _ h1).mono ?_
   rintro e w8 ⟨rfl, hx8⟩
   unfold sv
   try go_wp2_with fail
   refine hK9.out _ _ (after hS hx8 (Nat.le_refl _)) (fun hS => ?_)
   clear hK9 K9
   try simp only [Act.put, lsA, ls0, ls1]
   clear hx8
   refine hTk hS 3 29 rfl (v := ?_) ?_ ?_
   rotate_left
   ·intro _ _; go_simp; first | done | with_reducible rfl
   simp only [Act.put, lsA, ls0, ls1]
   refine wpAnyH_ready (rs := [6]) (by kernel_rfl) (by simp) ?_
   refine AllReadyH.cons (o := _) rfl (fun K9 hK9 => ?_) AllReadyH.nil
   go_simp
   refine (HD.out _ _ h2).mono ?_
   rintro e w8 ⟨rfl, hx8⟩
   unfold sv
   try go_wp2_with fail
   refine hK9.out _ _ (after hS hx8 (Nat.le_refl _)) (fun hS => ?_)
   clear hK9 K9
   try simp only [Act.put, lsA, ls0, ls1]
   clear hx8
   refine hTk hS 7 33 rfl (v := ?_) ?_ ?_
   rotate_left
   ·intro _ _; go_simp; first | done | with_reducible rfl
   simp only [Act.put, lsA, ls0, ls1]
   refine hTk hS 8 34 rfl (v := ?_) ?_ ?_
   rotate_left
   ·intro _ _; go_simp; first | done | with_reducible rfl
   simp only [Act.put, lsA, ls0, ls1]
   refine wpAnyH_ready (rs := [11]) (by kernel_rfl) (by simp) ?_
   refine AllReadyH.cons (o := _) rfl (fun K9 hK9 => ?_) AllReadyH.nil
   go_simp
   refine (HD.out _ _ h3).mono ?_
   rintro e w8 ⟨rfl, hx8⟩
   unfold sv
   try go_wp2_with fail
   refine hK9.out _ _ (after hS hx8 (Nat.le_refl _)) (fun hS => ?_)
   clear hK9 K9
   try simp only [Act.put, lsA, ls0, ls1]
   clear hx8
   refine hTk hS 12 38 rfl (v := ?_) ?_ ?_
   rotate_left
   ·intro _ _; go_simp; first | done | with_reducible rfl
   simp only [Act.put, lsA, ls0, ls1]
   refine hTk hS 13 39 rfl (v := ?_) ?_ ?_
   rotate_left
   ·intro _ _; go_simp; first | done | with_reducible rfl
   simp only [Act.put, lsA, ls0, ls1]
   refine wpAnyH_ready (rs := [16]) (by kernel_rfl) (by simp) ?_
   refine AllReadyH.cons (o := _) rfl (fun K9 hK9 => ?_) AllReadyH.nil
   go_simp
   refine (HD.out _ _ h4).mono ?_
   rintro e w8 ⟨rfl, hx8⟩
   unfold sv
   try go_wp2_with fail
   refine hK9.out _ _ (after hS hx8 (Nat.le_refl _)) (fun hS => ?_)
   clear hK9 K9
   try simp only [Act.put, lsA, ls0, ls1]
   clear hx8
   refine hTk hS 17 43 rfl (v := ?_) ?_ ?_
   rotate_left
   ·intro _ _; go_simp; first | done | with_reducible rfl
   simp only [Act.put, lsA, ls0, ls1]
   refine hTk hS 18 4 rfl (v := ?_) ?_ ?_
   rotate_left
   ·intro _ _; go_simp; first | done | with_reducible rfl
   simp only [Act.put, lsA, ls0, ls1]
   refine wpAnyH_done (by kernel_rfl) ?_ _
   have HXX := Lib.hid (after HX.out hS (Nat.le_refl _))
   clear hS q0 q1 q2 q3
   rw [HRC.out]
   go_wp2
   go_ret
   exact ⟨by rw [HR.out]; rfl, HXX.out⟩
  | false =>
   have HR : Hid (recS st n = yesT false) := by
    show _ = _
    unfold recS
    rw [if_neg (by rw [hq]; exact Bool.false_ne_true)]
   clear hq
   go_wp2
   go_ret
   exact ⟨by rw [HR.out]; rfl, HX.out⟩
 ·go_simp
  have kZ := Keep.new wd (.cells #[.int .i64 0, .int .i64 0, .int .i64 0, .int .i64 0] 96)
  have hgw := hS.size
  refine hK9.out _ _ (hS.alloc hS.size _) (fun hS => ?_)
  clear hK9 K9
  try simp only [Act.put, lsA, ls0, ls1]
  generalize wd.alloc (.cells #[.int .i64 0, .int .i64 0, .int .i64 0, .int .i64 0] 96) = we at *
  generalize wd.heap.size = gQ at *
  refine wpAnyH_ready (rs := [13]) (by kernel_rfl) (by simp) ?_
  refine AllReadyH.cons (o := _) rfl (fun K9 hK9 => ?_) AllReadyH.nil
  go_simp
  refine ((HIN0.out _ hS)).mono ?_
  rintro e w7 ⟨rfl, hx7⟩
  unfold Rc.agg
  try go_wp2_with fail
  replace kZ := keepE kZ hx7
  refine hK9.out _ _ (after hS hx7 (Nat.le_refl _)) (fun hS => ?_)
  clear hK9 K9
  try simp only [Act.put, lsA, ls0, ls1]
  clear hx7
  refine hTk hS 14 7 rfl (v := ?_) ?_ ?_
  rotate_left
  ·intro _ _; go_simp; first | done | with_reducible rfl
  simp only [Act.put, lsA, ls0, ls1]
  refine hTk hS 15 22 rfl (v := ?_) ?_ ?_
  rotate_left
  ·intro _ _; go_simp; first | done | with_reducible rfl
  simp only [Act.put, lsA, ls0, ls1]
  refine hTk hS 16 23 rfl (v := ?_) ?_ ?_
  rotate_left
  ·intro _ _; go_simp; first | done | with_reducible rfl
  simp only [Act.put, lsA, ls0, ls1]
  have z0 := kZ.cell 0
  have z1 := kZ.cell 1
  have z2 := kZ.cell 2
  have z3 := kZ.cell 3
  have f0 := kZ.frozen 0
  have f1 := kZ.frozen 1
  have f2 := kZ.frozen 2
  have f3 := kZ.frozen 3
  have kQ := keep_rect kZ rfl (.int .i64 q.x) (.int .i64 q.y) (.int .i64 q.w) (.int .i64 q.h)
  refine wpAnyH_ready (rs := [18]) (by kernel_rfl) (by simp) ?_
  refine AllReadyH.cons (o := _) rfl (fun K9 hK9 => ?_) AllReadyH.nil
  go_simp
  refine hK9.out _ _ (below_set4' hS hgw _ _ _ _) (fun hS => ?_)
  clear hK9 K9
  try simp only [Act.put, lsA, ls0, ls1]
  clear z0 z1 z2 z3 f0 f1 f2 f3 kZ hgw
  generalize (((w7.setCell ⟨gQ, 0, none⟩ (.int .i64 q.x)).setCell ⟨gQ, 1, none⟩ (.int .i64 q.y)).setCell ⟨gQ, 2, none⟩ (.int .i64 q.w)).setCell ⟨gQ, 3, none⟩ (.int .i64 q.h) = W7 at *
  refine hTk hS 19 6 rfl (v := ?_) ?_ ?_
  rotate_left
  ·intro _ _; go_simp; first | done | with_reducible rfl
  simp only [Act.put, lsA, ls0, ls1]
  refine wpAnyH_done (by kernel_rfl) ?_ _
  have HX := Lib.hid hS
  have q0 := kQ.cell 0
  have q1 := kQ.cell 1
  have q2 := kQ.cell 2
  have q3 := kQ.cell 3
  clear hS kQ
  cases hq : roB st.tree st.w st.h n with
  | true =>
   have hbq := HQB.out hq
   have HR : Hid (recS st n = rcT q) := by
    show _ = _
    unfold recS
    rw [if_pos hq, HQE.out]
   obtain ⟨h1, h2, h3, h4⟩ : (-1000000 < q.x ∧ q.x < 1000000) ∧ (-1000000 < q.y ∧ q.y < 1000000) ∧ (-1000000 < q.w ∧ q.w < 1000000) ∧ (-1000000 < q.h ∧ q.h < 1000000) := by
    obtain ⟨b1, b2, b3, b4, b5, b6, b7, b8⟩ := hbq
    omega
   have HRC : Hid ((⟨(dcZ q.x).toArray⟩ ++ ⟨#[32]⟩ ++ ⟨(dcZ q.y).toArray⟩ ++ ⟨#[32]⟩ ++ ⟨(dcZ q.w).toArray⟩ ++ ⟨#[32]⟩ ++ ⟨(dcZ q.h).toArray⟩ : ByteArray) = ⟨(rcT q).toArray⟩) := by
    show _ = _
    rw [show (⟨#[32]⟩ : ByteArray) = ⟨[32].toArray⟩ from rfl]
    simp only [ba_append]
    unfold rcT
    rw [join_flat]
    simp
   have HD := Lib.hid (fun (m : Int) (w : World) (hm : -1000000 < m ∧ m < 1000000) => sdecZ_any m w hm)
   have hl0 := dcZ_len (n := q.x) (by omega)
   have hl1 := dcZ_len (n := q.y) (by omega)
   have hl2 := dcZ_len (n := q.w) (by omega)
   have hl3 := dcZ_len (n := q.h) (by omega)
   have l1 : ¬ 9223372036854775807 < (dcZ q.x).length + 1 := by omega
   have l2 : ¬ 9223372036854775807 < (dcZ q.x).length + 1 + (dcZ q.y).length := by omega
   have l3 : ¬ 9223372036854775807 < (dcZ q.x).length + 1 + (dcZ q.y).length + 1 := by omega
   have l4 : ¬ 9223372036854775807 < (dcZ q.x).length + 1 + (dcZ q.y).length + 1 + (dcZ q.w).length := by omega
   have l5 : ¬ 9223372036854775807 < (dcZ q.x).length + 1 + (dcZ q.y).length + 1 + (dcZ q.w).length + 1 := by omega
   have l6 : ¬ 9223372036854775807 < (dcZ q.x).length + 1 + (dcZ q.y).length + 1 + (dcZ q.w).length + 1 + (dcZ q.h).length := by omega
   clear hq hbq hl0 hl1 hl2 hl3
   go_upto_region 4 with fail
   refine wp_region_held_drew (S := fun w' => Below W7.heap.size W7 w') (by kernel_rfl) (Below.refl _ _).drew (fun hS => ?_)
   change wpAnyH _ _ _ _ _ _ _ _ W7.drew
   generalize W7.drew = wd at *
   refine hTk hS 0 26 rfl (v := ?_) ?_ ?_
   rotate_left
   ·intro _ _; go_simp; first | done | with_reducible rfl
   simp only [Act.put, lsA, ls0, ls1]
   refine hTk hS 1 27 rfl (v := ?_) ?_ ?_
   rotate_left
   ·intro w9 hS9; have q := cellB hS9 q0; go_simp; first | done | with_reducible rfl
   simp only [Act.put, lsA, ls0, ls1]
   refine hTk hS 4 30 rfl (v := ?_) ?_ ?_
   rotate_left
   ·intro _ _; go_simp; first | done | with_reducible rfl
   simp only [Act.put, lsA, ls0, ls1]
   refine hTk hS 5 31 rfl (v := ?_) ?_ ?_
   rotate_left
   ·intro w9 hS9; have q := cellB hS9 q1; go_simp; first | done | with_reducible rfl
   simp only [Act.put, lsA, ls0, ls1]
   refine hTk hS 9 35 rfl (v := ?_) ?_ ?_
   rotate_left
   ·intro _ _; go_simp; first | done | with_reducible rfl
   simp only [Act.put, lsA, ls0, ls1]
   refine hTk hS 10 36 rfl (v := ?_) ?_ ?_
   rotate_left
   ·intro w9 hS9; have q := cellB hS9 q2; go_simp; first | done | with_reducible rfl
   simp only [Act.put, lsA, ls0, ls1]
   refine hTk hS 14 40 rfl (v := ?_) ?_ ?_
   rotate_left
   ·intro _ _; go_simp; first | done | with_reducible rfl
   simp only [Act.put, lsA, ls0, ls1]
   refine hTk hS 15 41 rfl (v := ?_) ?_ ?_
   rotate_left
   ·intro w9 hS9; have q := cellB hS9 q3; go_simp; first | done | with_reducible rfl
   simp only [Act.put, lsA, ls0, ls1]
   refine wpAnyH_ready (rs := [2]) (by kernel_rfl) (by simp) ?_
   refine AllReadyH.cons (o := _) rfl (fun K9 hK9 => ?_) AllReadyH.nil
   go_simp
   refine (HD.out _ _ h1).mono ?_
   rintro e w8 ⟨rfl, hx8⟩
   unfold sv
   try go_wp2_with fail
   refine hK9.out _ _ (after hS hx8 (Nat.le_refl _)) (fun hS => ?_)
   clear hK9 K9
   try simp only [Act.put, lsA, ls0, ls1]
   clear hx8
   refine hTk hS 3 29 rfl (v := ?_) ?_ ?_
   rotate_left
   ·intro _ _; go_simp; first | done | with_reducible rfl
   simp only [Act.put, lsA, ls0, ls1]
   refine wpAnyH_ready (rs := [6]) (by kernel_rfl) (by simp) ?_
   refine AllReadyH.cons (o := _) rfl (fun K9 hK9 => ?_) AllReadyH.nil
   go_simp
   refine (HD.out _ _ h2).mono ?_
   rintro e w8 ⟨rfl, hx8⟩
   unfold sv
   try go_wp2_with fail
   refine hK9.out _ _ (after hS hx8 (Nat.le_refl _)) (fun hS => ?_)
   clear hK9 K9
   try simp only [Act.put, lsA, ls0, ls1]
   clear hx8
   refine hTk hS 7 33 rfl (v := ?_) ?_ ?_
   rotate_left
   ·intro _ _; go_simp; first | done | with_reducible rfl
   simp only [Act.put, lsA, ls0, ls1]
   refine hTk hS 8 34 rfl (v := ?_) ?_ ?_
   rotate_left
   ·intro _ _; go_simp; first | done | with_reducible rfl
   simp only [Act.put, lsA, ls0, ls1]
   refine wpAnyH_ready (rs := [11]) (by kernel_rfl) (by simp) ?_
   refine AllReadyH.cons (o := _) rfl (fun K9 hK9 => ?_) AllReadyH.nil
   go_simp
   refine (HD.out _ _ h3).mono ?_
   rintro e w8 ⟨rfl, hx8⟩
   unfold sv
   try go_wp2_with fail
   refine hK9.out _ _ (after hS hx8 (Nat.le_refl _)) (fun hS => ?_)
   clear hK9 K9
   try simp only [Act.put, lsA, ls0, ls1]
   clear hx8
   refine hTk hS 12 38 rfl (v := ?_) ?_ ?_
   rotate_left
   ·intro _ _; go_simp; first | done | with_reducible rfl
   simp only [Act.put, lsA, ls0, ls1]
   refine hTk hS 13 39 rfl (v := ?_) ?_ ?_
   rotate_left
   ·intro _ _; go_simp; first | done | with_reducible rfl
   simp only [Act.put, lsA, ls0, ls1]
   refine wpAnyH_ready (rs := [16]) (by kernel_rfl) (by simp) ?_
   refine AllReadyH.cons (o := _) rfl (fun K9 hK9 => ?_) AllReadyH.nil
   go_simp
   refine (HD.out _ _ h4).mono ?_
   rintro e w8 ⟨rfl, hx8⟩
   unfold sv
   try go_wp2_with fail
   refine hK9.out _ _ (after hS hx8 (Nat.le_refl _)) (fun hS => ?_)
   clear hK9 K9
   try simp only [Act.put, lsA, ls0, ls1]
   clear hx8
   refine hTk hS 17 43 rfl (v := ?_) ?_ ?_
   rotate_left
   ·intro _ _; go_simp; first | done | with_reducible rfl
   simp only [Act.put, lsA, ls0, ls1]
   refine hTk hS 18 4 rfl (v := ?_) ?_ ?_
   rotate_left
   ·intro _ _; go_simp; first | done | with_reducible rfl
   simp only [Act.put, lsA, ls0, ls1]
   refine wpAnyH_done (by kernel_rfl) ?_ _
   have HXX := Lib.hid (after HX.out hS (Nat.le_refl _))
   clear hS q0 q1 q2 q3
   rw [HRC.out]
   go_wp2
   go_ret
   exact ⟨by rw [HR.out]; rfl, HXX.out⟩
  | false =>
   have HR : Hid (recS st n = yesT false) := by
    show _ = _
    unfold recS
    rw [if_neg (by rw [hq]; exact Bool.false_ne_true)]
   clear hq
   go_wp2
   go_ret
   exact ⟨by rw [HR.out]; rfl, HX.out⟩
theorem classify (x : List UInt8) (n : Nat) :
 (x = addT ∧ 2 < n) ∨ (x = styT2 ∧ 2 < n) ∨ (x = remT ∧ n = 2) ∨ (x = sizT ∧ n = 3) ∨ (x = recT ∧ n = 2) ∨ (x = hitT ∧ n = 3) ∨ (x = cntT ∧ n = 1) ∨
 (x = addT ∧ ¬ 2 < n) ∨ (x = styT2 ∧ ¬ 2 < n) ∨ (x = remT ∧ n ≠ 2) ∨ (x = sizT ∧ n ≠ 3) ∨ (x = recT ∧ n ≠ 2) ∨ (x = hitT ∧ n ≠ 3) ∨ (x = cntT ∧ n ≠ 1) ∨
 (x ≠ addT ∧ x ≠ styT2 ∧ x ≠ remT ∧ x ≠ sizT ∧ x ≠ recT ∧ x ≠ hitT ∧ x ≠ cntT) := by
 by_cases h1 : x = addT
 ·by_cases h : 2 < n
  ·exact .inl ⟨h1, h⟩
  ·simp [h1, h]
 by_cases h2 : x = styT2
 ·by_cases h : 2 < n
  ·simp [h2, h]
  ·simp [h2, h]
 by_cases h3 : x = remT
 ·by_cases h : n = 2
  ·simp [h3, h]
  ·simp [h3, h]
 by_cases h4 : x = sizT
 ·by_cases h : n = 3
  ·simp [h4, h]
  ·simp [h4, h]
 by_cases h5 : x = recT
 ·by_cases h : n = 2
  ·simp [h5, h]
  ·simp [h5, h]
 by_cases h6 : x = hitT
 ·by_cases h : n = 3
  ·simp [h6, h]
  ·simp [h6, h]
 by_cases h7 : x = cntT
 ·by_cases h : n = 1
  ·simp [h7, h]
  ·simp [h7, h]
 simp [h1, h2, h3, h4, h5, h6, h7]
theorem cell_off {g b o : Nat} {w w' : World} (hx : ExtR g w w') (hb : b < w.heap.size) (hg : b ≠ g) : w'.cell? ⟨b, o, none⟩ = w.cell? ⟨b, o, none⟩ := World.cell?_of_block (hx.block b hb hg)
theorem two_list {r : List (List UInt8)} {n : Nat} (h : r.length + 1 = n) (h2 : 2 < n) : ∃ a t, r = a :: t ∧ t ≠ [] := by
 match r, h with
 | [], h => simp at h; omega
 | [a], h => simp at h; omega
 | a :: b :: t, _ => exact ⟨a, b :: t, rfl, by simp⟩
set_option maxRecDepth 100000 in
set_option maxHeartbeats 4000000 in
theorem sline_any {g : Nat} {No : Nat → Prop} {st : St} (ln : List UInt8) (w : World) (hA : ∀ k, No k → k < w.heap.size) (h : SesA 58 g No st w) (hok : OkS st) (hln : ln.length ≤ 2000000) :
 Calls Tryz.prog 27 #[.pointer (some ⟨g, 0, none⟩), .string ⟨ln.toArray⟩] w fun e w' => e = .returned (sv (lineS st ln).1) ∧ SesA 58 g No (lineS st ln).2 w' ∧ ExtR g w w' := by
 have HSP := Lib.hid (fun w => splitAt_any ln 32 w hln)
 have HRE := Lib.hid (fun w => srest_any ln w hln)
 obtain ⟨ws, hws⟩ : ∃ ws, ws = splitB 32 ln := ⟨_, rfl⟩
 have hwb : ∀ y, y ∈ ws → y.length ≤ 2000000 := fun y hy => Nat.le_trans (splitB_le 32 ln y (by rw [← hws]; exact hy)) hln
 have hne : ws ≠ [] := by
  rw [hws]
  exact splitB_ne 32 ln
 have hjn : Lib.join ws [32] = ln := by
  rw [hws]
  exact join_split 32 ln
 have HW : Hid (lineS st ln = wordS st ws) := by
  rw [hws]
  exact rfl
 rw [← hws] at HSP HRE
 have hcntb : ln = cntT ↔ ws = [cntT] := by
  constructor
  ·intro e
   rw [hws, e]
   decide
  ·intro e
   rw [← hjn, e, Lib.join_one]
 have HJL : Hid (2 < ws.length → (Lib.join (ws.drop 2) [32]).length ≤ 2000000) := fun h2 => by
  have h3 := split_three 32 ln
  rw [hws] at h2 ⊢
  rw [if_pos h2] at h3
  exact Nat.le_trans (splitK_le 32 2 ln _ (by rw [h3]; simp)) hln
 clear hws hjn
 go_enter Tryz.func27, Tryz.ntmps27
 go_wp2_with (fail)
 refine (HSP.out _).mono ?_
 rintro e w1 ⟨v1, rfl, ho1, hx1⟩
 obtain ⟨x, r, rfl⟩ : ∃ x r, ws = x :: r := by
  match ws, hne with
  | x :: r, _ => exact ⟨x, r, rfl⟩
 obtain ⟨b0, off, n, c, rfl, hn, _, hb1, hb0, hcl, _⟩ := ho1.cells (by simp [Ss])
 have hbg : b0 ≠ g := by
  have := h.lt
  omega
 have hn' : r.length + 1 = n := by
  have : (Ss (x :: r)).length = r.length + 1 := by simp [Ss]
  omega
 have hcl' : ∀ (k : Nat) (y : List UInt8), (x :: r)[k]? = some y → w1.cell? ⟨b0, off + k, none⟩ = some (.string ⟨y.toArray⟩) := fun k y hy => hcl k _ (by rw [show Ss (x :: r) = (x :: r).map sv from rfl, List.getElem?_map, hy]; rfl)
 have e0 : w1.cell? ⟨b0, off, none⟩ = some (.string ⟨x.toArray⟩) := hcl' 0 x rfl
 have HC := Lib.hid hcl'
 clear hcl hcl' hn HSP ho1 hne
 have hlc : (ln == [99, 111, 117, 110, 116]) = decide (x = cntT ∧ n = 1) := by
  rw [Bool.eq_iff_iff, beq_iff_eq, decide_eq_true_eq]
  refine hcntb.trans ⟨fun e => ?_, fun e => ?_⟩
  ·simp only [List.cons.injEq] at e
   obtain ⟨e1, rfl⟩ := e
   exact ⟨e1, by simpa using hn'.symm⟩
  ·obtain ⟨rfl, rfl⟩ := e
   rw [List.eq_nil_of_length_eq_zero (show r.length = 0 by omega)]
 rcases classify x n with h1 | h1 | h1 | h1 | h1 | h1 | h1 | h1 | h1 | h1 | h1 | h1 | h1 | h1 | h1
 ·clear hlc
  obtain ⟨rfl, h2⟩ := h1
  obtain ⟨a, t, rfl, ht⟩ := two_list hn' h2
  have h2i : (2 : Int) < n := by omega
  have e1 : w1.cell? ⟨b0, off + 1, none⟩ = some (.string ⟨a.toArray⟩) := HC.out 1 a rfl
  have hla : a.length ≤ 10000000 := by have := hwb a (by simp); omega
  have HWA : Hid (lineS st ln = (yesT (addS st (prI a) (Lib.join t [32])).1, (addS st (prI a) (Lib.join t [32])).2)) := HW.out.trans (word_add st _ a _ t rfl ht rfl)
  have hjl : (Lib.join t [32]).length ≤ 2000000 := HJL.out (by simp; exact List.length_pos_iff.2 ht)
  replace HRE : Hid (∀ w, Calls Tryz.prog 43 #[.string ⟨ln.toArray⟩, .int .i64 2] w fun e w' => e = .returned (sv (Lib.join t [32])) ∧ Ext w w') := HRE.out
  unfold addT at e0
  clear HC HJL HW hwb hcntb ht
  go_wp2_with (fail)
  refine (sparseInt_any a _ hla).mono ?_
  rintro e w2 ⟨rfl, hx2⟩
  have hcur := after hx1 hx2 (Nat.le_refl _)
  clear hx2 e0 e1
  go_wp2_with (fail)
  refine (HRE.out _).mono ?_
  rintro e w3 ⟨rfl, hx3⟩
  replace hcur := after hcur hx3 (Nat.le_refl _)
  clear hx3 hx1 HRE
  generalize Lib.join t [32] = tx at *
  unfold sv
  go_wp2_with (fail)
  refine (sadd_m (prI a) tx _ (fun k hk => Nat.lt_of_lt_of_le (hA k hk) hcur.size) (h.ext hcur) hok hjl).mono ?_
  rintro e w9 ⟨rfl, hs9, hx9⟩
  have HX := Lib.hid (ext_extR hcur hx9)
  unfold sv
  generalize yesT _ = out at *
  go_wp2
  go_ret
  exact ⟨by rw [HWA.out]; rfl, by rw [HWA.out]; exact hs9, HX.out⟩
 ·clear hlc
  obtain ⟨rfl, h2⟩ := h1
  obtain ⟨a, t, rfl, ht⟩ := two_list hn' h2
  have h2i : (2 : Int) < n := by omega
  have e1 : w1.cell? ⟨b0, off + 1, none⟩ = some (.string ⟨a.toArray⟩) := HC.out 1 a rfl
  have hla : a.length ≤ 10000000 := by have := hwb a (by simp); omega
  have HWA : Hid (lineS st ln = (yesT (styS st (prI a) (Lib.join t [32])).1, (styS st (prI a) (Lib.join t [32])).2)) := HW.out.trans (word_sty st _ a _ t rfl ht rfl)
  have hjl : (Lib.join t [32]).length ≤ 2000000 := HJL.out (by simp; exact List.length_pos_iff.2 ht)
  replace HRE : Hid (∀ w, Calls Tryz.prog 43 #[.string ⟨ln.toArray⟩, .int .i64 2] w fun e w' => e = .returned (sv (Lib.join t [32])) ∧ Ext w w') := HRE.out
  unfold styT2 at e0
  clear HC HJL HW hwb hcntb ht
  go_wp2_with (fail)
  refine (sparseInt_any a _ hla).mono ?_
  rintro e w2 ⟨rfl, hx2⟩
  have hcur := after hx1 hx2 (Nat.le_refl _)
  clear hx2 e0 e1
  go_wp2_with (fail)
  refine (HRE.out _).mono ?_
  rintro e w3 ⟨rfl, hx3⟩
  replace hcur := after hcur hx3 (Nat.le_refl _)
  clear hx3 hx1 HRE
  generalize Lib.join t [32] = tx at *
  unfold sv
  go_wp2_with (fail)
  refine (ssty_m (prI a) tx _ (fun k hk => Nat.lt_of_lt_of_le (hA k hk) hcur.size) (h.ext hcur) hok hjl).mono ?_
  rintro e w9 ⟨rfl, hs9, hx9⟩
  have HX := Lib.hid (ext_extR hcur hx9)
  unfold sv
  generalize yesT _ = out at *
  go_wp2
  go_ret
  exact ⟨by rw [HWA.out]; rfl, by rw [HWA.out]; exact hs9, HX.out⟩
 ·clear hlc
  obtain ⟨rfl, h2⟩ := h1
  obtain ⟨a, rfl⟩ := List.length_eq_one_iff.1 (show r.length = 1 by omega)
  have e1 : w1.cell? ⟨b0, off + 1, none⟩ = some (.string ⟨a.toArray⟩) := HC.out 1 a rfl
  have hla : a.length ≤ 10000000 := by have := hwb a (by simp); omega
  unfold remT at e0
  subst h2
  clear HC HJL hwb hcntb HRE
  have HWA : Hid (lineS st ln = (yesT (remS st (prI a)).1, (remS st (prI a)).2)) := HW.out.trans (word_rem st a)
  go_wp2_with (fail)
  refine (sparseInt_any a _ hla).mono ?_
  rintro e w2 ⟨rfl, hx2⟩
  have hcur := after hx1 hx2 (Nat.le_refl _)
  clear hx2 e0 e1 hx1
  go_wp2_with (fail)
  refine (srem_m (prI a) _ (fun k hk => Nat.lt_of_lt_of_le (hA k hk) hcur.size) (h.ext hcur) hok).mono ?_
  rintro e w9 ⟨rfl, hs9, hx9⟩
  have HX := Lib.hid (ext_extR hcur hx9)
  unfold sv
  generalize yesT _ = out at *
  go_wp2
  go_ret
  exact ⟨by rw [HWA.out]; rfl, by rw [HWA.out]; exact hs9, HX.out⟩
 ·clear hlc
  obtain ⟨rfl, h2⟩ := h1
  obtain ⟨a, b, rfl⟩ := len_two (show r.length = 2 by omega)
  have e1 : w1.cell? ⟨b0, off + 1, none⟩ = some (.string ⟨a.toArray⟩) := HC.out 1 a rfl
  have e2 : w1.cell? ⟨b0, off + 2, none⟩ = some (.string ⟨b.toArray⟩) := HC.out 2 b rfl
  have hla : a.length ≤ 10000000 := by have := hwb a (by simp); omega
  have hlb : b.length ≤ 10000000 := by have := hwb b (by simp); omega
  unfold sizT at e0
  subst h2
  clear HC HJL hwb hcntb HRE
  have HWA : Hid (lineS st ln = (yesT (sizS st (prI a) (prI b)).1, (sizS st (prI a) (prI b)).2)) := HW.out.trans (word_siz st a b)
  go_upto_region 9 with fail
  refine wp_region_held_drew (S := fun w' => w'.cell? ⟨b0, off + 1, none⟩ = some (.string ⟨a.toArray⟩) ∧ w'.cell? ⟨b0, off + 2, none⟩ = some (.string ⟨b.toArray⟩)) (by kernel_rfl) ⟨e1, e2⟩ (fun hS => ?_)
  change wpAnyH _ _ _ _ _ _ _ _ w1.drew
  replace hx1 : Ext w w1.drew := hx1.drew
  replace hb0 : b0 < w1.drew.heap.size := hb0
  clear e0 e1 e2
  generalize w1.drew = wd at *
  refine hTk hS 0 70 rfl (v := ?_) ?_ ?_
  rotate_left
  ·intro _ _; go_simp; first | done | with_reducible rfl
  simp only [Act.put, lsA, ls0, ls1]
  refine hTk hS 1 71 rfl (v := ?_) ?_ ?_
  rotate_left
  ·intro _ _; go_simp; first | done | with_reducible rfl
  simp only [Act.put, lsA, ls0, ls1]
  refine hTk hS 2 72 rfl (v := ?_) ?_ ?_
  rotate_left
  ·intro _ _; go_simp; first | done | with_reducible rfl
  simp only [Act.put, lsA, ls0, ls1]
  refine hTk hS 3 73 rfl (v := ?_) ?_ ?_
  rotate_left
  ·intro w9 hS9; have q := hS9.1; go_simp; first | done | with_reducible rfl
  simp only [Act.put, lsA, ls0, ls1]
  refine hTk hS 5 75 rfl (v := ?_) ?_ ?_
  rotate_left
  ·intro _ _; go_simp; first | done | with_reducible rfl
  simp only [Act.put, lsA, ls0, ls1]
  refine hTk hS 6 76 rfl (v := ?_) ?_ ?_
  rotate_left
  ·intro _ _; go_simp; first | done | with_reducible rfl
  simp only [Act.put, lsA, ls0, ls1]
  refine hTk hS 7 77 rfl (v := ?_) ?_ ?_
  rotate_left
  ·intro w9 hS9; have q := hS9.2; go_simp; first | done | with_reducible rfl
  simp only [Act.put, lsA, ls0, ls1]
  refine wpAnyH_ready (rs := [4]) (by kernel_rfl) (by simp) ?_
  refine AllReadyH.cons (o := _) rfl (fun K9 hK9 => ?_) AllReadyH.nil
  go_simp
  refine (sparseInt_any a _ hla).mono ?_
  rintro e w2 ⟨rfl, hx2⟩
  have hcur := after hx1 hx2 (Nat.le_refl _)
  try go_wp2_with fail
  refine hK9.out _ _ ⟨cellB hx2 hS.1, cellB hx2 hS.2⟩ (fun hS => ?_)
  clear hK9 K9
  try simp only [Act.put, lsA, ls0, ls1]
  have hb2 := Nat.lt_of_lt_of_le hb0 hx2.size
  clear hx2 hx1
  refine wpAnyH_ready (rs := [8]) (by kernel_rfl) (by simp) ?_
  refine AllReadyH.cons (o := _) rfl (fun K9 hK9 => ?_) AllReadyH.nil
  go_simp
  refine (sparseInt_any b _ hlb).mono ?_
  rintro e w3 ⟨rfl, hx2⟩
  replace hcur := after hcur hx2 (Nat.le_refl _)
  try go_wp2_with fail
  refine hK9.out _ _ ⟨cellB hx2 hS.1, cellB hx2 hS.2⟩ (fun hS => ?_)
  clear hK9 K9
  try simp only [Act.put, lsA, ls0, ls1]
  replace hb2 := Nat.lt_of_lt_of_le hb2 hx2.size
  clear hx2
  refine wpAnyH_ready (rs := [9]) (by kernel_rfl) (by simp) ?_
  refine AllReadyH.cons (o := _) rfl (fun K9 hK9 => ?_) AllReadyH.nil
  go_simp
  refine (ssiz_m (prI a) (prI b) _ (h.ext hcur)).mono ?_
  rintro e w9 ⟨rfl, hs9, hx9⟩
  try go_wp2_with fail
  have HX := Lib.hid (ext_extR hcur hx9)
  unfold sv
  refine hK9.out _ _ ⟨(cell_off hx9 hb2 hbg).trans hS.1, (cell_off hx9 hb2 hbg).trans hS.2⟩ (fun hS => ?_)
  clear hK9 K9
  try simp only [Act.put, List.setIfInBounds_toArray]
  refine hTk hS 10 4 rfl (v := ?_) ?_ ?_
  rotate_left
  ·intro _ _; go_simp; first | done | with_reducible rfl
  simp only [Act.put, lsA, ls0, ls1]
  refine wpAnyH_done (by kernel_rfl) ?_ _
  clear hS hcur hx9
  generalize yesT _ = out at *
  go_wp2
  go_ret
  exact ⟨by rw [HWA.out]; rfl, by rw [HWA.out]; exact hs9, HX.out⟩
 ·clear hlc
  obtain ⟨rfl, h2⟩ := h1
  obtain ⟨a, rfl⟩ := List.length_eq_one_iff.1 (show r.length = 1 by omega)
  have e1 : w1.cell? ⟨b0, off + 1, none⟩ = some (.string ⟨a.toArray⟩) := HC.out 1 a rfl
  have hla : a.length ≤ 10000000 := by have := hwb a (by simp); omega
  unfold recT at e0
  subst h2
  clear HC HJL hwb hcntb HRE
  have HWA : Hid (lineS st ln = (recS st (prI a), st)) := HW.out.trans (word_rec st a)
  go_wp2_with (fail)
  refine (sparseInt_any a _ hla).mono ?_
  rintro e w2 ⟨rfl, hx2⟩
  have hcur := after hx1 hx2 (Nat.le_refl _)
  clear hx2 e0 e1 hx1
  go_wp2_with (fail)
  refine (srec_m (prI a) _ (h.ext hcur) hok).mono ?_
  rintro e w9 ⟨rfl, hx9⟩
  have HX := Lib.hid (after hcur hx9 (Nat.le_refl _))
  unfold sv
  generalize recS st (prI a) = out at *
  go_wp2
  go_ret
  exact ⟨by rw [HWA.out]; rfl, by rw [HWA.out]; exact h.ext HX.out, extR_ext HX.out⟩
 ·clear hlc
  obtain ⟨rfl, h2⟩ := h1
  obtain ⟨a, b, rfl⟩ := len_two (show r.length = 2 by omega)
  have e1 : w1.cell? ⟨b0, off + 1, none⟩ = some (.string ⟨a.toArray⟩) := HC.out 1 a rfl
  have e2 : w1.cell? ⟨b0, off + 2, none⟩ = some (.string ⟨b.toArray⟩) := HC.out 2 b rfl
  have hla : a.length ≤ 10000000 := by have := hwb a (by simp); omega
  have hlb : b.length ≤ 10000000 := by have := hwb b (by simp); omega
  unfold hitT at e0
  subst h2
  clear HC HJL hwb hcntb HRE
  have HWA : Hid (lineS st ln = (dcZ (hitI st.tree st.w st.h (prI a) (prI b)), st)) := HW.out.trans (word_hit st a b)
  have hhb : -1 ≤ hitI st.tree st.w st.h (prI a) (prI b) ∧ hitI st.tree st.w st.h (prI a) (prI b) ≤ 16 := by
   have := hok.1.hi
   unfold hitI
   split
   ·have := hitTo_ge st.tree st.w st.h (prI a) (prI b) st.tree.length
    omega
   ·omega
  have hhi := hok.1.hi
  have HSS := Lib.hid h
  have hs1 := h.ext hx1
  obtain ⟨vt, k, ho, hvt⟩ := hs1
  obtain ⟨a1, c1, rfl, _, _, _⟩ := ho.rd.boxes
  have c0 := k.cell 0
  have c1' := k.cell 1
  have c2 := k.cell 2
  have HHB := Lib.hid (fun (w' : World) (hw : Below w1.heap.size w1 w') => sHitBox_any (l := st.tree) st.w st.h (prI a) (prI b) w' (ho.rd.below hw (Nat.le_refl _)) (by omega))
  obtain ⟨m, hm⟩ : ∃ m, hitI st.tree st.w st.h (prI a) (prI b) = m := ⟨_, rfl⟩
  rw [hm] at HHB HWA hhb
  clear k ho hvt hhi hm h
  go_upto_region 13 with fail
  refine wp_region_held_drew (S := fun w' => Below w1.heap.size w1 w') (by kernel_rfl) (Below.refl _ _).drew (fun hS => ?_)
  change wpAnyH _ _ _ _ _ _ _ _ w1.drew
  generalize w1.drew = wd at *
  refine hTk hS 0 106 rfl (v := ?_) ?_ ?_
  rotate_left
  ·intro _ _; go_simp; first | done | with_reducible rfl
  simp only [Act.put, lsA, ls0, ls1]
  refine hTk hS 1 107 rfl (v := ?_) ?_ ?_
  rotate_left
  ·intro _ _; go_simp; first | done | with_reducible rfl
  simp only [Act.put, lsA, ls0, ls1]
  refine hTk hS 2 108 rfl (v := ?_) ?_ ?_
  rotate_left
  ·intro _ _; go_simp; first | done | with_reducible rfl
  simp only [Act.put, lsA, ls0, ls1]
  refine hTk hS 3 109 rfl (v := ?_) ?_ ?_
  rotate_left
  ·intro w9 hS9; have q := cellB hS9 c0; go_simp; first | done | with_reducible rfl
  simp only [Act.put, lsA, ls0, ls1]
  refine hTk hS 4 110 rfl (v := ?_) ?_ ?_
  rotate_left
  ·intro _ _; go_simp; first | done | with_reducible rfl
  simp only [Act.put, lsA, ls0, ls1]
  refine hTk hS 5 111 rfl (v := ?_) ?_ ?_
  rotate_left
  ·intro _ _; go_simp; first | done | with_reducible rfl
  simp only [Act.put, lsA, ls0, ls1]
  refine hTk hS 6 112 rfl (v := ?_) ?_ ?_
  rotate_left
  ·intro _ _; go_simp; first | done | with_reducible rfl
  simp only [Act.put, lsA, ls0, ls1]
  refine hTk hS 7 113 rfl (v := ?_) ?_ ?_
  rotate_left
  ·intro w9 hS9; have q := cellB hS9 c1'; go_simp; first | done | with_reducible rfl
  simp only [Act.put, lsA, ls0, ls1]
  refine hTk hS 8 114 rfl (v := ?_) ?_ ?_
  rotate_left
  ·intro _ _; go_simp; first | done | with_reducible rfl
  simp only [Act.put, lsA, ls0, ls1]
  refine hTk hS 9 115 rfl (v := ?_) ?_ ?_
  rotate_left
  ·intro _ _; go_simp; first | done | with_reducible rfl
  simp only [Act.put, lsA, ls0, ls1]
  refine hTk hS 10 116 rfl (v := ?_) ?_ ?_
  rotate_left
  ·intro _ _; go_simp; first | done | with_reducible rfl
  simp only [Act.put, lsA, ls0, ls1]
  refine hTk hS 11 117 rfl (v := ?_) ?_ ?_
  rotate_left
  ·intro w9 hS9; have q := cellB hS9 c2; go_simp; first | done | with_reducible rfl
  simp only [Act.put, lsA, ls0, ls1]
  refine hTk hS 12 118 rfl (v := ?_) ?_ ?_
  rotate_left
  ·intro _ _; go_simp; first | done | with_reducible rfl
  simp only [Act.put, lsA, ls0, ls1]
  refine hTk hS 13 119 rfl (v := ?_) ?_ ?_
  rotate_left
  ·intro _ _; go_simp; first | done | with_reducible rfl
  simp only [Act.put, lsA, ls0, ls1]
  refine hTk hS 14 120 rfl (v := ?_) ?_ ?_
  rotate_left
  ·intro w9 hS9; have q := cellB hS9 e1; go_simp; first | done | with_reducible rfl
  simp only [Act.put, lsA, ls0, ls1]
  refine hTk hS 16 122 rfl (v := ?_) ?_ ?_
  rotate_left
  ·intro _ _; go_simp; first | done | with_reducible rfl
  simp only [Act.put, lsA, ls0, ls1]
  refine hTk hS 17 123 rfl (v := ?_) ?_ ?_
  rotate_left
  ·intro _ _; go_simp; first | done | with_reducible rfl
  simp only [Act.put, lsA, ls0, ls1]
  refine hTk hS 18 124 rfl (v := ?_) ?_ ?_
  rotate_left
  ·intro w9 hS9; have q := cellB hS9 e2; go_simp; first | done | with_reducible rfl
  simp only [Act.put, lsA, ls0, ls1]
  refine wpAnyH_ready (rs := [15]) (by kernel_rfl) (by simp) ?_
  refine AllReadyH.cons (o := _) rfl (fun K9 hK9 => ?_) AllReadyH.nil
  go_simp
  refine (sparseInt_any a _ hla).mono ?_
  rintro e w2 ⟨rfl, hx2⟩
  try go_wp2_with fail
  refine hK9.out _ _ (after hS hx2 (Nat.le_refl _)) (fun hS => ?_)
  clear hK9 K9
  try simp only [Act.put, lsA, ls0, ls1]
  clear hx2
  refine wpAnyH_ready (rs := [19]) (by kernel_rfl) (by simp) ?_
  refine AllReadyH.cons (o := _) rfl (fun K9 hK9 => ?_) AllReadyH.nil
  go_simp
  refine (sparseInt_any b _ hlb).mono ?_
  rintro e w2 ⟨rfl, hx2⟩
  try go_wp2_with fail
  refine hK9.out _ _ (after hS hx2 (Nat.le_refl _)) (fun hS => ?_)
  clear hK9 K9
  try simp only [Act.put, lsA, ls0, ls1]
  clear hx2
  refine wpAnyH_ready (rs := [20]) (by kernel_rfl) (by simp) ?_
  refine AllReadyH.cons (o := _) rfl (fun K9 hK9 => ?_) AllReadyH.nil
  go_simp
  refine (HHB.out _ hS).mono ?_
  rintro e w2 ⟨rfl, hx2⟩
  try go_wp2_with fail
  refine hK9.out _ _ (after hS hx2 (Nat.le_refl _)) (fun hS => ?_)
  clear hK9 K9
  try simp only [Act.put, lsA, ls0, ls1]
  clear hx2
  refine wpAnyH_ready (rs := [21]) (by kernel_rfl) (by simp) ?_
  refine AllReadyH.cons (o := _) rfl (fun K9 hK9 => ?_) AllReadyH.nil
  go_simp
  refine (sdecZ_any m _ (by omega)).mono ?_
  rintro e w2 ⟨rfl, hx2⟩
  try go_wp2_with fail
  unfold sv
  refine hK9.out _ _ (after hS hx2 (Nat.le_refl _)) (fun hS => ?_)
  clear hK9 K9
  try simp only [Act.put, List.setIfInBounds_toArray]
  clear hx2
  refine hTk hS 22 4 rfl (v := ?_) ?_ ?_
  rotate_left
  ·intro _ _; go_simp; first | done | with_reducible rfl
  simp only [Act.put, lsA, ls0, ls1]
  refine wpAnyH_done (by kernel_rfl) ?_ _
  have HX := Lib.hid (after hx1 hS (Nat.le_refl _))
  clear hS c0 c1' c2 e0 e1 e2
  go_wp2
  go_ret
  exact ⟨by rw [HWA.out]; rfl, by rw [HWA.out]; exact HSS.out.ext HX.out, extR_ext HX.out⟩
 ·obtain ⟨rfl, h2⟩ := h1
  obtain rfl := List.length_eq_zero_iff.1 (show r.length = 0 by omega)
  have HWA : Hid (lineS st ln = (dcZ st.tree.length, st)) := HW.out.trans (word_cnt st)
  subst h2
  have hlc2 : (ln == [99, 111, 117, 110, 116]) = true := hlc.trans (decide_eq_true ⟨rfl, rfl⟩)
  clear hlc
  unfold cntT at e0
  have hhi := hok.1.hi
  have HSS := Lib.hid h
  have hs1 := h.ext hx1
  obtain ⟨vt, k, ho, hvt⟩ := hs1
  obtain ⟨a1, c1, rfl, _, _, _⟩ := ho.rd.boxes
  have c0 := k.cell 0
  clear k ho hvt h HC HJL hwb hcntb HRE HW
  go_wp2_with (fail)
  refine (sdecZ_any (st.tree.length : Int) _ (by omega)).mono ?_
  rintro e w9 ⟨rfl, hx9⟩
  have HX := Lib.hid (after hx1 hx9 (Nat.le_refl _))
  unfold sv
  generalize dcZ (st.tree.length : Int) = out at *
  go_wp2
  go_ret
  exact ⟨by rw [HWA.out]; rfl, by rw [HWA.out]; exact HSS.out.ext HX.out, extR_ext HX.out⟩
 ·obtain ⟨rfl, h2⟩ := h1
  have HWA : Hid (lineS st ln = (whaT, st)) := HW.out.trans (word_what st _ r (fun _ => by omega) (fun e => absurd e (by decide)) (fun e => absurd e (by decide)) (fun e => absurd e (by decide)) (fun e => absurd e (by decide)) (fun e => absurd e (by decide)) (fun e => absurd e (by decide)))
  clear HC HJL hwb hcntb HRE HW
  unfold addT at e0
  have h2i : ¬ (2 : Int) < n := by omega
  have hlc2 : (ln == [99, 111, 117, 110, 116]) = false := hlc.trans (decide_eq_false (fun e => absurd e.1 (by decide)))
  clear hlc
  go_wp2
  go_ret
  exact ⟨by rw [HWA.out]; rfl, by rw [HWA.out]; exact h.ext hx1, extR_ext hx1⟩
 ·obtain ⟨rfl, h2⟩ := h1
  have HWA : Hid (lineS st ln = (whaT, st)) := HW.out.trans (word_what st _ r (fun e => absurd e (by decide)) (fun _ => by omega) (fun e => absurd e (by decide)) (fun e => absurd e (by decide)) (fun e => absurd e (by decide)) (fun e => absurd e (by decide)) (fun e => absurd e (by decide)))
  clear HC HJL hwb hcntb HRE HW
  unfold styT2 at e0
  have h2i : ¬ (2 : Int) < n := by omega
  have hlc2 : (ln == [99, 111, 117, 110, 116]) = false := hlc.trans (decide_eq_false (fun e => absurd e.1 (by decide)))
  clear hlc
  go_wp2
  go_ret
  exact ⟨by rw [HWA.out]; rfl, by rw [HWA.out]; exact h.ext hx1, extR_ext hx1⟩
 ·obtain ⟨rfl, h2⟩ := h1
  have HWA : Hid (lineS st ln = (whaT, st)) := HW.out.trans (word_what st _ r (fun e => absurd e (by decide)) (fun e => absurd e (by decide)) (fun _ => by omega) (fun e => absurd e (by decide)) (fun e => absurd e (by decide)) (fun e => absurd e (by decide)) (fun e => absurd e (by decide)))
  clear HC HJL hwb hcntb HRE HW
  unfold remT at e0
  have h2i : ((n : Int) == 2) = false := beq_eq_false_iff_ne.2 (by omega)
  have hlc2 : (ln == [99, 111, 117, 110, 116]) = false := hlc.trans (decide_eq_false (fun e => absurd e.1 (by decide)))
  clear hlc
  go_wp2
  go_ret
  exact ⟨by rw [HWA.out]; rfl, by rw [HWA.out]; exact h.ext hx1, extR_ext hx1⟩
 ·obtain ⟨rfl, h2⟩ := h1
  have HWA : Hid (lineS st ln = (whaT, st)) := HW.out.trans (word_what st _ r (fun e => absurd e (by decide)) (fun e => absurd e (by decide)) (fun e => absurd e (by decide)) (fun _ => by omega) (fun e => absurd e (by decide)) (fun e => absurd e (by decide)) (fun e => absurd e (by decide)))
  clear HC HJL hwb hcntb HRE HW
  unfold sizT at e0
  have h2i : ((n : Int) == 3) = false := beq_eq_false_iff_ne.2 (by omega)
  have hlc2 : (ln == [99, 111, 117, 110, 116]) = false := hlc.trans (decide_eq_false (fun e => absurd e.1 (by decide)))
  clear hlc
  go_wp2
  go_ret
  exact ⟨by rw [HWA.out]; rfl, by rw [HWA.out]; exact h.ext hx1, extR_ext hx1⟩
 ·obtain ⟨rfl, h2⟩ := h1
  have HWA : Hid (lineS st ln = (whaT, st)) := HW.out.trans (word_what st _ r (fun e => absurd e (by decide)) (fun e => absurd e (by decide)) (fun e => absurd e (by decide)) (fun e => absurd e (by decide)) (fun _ => by omega) (fun e => absurd e (by decide)) (fun e => absurd e (by decide)))
  clear HC HJL hwb hcntb HRE HW
  unfold recT at e0
  have h2i : ((n : Int) == 2) = false := beq_eq_false_iff_ne.2 (by omega)
  have hlc2 : (ln == [99, 111, 117, 110, 116]) = false := hlc.trans (decide_eq_false (fun e => absurd e.1 (by decide)))
  clear hlc
  go_wp2
  go_ret
  exact ⟨by rw [HWA.out]; rfl, by rw [HWA.out]; exact h.ext hx1, extR_ext hx1⟩
 ·obtain ⟨rfl, h2⟩ := h1
  have HWA : Hid (lineS st ln = (whaT, st)) := HW.out.trans (word_what st _ r (fun e => absurd e (by decide)) (fun e => absurd e (by decide)) (fun e => absurd e (by decide)) (fun e => absurd e (by decide)) (fun e => absurd e (by decide)) (fun _ => by omega) (fun e => absurd e (by decide)))
  clear HC HJL hwb hcntb HRE HW
  unfold hitT at e0
  have h2i : ((n : Int) == 3) = false := beq_eq_false_iff_ne.2 (by omega)
  have hlc2 : (ln == [99, 111, 117, 110, 116]) = false := hlc.trans (decide_eq_false (fun e => absurd e.1 (by decide)))
  clear hlc
  go_wp2
  go_ret
  exact ⟨by rw [HWA.out]; rfl, by rw [HWA.out]; exact h.ext hx1, extR_ext hx1⟩
 ·obtain ⟨rfl, h2⟩ := h1
  have HWA : Hid (lineS st ln = (whaT, st)) := HW.out.trans (word_what st _ r (fun e => absurd e (by decide)) (fun e => absurd e (by decide)) (fun e => absurd e (by decide)) (fun e => absurd e (by decide)) (fun e => absurd e (by decide)) (fun e => absurd e (by decide)) (fun _ => by omega))
  clear HC HJL hwb hcntb HRE HW
  unfold cntT at e0
  have h2i : ((n : Int) == 1) = false := beq_eq_false_iff_ne.2 (by omega)
  have hlc2 : (ln == [99, 111, 117, 110, 116]) = false := hlc.trans (decide_eq_false (fun e => h2 e.2))
  clear hlc
  go_wp2
  go_ret
  exact ⟨by rw [HWA.out]; rfl, by rw [HWA.out]; exact h.ext hx1, extR_ext hx1⟩
 ·obtain ⟨g1, g2, g3, g4, g5, g6, g7⟩ := h1
  have HWA : Hid (lineS st ln = (whaT, st)) := HW.out.trans (word_what st _ r (fun e => absurd e g1) (fun e => absurd e g2) (fun e => absurd e g3) (fun e => absurd e g4) (fun e => absurd e g5) (fun e => absurd e g6) (fun e => absurd e g7))
  clear HC HJL hwb hcntb HRE HW
  have hlc2 : (ln == [99, 111, 117, 110, 116]) = false := hlc.trans (decide_eq_false (fun e => g7 e.1))
  have b1 : (x == [97, 100, 100]) = false := beq_eq_false_iff_ne.2 g1
  have b2 : (x == [115, 116, 121, 108, 101]) = false := beq_eq_false_iff_ne.2 g2
  have b3 : (x == [114, 101, 109, 111, 118, 101]) = false := beq_eq_false_iff_ne.2 g3
  have b4 : (x == [115, 105, 122, 101]) = false := beq_eq_false_iff_ne.2 g4
  have b5 : (x == [114, 101, 99, 116]) = false := beq_eq_false_iff_ne.2 g5
  have b6 : (x == [104, 105, 116]) = false := beq_eq_false_iff_ne.2 g6
  clear hlc g1 g2 g3 g4 g5 g6 g7
  go_wp2
  go_ret
  exact ⟨by rw [HWA.out]; rfl, by rw [HWA.out]; exact h.ext hx1, extR_ext hx1⟩
set_option maxRecDepth 100000 in
set_option maxHeartbeats 1000000 in
theorem sRunSession_any {v : Value} (lines : List (List UInt8)) (w : World) (hv : Rd w 1 v (Ss lines)) (hlen : ∀ x, x ∈ lines → x.length ≤ 2000000) :
 Calls Tryz.prog 11 #[v] w fun e w' => e = .returned (sv (runS (lines.take 20) st0)) ∧ Ext w w' := by
 obtain ⟨a, n, c, rfl, hn, hnc, hc, hcells⟩ := hv
 have hn' : lines.length = n := by
  have : (Ss lines).length = lines.length := by simp [Ss]
  omega
 clear hn
 have HT : Hid (∃ T : List (List UInt8), T = lines.take 20 ∧ T.length = min n 20 ∧ (∀ x, x ∈ T → x.length ≤ 2000000) ∧ ∀ (k : Nat) (ln : List UInt8), T[k]? = some ln → (Ss lines)[k]? = some (sv ln)) := by
  refine ⟨_, rfl, by rw [List.length_take]; omega, fun x hx => hlen x (List.mem_of_mem_take hx), fun k ln hk => ?_⟩
  have hk2 : lines[k]? = some ln := by
   rw [List.getElem?_take] at hk
   split at hk
   ·exact hk
   ·cases hk
  simp [Ss, hk2]
 obtain ⟨T, hT, hTl, hTn, hTc⟩ := HT.out
 have HTE := Lib.hid hT
 clear hT HT
 have HS : Hid (SesA 58 (w.heap.size + 1) (fun q => q = w.heap.size + 1) st0 ((w.alloc (.cells #[.int .i64 (-1), .int .i64 1, .int .i64 0, .int .i64 0, .int .i64 0, .int .i64 0, .int .i64 0, .int .i64 0, .int .i64 0] 39)).alloc (.cells #[.slice (some ⟨w.heap.size, 0, none⟩) 1 1, .int .i64 100, .int .i64 100] 58)) ∧ Ext w ((w.alloc (.cells #[.int .i64 (-1), .int .i64 1, .int .i64 0, .int .i64 0, .int .i64 0, .int .i64 0, .int .i64 0, .int .i64 0, .int .i64 0] 39)).alloc (.cells #[.slice (some ⟨w.heap.size, 0, none⟩) 1 1, .int .i64 100, .int .i64 100] 58))) := by
  have hx1 := Below.of_alloc w (.cells #[.int .i64 (-1), .int .i64 1, .int .i64 0, .int .i64 0, .int .i64 0, .int .i64 0, .int .i64 0, .int .i64 0, .int .i64 0] 39)
  have ho := Own.made w #[.int .i64 (-1), .int .i64 1, .int .i64 0, .int .i64 0, .int .i64 0, .int .i64 0, .int .i64 0, .int .i64 0, .int .i64 0] 39 0 9 1 1 (Nat.zero_le _) (Nat.le_refl _) (by unfold maxLen; omega) rfl
  have hsz : (w.alloc (.cells #[.int .i64 (-1), .int .i64 1, .int .i64 0, .int .i64 0, .int .i64 0, .int .i64 0, .int .i64 0, .int .i64 0, .int .i64 0] 39)).heap.size = w.heap.size + 1 := World.size_alloc ..
  generalize w.alloc (.cells #[.int .i64 (-1), .int .i64 1, .int .i64 0, .int .i64 0, .int .i64 0, .int .i64 0, .int .i64 0, .int .i64 0, .int .i64 0] 39) = W1 at *
  have hx2 := Below.of_alloc W1 (.cells #[.slice (some ⟨w.heap.size, 0, none⟩) 1 1, .int .i64 100, .int .i64 100] 58)
  have k2 := Keep.new W1 (.cells #[.slice (some ⟨w.heap.size, 0, none⟩) 1 1, .int .i64 100, .int .i64 100] 58)
  rw [← hsz]
  refine ⟨⟨_, k2, ho.alloc _, rfl, fun k hk e => ?_⟩, after hx1 hx2 (Nat.le_refl _)⟩
  have e2 : w.heap.size = k := Option.some.inj e
  omega
 go_enter Tryz.func11, Tryz.ntmps11
 go_wp2
 generalize ((w.alloc (.cells #[.int .i64 (-1), .int .i64 1, .int .i64 0, .int .i64 0, .int .i64 0, .int .i64 0, .int .i64 0, .int .i64 0, .int .i64 0] 39)).alloc (.cells #[.slice (some ⟨w.heap.size, 0, none⟩) 1 1, .int .i64 100, .int .i64 100] 58)) = W3 at *
 obtain ⟨g, hg⟩ : ∃ g, w.heap.size + 1 = g := ⟨_, rfl⟩
 rw [hg] at HS
 rw [hg]
 have hgw : w.heap.size ≤ g := by omega
 clear hg
 go_loopw [4, 5] (fun o i wr => ∃ k : Nat, i = .int .i64 k ∧ k ≤ T.length ∧ o = .string ⟨(runS (T.take k) st0).toArray⟩ ∧ SesA 58 g (fun q => q = g) (endS (T.take k) st0) wr ∧ Below w.heap.size w wr) (fun _ i _ => 20 - (intOf i).toNat)
 case atStart => exact ⟨0, rfl, Nat.zero_le _, rfl, HS.out.1, HS.out.2⟩
 case round =>
  obtain ⟨k, rfl, hkl, rfl, hses, hx⟩ := hrel
  by_cases hk : k < T.length
  ·have hln : T[k]? = some T[k] := List.getElem?_eq_getElem hk
   have hll : T[k].length ≤ 2000000 := hTn _ (List.getElem_mem hk)
   have HTK := Lib.hid (List.take_succ_eq_append_getElem hk)
   have hcc := hTc k _ hln
   generalize T[k] = ln at *
   obtain ⟨bl, off, rfl, hcl⟩ := hcells.resolve_left (fun e => by rw [e] at hcc; cases hcc)
   have e0 : wr.cell? ⟨bl, off + k, none⟩ = some (.string ⟨ln.toArray⟩) := cellB hx (hcl k _ hcc)
   have hki : (k : Int) < n := by omega
   have hk20 : (k : Int) < 20 := by omega
   have hk0 : (0 : Int) ≤ k := by omega
   have hst0 := endS_ok (T.take k) st0_ok
   have hlL := runS_len (T.take k) st0_ok
   have hlk : (T.take k).length = k := by rw [List.length_take]; omega
   have hA : ∀ q, q = g → q < wr.heap.size := fun q hq => by rw [hq]; exact hses.lt
   have HRUN : Hid (runS (T.take (k + 1)) st0 = runS (T.take k) st0 ++ (lineS (endS (T.take k) st0) ln).1 ++ [10] ∧ endS (T.take (k + 1)) st0 = (lineS (endS (T.take k) st0) ln).2) := by
    rw [HTK.out, runS_app, endS_app, List.append_assoc]
    exact ⟨rfl, rfl⟩
   have hl1 := (line_ok hst0 ln).2
   clear hcl hcc hln HTK
   generalize runS (T.take k) st0 = R at *
   generalize hEe : endS (T.take k) st0 = E at *
   clear hEe
   go_wp2_with (fail)
   refine (sline_any ln _ hA hses hst0 hll).mono ?_
   rintro e w1 ⟨rfl, hs1, hx1⟩
   have hx1b := below_of_bel (afterR (bel_of hx) hx1 (Nat.le_refl _)) hgw
   generalize hLe : lineS E ln = LE at *
   obtain ⟨tx, E1⟩ := LE
   replace hl1 : tx.length ≤ 1000 := hl1
   have HZ : Hid ((⟨R.toArray⟩ ++ ⟨tx.toArray⟩ ++ ⟨#[10]⟩ : ByteArray) = ⟨(R ++ tx ++ [10]).toArray⟩) := by
    show _ = _
    rw [show (⟨#[10]⟩ : ByteArray) = ⟨[10].toArray⟩ from rfl, ba_append, ba_append]
   have l1 : ¬ 9223372036854775807 < R.length + tx.length := by omega
   have l2 : ¬ 9223372036854775807 < R.length + tx.length + 1 := by omega
   clear hses hx1 hA e0 hLe hx
   unfold sv
   go_wp2
   rw [HZ.out]
   go_roundw
   case rel => exact ⟨k + 1, by go_num, by omega, by rw [HRUN.out.1], by rw [HRUN.out.2]; exact hs1, hx1b⟩
   case measure => simp [intOf]; omega
  ·obtain rfl : k = T.length := by omega
   rw [List.take_length, HTE.out]
   obtain ⟨R, hR⟩ : ∃ R, R = runS (lines.take 20) st0 := ⟨_, rfl⟩
   rw [← hR]
   replace hR := Lib.hid hR
   by_cases hkn : n ≤ 20
   ·have hq : ¬ ((min n 20 : Nat) : Int) < n := by omega
    go_wp2
    go_ret
    exact ⟨by rw [← hR.out]; rfl, hx⟩
   ·have hq : ((min n 20 : Nat) : Int) < n := by omega
    have hq2 : ¬ ((min n 20 : Nat) : Int) < 20 := by omega
    go_wp2
    go_ret
    exact ⟨by rw [← hR.out]; rfl, hx⟩
end Go.Proofs.YthkkgleoikpfgaaGreatDoor
