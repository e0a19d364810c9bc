/-
  The law FnExactAddBox: the walk.
-/
import Derived.Test.YtckggmbmlpikhaaLEx
import Derived.Test.YtckggmbmlpikhaaLAdd
namespace Go.Proofs.Ytckggmbmlpikhaa
open Go Go.RowKit

def aB (x : Bx) (l : List Bx) (i : Int) : Bool := addOk l i x
def aP (x : Bx) (l : List Bx) (i : Int) : List Bx := orNo (addOk l i x) (addL l i.toNat x)
theorem aP_le (x : Bx) (l : List Bx) (i : Int) : (aP x l i).length ≤ l.length + 1 := by
  unfold aP
  by_cases h : addOk l i x = true
  · rw [h, orNo_t]
    have hB := (addOk_in h).1
    obtain ⟨_, h0, hi⟩ := inB_iff.1 hB
    rw [addL_length (by omega)]
    exact Nat.le_refl _
  · have h' : addOk l i x = false := by simpa using h
    rw [h', orNo_f]
    exact Nat.zero_le _
theorem addE {v : Value} {l : List Bx} (i : Int) (x : Bx) (w : World) (hv : Rd w 9 v (Bs l)) :
    Calls Try.prog 21 #[v, .int .i64 i, x.agg] w fun e w' => ∃ v', e = .returned (.tuple #[v', .bool (aB x l i)]) ∧ Own w' w.heap.size 9 v' (Bs (aP x l i)) ∧ Ext w w' := AddBox_any i x w hv
theorem saddE {v : Value} {l : List Bx} (i : Int) (x : Bx) (w : World) (hv : Rd w 9 v (Bs l)) (hl : l.length ≤ 1048576) :
    Calls Try.prog 22 #[v, .int .i64 i, x.agg] w fun e w' => ∃ v', e = .returned (.tuple #[v', .bool (aB x l i)]) ∧ Own w' w.heap.size 9 v' (Bs (aP x l i)) ∧ Ext w w' := sAddBox_any i x w hv hl
set_option maxRecDepth 100000 in
set_option maxHeartbeats 4000000 in
theorem FnExactAddBox_any {v : Value} {l : List Bx} (i : Int) (x : Bx) (w : World) (hv : Rd w 9 v (Bs l)) :
    Calls Try.prog 10 #[v, .int .i64 i, x.agg] w fun e w' => e = .returned (.bool true) ∧ Ext w w' := by
  have hPl := aP_le x l i
  have hv0 := hv
  obtain ⟨ad, c, rfl, hn, hc, _⟩ := hv.boxes
  unfold maxLen at hc
  have hb0 := Below.of_alloc w (.cells x.arr 50)
  have hK0 := Keep.new w (.cells x.arr 50)
  replace hv0 := hv0.alloc (.cells x.arr 50)
  unfold Bx.agg
  have hvv := hv
  clear hv
  by_cases hlen : l.length ≤ 1048576
  · have hv0b : Hid (∀ w', Below w.heap.size w w' → Rd w' 9 (.slice ad l.length c) (Bs l)) := fun w' hw' => hvv.below hw' (Nat.le_refl _)
    have hPL : (aP x l i).length ≤ 1048577 := by omega
    have hL7 : l.length ≤ 1048577 := by omega
    go_enter Try.func10, Try.ntmps10
    go_wp2_with (fail)
    change Calls _ _ _ (w.alloc (.cells x.arr 50)) _
    generalize w.alloc (.cells x.arr 50) = W0 at *
    refine (szBoxS_any (l := l) _ hv0).mono ?_
    rintro e w0 ⟨r, rfl, hr, rfl⟩
    have hr0 : 0 ≤ r := by omega
    clear hr
    go_upto_region 5 with fail
    refine wp_region_held_drew (S := S2 W0 w.heap.size (.cells x.arr 50) W0) (by kernel_rfl) ⟨(Below.refl _ _).drew, Nat.le_refl _, hK0⟩ (fun hS => ?_)
    refine hTake (by kernel_rfl) (fun d _ _ _ _ h => by cases d <;> exact h) hS 0 (some 24) _ rfl (v := ?_) (by kernel_rfl) ?_ ?_
    rotate_left
    · intro _ _; go_simp; first | done | with_reducible rfl
    simp only [Act.put, List.setIfInBounds_toArray, List.set_cons_zero, List.set_cons_succ]
    refine hTake (by kernel_rfl) (fun d _ _ _ _ h => by cases d <;> exact h) hS 2 (some 26) _ rfl (v := ?_) (by kernel_rfl) ?_ ?_
    rotate_left
    · intro _ _; go_simp; first | done | with_reducible rfl
    simp only [Act.put, List.setIfInBounds_toArray, List.set_cons_zero, List.set_cons_succ]
    refine hTake (by kernel_rfl) (fun d _ _ _ _ h => by cases d <;> exact h) hS 3 (some 27) _ rfl (v := ?_) (by kernel_rfl) ?_ ?_
    rotate_left
    · intro w9 hS9; obtain ⟨d0, d1, d2, d3, d4, d5, d6, d7, d8⟩ := Keep.c9 (x := x) hS9.2.2; go_simp; first | done | with_reducible rfl
    simp only [Act.put, List.setIfInBounds_toArray, List.set_cons_zero, List.set_cons_succ]
    refine wpAnyH_ready (rs := [1]) (by kernel_rfl) (by simp) ?_
    refine AllReadyH.cons (o := _) rfl (fun K9 hK9 => ?_) AllReadyH.nil
    go_simp
    refine (toBoxS_any (l := l) _ (hv0.below hS.1 (Nat.le_refl _)) hL7).mono ?_
    rintro e w1 ⟨v1, rfl, ho1, hx⟩
    have hr1 := ho1.rd
    clear ho1
    try go_wp2_with fail
    refine hK9.out _ _ (hS.ext hx) (fun hS => ?_)
    clear hK9 K9
    try simp only [Act.put, List.setIfInBounds_toArray, List.set_cons_zero, List.set_cons_succ]
    clear hx
    refine wpAnyH_ready (rs := [4]) (by kernel_rfl) (by simp) ?_
    refine AllReadyH.cons (o := _) rfl (fun K9 hK9 => ?_) AllReadyH.nil
    go_simp
    change Calls _ _ #[x.agg] w1 _
    refine (toBox_any x w1).mono ?_
    rintro e w1b ⟨rfl, hx⟩
    replace hr1 := hr1.below hx (Nat.le_refl _)
    try go_wp2_with fail
    refine hK9.out _ _ (hS.ext hx) (fun hS => ?_)
    clear hK9 K9
    try simp only [Act.put, List.setIfInBounds_toArray, List.set_cons_zero, List.set_cons_succ]
    clear hx
    refine wpAnyH_ready (rs := [5]) (by kernel_rfl) (by simp) ?_
    refine AllReadyH.cons (o := _) rfl (fun K9 hK9 => ?_) AllReadyH.nil
    go_simp
    refine (saddE (l := l) i x _ hr1 hlen).mono ?_
    rintro e w2 ⟨vW, rfl, hoW, hx⟩
    have hrW := hoW.rd
    try go_wp2_with fail
    refine hK9.out _ _ (hS.ext hx) (fun hS => ?_)
    clear hK9 K9
    try simp only [Act.put, List.setIfInBounds_toArray, List.set_cons_zero, List.set_cons_succ]
    clear hx hr1 hoW
    refine hTake (by kernel_rfl) (fun d _ _ _ _ h => by cases d <;> exact h) hS 6 (some 23) _ rfl (v := ?_) (by kernel_rfl) ?_ ?_
    rotate_left
    · intro _ _; go_simp; first | done | with_reducible rfl
    simp only [Act.put, List.setIfInBounds_toArray, List.set_cons_zero, List.set_cons_succ]
    refine hTake (by kernel_rfl) (fun d _ _ _ _ h => by cases d <;> exact h) hS 7 (some 30) _ rfl (v := ?_) (by kernel_rfl) ?_ ?_
    rotate_left
    · intro _ _; go_simp; first | done | with_reducible rfl
    simp only [Act.put, List.setIfInBounds_toArray, List.set_cons_zero, List.set_cons_succ]
    refine hTake (by kernel_rfl) (fun d _ _ _ _ h => by cases d <;> exact h) hS 8 (some 31) _ rfl (v := ?_) (by kernel_rfl) ?_ ?_
    rotate_left
    · intro _ _; go_simp; first | done | with_reducible rfl
    simp only [Act.put, List.setIfInBounds_toArray, List.set_cons_zero, List.set_cons_succ]
    refine wpAnyH_ready (rs := [9]) (by kernel_rfl) (by simp) ?_
    refine AllReadyH.cons (o := _) rfl (fun K9 hK9 => ?_) AllReadyH.nil
    go_simp
    refine hK9.out _ _ hS (fun hS => ?_)
    clear hK9 K9
    try simp only [Act.put, List.setIfInBounds_toArray, List.set_cons_zero, List.set_cons_succ]
    refine wpAnyH_ready (rs := [10]) (by kernel_rfl) (by simp) ?_
    refine AllReadyH.cons (o := _) rfl (fun K9 hK9 => ?_) AllReadyH.nil
    go_simp
    refine hK9.out _ _ hS (fun hS => ?_)
    clear hK9 K9
    try simp only [Act.put, List.setIfInBounds_toArray, List.set_cons_zero, List.set_cons_succ]
    refine wpAnyH_done (by kernel_rfl) ?_ _
    have hb := after hb0 hS.1 (Nat.le_refl _)
    have hKlt := hS.2.2.lt
    have HKB : Hid (∀ w', Below w2.heap.size w2 w' → Keep w.heap.size (.cells x.arr 50) w') := fun w' hw' => by
      unfold Keep
      rw [hw'.block _ hKlt]
      exact hS.2.2
    replace hv0 := hv0.below hS.1 (Nat.le_refl _)
    clear hS hb0 hK0
    have hs2 := hb.size
    go_wp2_with (fail)
    refine (toBoxS_any (l := l) _ hv0 hL7).mono ?_
    rintro e w3 ⟨v3, rfl, hoX, hb3⟩
    replace hv0 := hv0.below hb3 (Nat.le_refl _)
    obtain ⟨d0, d1, d2, d3, d4, d5, d6, d7, d8⟩ := Keep.c9 (x := x) (HKB.out _ hb3)
    go_wp2_with (fail)
    change Calls _ _ #[x.agg] w3 _
    clear d0 d1 d2 d3 d4 d5 d6 d7 d8
    refine (toBox_any x w3).mono ?_
    rintro e w3b ⟨rfl, hx⟩
    replace hb3 := after hb3 hx (Nat.le_refl _)
    replace hv0 := hv0.below hx (Nat.le_refl _)
    replace hoX := hoX.below hx (Nat.le_refl _)
    have hs3 := hb3.size
    have hXlt := hoX.lt
    clear hx
    go_wp2_with (fail)
    refine (addE (l := l) i x _ hoX.rd).mono ?_
    rintro e w4 ⟨v4, rfl, hoG, hx⟩
    have hGlt := hoG.lt
    replace hb3 := after hb3 hx (Nat.le_refl _)
    replace hv0 := hv0.below hx (Nat.le_refl _)
    replace hoX := hoX.below hx (Nat.le_refl _)
    clear hx
    go_wp2_with (fail)
    refine (eqBoxS_any (l := aP x l i) _ hoG.rd (hrW.below hb3 (Nat.le_refl _)) hPL).mono ?_
    rintro e w5 ⟨rfl, hx⟩
    replace hb3 := after hb3 hx (Nat.le_refl _)
    replace hv0 := hv0.below hx (Nat.le_refl _)
    replace hoX := hoX.below hx (Nat.le_refl _)
    replace hoG := hoG.below hx (Nat.le_refl _)
    clear hx
    go_wp2_with (fail)
    refine (toBoxS_any (l := l) _ hv0 hL7).mono ?_
    rintro e w6 ⟨v6, rfl, ho6, hx⟩
    replace hb3 := after hb3 hx (Nat.le_refl _)
    replace hv0 := hv0.below hx (Nat.le_refl _)
    replace hoX := hoX.below hx (Nat.le_refl _)
    replace hoG := hoG.below hx (Nat.le_refl _)
    have hr6 := ho6.rd
    clear hx ho6
    go_wp2_with (fail)
    refine (eqBoxS_any (l := l) _ hoX.rd hr6 hL7).mono ?_
    rintro e w7 ⟨rfl, hx⟩
    replace hb3 := after hb3 hx (Nat.le_refl _)
    replace hv0 := hv0.below hx (Nat.le_refl _)
    replace hoX := hoX.below hx (Nat.le_refl _)
    replace hoG := hoG.below hx (Nat.le_refl _)
    clear hx hr6
    -- x0 marked
    go_wp2_with (fail)
    refine (markBoxS_any (l := l) 1 _ hoX hL7 (Nat.le_refl _)).mono ?_
    rintro e w8 ⟨rfl, hoX2, hb8, hfr⟩
    replace hoG := hoG.frame hfr (fun q hq hq2 => by
      have h1 := (hXlt q hq2).2
      have h2 := (hGlt q hq).1
      omega)
    have HXB : Hid (Below w.heap.size w7 w8) := hb8.mono hs2
    replace hb3 := hb3.trans hb8
    replace hv0 := hv0b.out _ (hb.trans (hb3.mono hs2))
    clear hb8 hfr hoX hoX2 HXB
    have hkm : ((1 + 9 * l.length : Nat) : Int) ≥ 0 := by omega
    go_wp2_with (fail)
    refine (eqBoxS_any (l := aP x l i) _ hoG.rd (hrW.below hb3 (Nat.le_refl _)) hPL).mono ?_
    rintro e w9 ⟨rfl, hx⟩
    replace hb3 := after hb3 hx (Nat.le_refl _)
    replace hoG := hoG.below hx (Nat.le_refl _)
    clear hx
    -- g0 marked
    go_wp2_with (fail)
    refine (markBoxS_any (l := aP x l i) 1 _ hoG hPL (Nat.le_refl _)).mono ?_
    rintro e w10 ⟨rfl, hoG2, hb10, _⟩
    replace hb3 := hb3.trans (hb10.mono hs3)
    replace hv0 := hv0b.out _ (hb.trans (hb3.mono hs2))
    clear hb10 hoG
    go_wp2_with (fail)
    refine (heldBoxS_any (l := aP x l i) 1 _ hoG2.rd hPL (Nat.le_refl _)).mono ?_
    rintro e w11 ⟨rfl, rfl⟩
    have hkp : ((1 + 9 * (aP x l i).length : Nat) : Int) ≥ 0 := by omega
    have hK11 := HKB.out _ hb3
    go_upto_region 24 with fail
    refine wp_region_held_drew (S := S2 w10 w.heap.size (.cells x.arr 50) w10) (by kernel_rfl) ⟨(Below.refl _ _).drew, Nat.le_refl _, hK11⟩ (fun hS => ?_)
    refine hTake (by kernel_rfl) (fun d _ _ _ _ h => by cases d <;> exact h) hS 0 (some 84) _ rfl (v := ?_) (by kernel_rfl) ?_ ?_
    rotate_left
    · intro _ _; go_simp; first | done | with_reducible rfl
    simp only [Act.put, List.setIfInBounds_toArray, List.set_cons_zero, List.set_cons_succ]
    refine hTake (by kernel_rfl) (fun d _ _ _ _ h => by cases d <;> exact h) hS 2 (some 86) _ rfl (v := ?_) (by kernel_rfl) ?_ ?_
    rotate_left
    · intro _ _; go_simp; first | done | with_reducible rfl
    simp only [Act.put, List.setIfInBounds_toArray, List.set_cons_zero, List.set_cons_succ]
    refine hTake (by kernel_rfl) (fun d _ _ _ _ h => by cases d <;> exact h) hS 3 (some 87) _ rfl (v := ?_) (by kernel_rfl) ?_ ?_
    rotate_left
    · intro w9 hS9; obtain ⟨d0, d1, d2, d3, d4, d5, d6, d7, d8⟩ := Keep.c9 (x := x) hS9.2.2; go_simp; first | done | with_reducible rfl
    simp only [Act.put, List.setIfInBounds_toArray, List.set_cons_zero, List.set_cons_succ]
    refine wpAnyH_ready (rs := [1]) (by kernel_rfl) (by simp) ?_
    refine AllReadyH.cons (o := _) rfl (fun K9 hK9 => ?_) AllReadyH.nil
    go_simp
    refine (toBoxS_any (l := l) _ (hv0.below hS.1 (Nat.le_refl _)) hL7).mono ?_
    rintro e w12 ⟨v12, rfl, ho12, hx⟩
    have hr12 := ho12.rd
    clear ho12
    try go_wp2_with fail
    refine hK9.out _ _ (hS.ext hx) (fun hS => ?_)
    clear hK9 K9
    try simp only [Act.put, List.setIfInBounds_toArray, List.set_cons_zero, List.set_cons_succ]
    clear hx
    refine wpAnyH_ready (rs := [4]) (by kernel_rfl) (by simp) ?_
    refine AllReadyH.cons (o := _) rfl (fun K9 hK9 => ?_) AllReadyH.nil
    go_simp
    change Calls _ _ #[x.agg] w12 _
    refine (toBox_any x w12).mono ?_
    rintro e w12b ⟨rfl, hx⟩
    replace hr12 := hr12.below hx (Nat.le_refl _)
    try go_wp2_with fail
    refine hK9.out _ _ (hS.ext hx) (fun hS => ?_)
    clear hK9 K9
    try simp only [Act.put, List.setIfInBounds_toArray, List.set_cons_zero, List.set_cons_succ]
    clear hx
    refine wpAnyH_ready (rs := [5]) (by kernel_rfl) (by simp) ?_
    refine AllReadyH.cons (o := _) rfl (fun K9 hK9 => ?_) AllReadyH.nil
    go_simp
    refine (addE (l := l) i x _ hr12).mono ?_
    rintro e w13 ⟨v13, rfl, ho13, hx⟩
    have hr13 := ho13.rd
    try go_wp2_with fail
    refine hK9.out _ _ (hS.ext hx) (fun hS => ?_)
    clear hK9 K9
    try simp only [Act.put, List.setIfInBounds_toArray, List.set_cons_zero, List.set_cons_succ]
    clear hx ho13 hr12
    refine hTake (by kernel_rfl) (fun d _ _ _ _ h => by cases d <;> exact h) hS 6 (some 83) _ rfl (v := ?_) (by kernel_rfl) ?_ ?_
    rotate_left
    · intro _ _; go_simp; first | done | with_reducible rfl
    simp only [Act.put, List.setIfInBounds_toArray, List.set_cons_zero, List.set_cons_succ]
    refine hTake (by kernel_rfl) (fun d _ _ _ _ h => by cases d <;> exact h) hS 7 (some 90) _ rfl (v := ?_) (by kernel_rfl) ?_ ?_
    rotate_left
    · intro _ _; go_simp; first | done | with_reducible rfl
    simp only [Act.put, List.setIfInBounds_toArray, List.set_cons_zero, List.set_cons_succ]
    refine hTake (by kernel_rfl) (fun d _ _ _ _ h => by cases d <;> exact h) hS 8 (some 91) _ rfl (v := ?_) (by kernel_rfl) ?_ ?_
    rotate_left
    · intro _ _; go_simp; first | done | with_reducible rfl
    simp only [Act.put, List.setIfInBounds_toArray, List.set_cons_zero, List.set_cons_succ]
    refine wpAnyH_ready (rs := [9]) (by kernel_rfl) (by simp) ?_
    refine AllReadyH.cons (o := _) rfl (fun K9 hK9 => ?_) AllReadyH.nil
    go_simp
    refine hK9.out _ _ hS (fun hS => ?_)
    clear hK9 K9
    try simp only [Act.put, List.setIfInBounds_toArray, List.set_cons_zero, List.set_cons_succ]
    refine wpAnyH_ready (rs := [10]) (by kernel_rfl) (by simp) ?_
    refine AllReadyH.cons (o := _) rfl (fun K9 hK9 => ?_) AllReadyH.nil
    go_simp
    refine hK9.out _ _ hS (fun hS => ?_)
    clear hK9 K9
    try simp only [Act.put, List.setIfInBounds_toArray, List.set_cons_zero, List.set_cons_succ]
    refine wpAnyH_done (by kernel_rfl) ?_ _
    replace hb3 := after hb3 hS.1 (Nat.le_refl _)
    replace hoG2 := hoG2.below hS.1 (Nat.le_refl _)
    clear hS hK11
    go_wp2_with (fail)
    refine (eqBoxS_any (l := aP x l i) _ hr13 (hrW.below hb3 (Nat.le_refl _)) hPL).mono ?_
    rintro e w14 ⟨rfl, hx⟩
    replace hb3 := after hb3 hx (Nat.le_refl _)
    replace hoG2 := hoG2.below hx (Nat.le_refl _)
    clear hx hr13
    go_wp2_with (fail)
    refine (heldBoxS_any (l := aP x l i) 1 _ hoG2.rd hPL (Nat.le_refl _)).mono ?_
    rintro e w15 ⟨rfl, rfl⟩
    have hbF := hb.trans (hb3.mono hs2)
    go_wp2
    go_ret
    exact ⟨rfl, hbF⟩
  · go_enter Try.func10, Try.ntmps10
    go_wp2_with (fail)
    change Calls _ _ _ (w.alloc (.cells x.arr 50)) _
    generalize w.alloc (.cells x.arr 50) = W0 at *
    refine (szBoxS_any (l := l) _ hv0).mono ?_
    rintro e w1 ⟨r, rfl, hr, rfl⟩
    have hr0 : r < 0 := by omega
    clear hr
    go_wp2
    go_ret
    exact ⟨rfl, hb0⟩
end Go.Proofs.Ytckggmbmlpikhaa
