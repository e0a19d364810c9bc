/-
  Lists of boxes: compared, marked, held, as the exact laws do (texts read back).
-/
import Derived.Test.YtdlggpphfkjidaaGreatDoorAny
import Derived.Test.YtdlggpphfkjidaaGreatDoorEdit
import Derived.OwnWalk
import Derived.StillTailTactics
namespace Go.Proofs.YtdlggpphfkjidaaGreatDoor
open Go Go.RowKit

theorem setBx_other (w : World) {b k : Nat} (o : Nat) (x : Bx) (h : k ≠ b) : (setBx w b o x).heap[k]? = w.heap[k]? := by
  unfold setBx
  rw [Below.heap_setCell _ _ _ _ h, Below.heap_setCell _ _ _ _ h, Below.heap_setCell _ _ _ _ h, Below.heap_setCell _ _ _ _ h, Below.heap_setCell _ _ _ _ h, Below.heap_setCell _ _ _ _ h, Below.heap_setCell _ _ _ _ h, Below.heap_setCell _ _ _ _ h, Below.heap_setCell _ _ _ _ h]
set_option maxRecDepth 100000 in
set_option maxHeartbeats 1000000 in
theorem eqBox_any (x : Bx) (w : World) : Calls Tryz.prog 32 #[x.agg, x.agg] w fun e w' => e = .returned (.bool true) ∧ Ext w w' := by
  unfold Bx.agg
  go_enter Tryz.func32, Tryz.ntmps32
  go_wp2
  go_ret
  exact ⟨rfl, ((Below.of_alloc w _).alloc (by simp) _)⟩
set_option maxRecDepth 100000 in
set_option maxHeartbeats 2000000 in
theorem eqBoxS_any {v u : Value} {l : List Bx} (w : World) (hv : Rd w 9 v (Bs l)) (hu : Rd w 9 u (Bs l)) (_hl : l.length ≤ 1048577) :
    Calls Tryz.prog 12 #[v, u] w fun e w' => e = .returned (.bool true) ∧ Ext w w' := by
  obtain ⟨a, c, rfl, hn, hc, hC⟩ := hv.boxes
  obtain ⟨a2, c2, rfl, hn2, hc2, hD⟩ := hu.boxes
  unfold maxLen at hc hc2
  have HC := Lib.hid hC
  have HD := Lib.hid hD
  clear hC hD hv hu
  go_enter Tryz.func12, Tryz.ntmps12
  go_wp2
  go_loopw [5] (fun i' wr => ∃ k : Nat, i' = .int .i64 k ∧ k ≤ l.length ∧ Below w.heap.size w wr) (fun i' _ => l.length - (intOf i').toNat)
  case atStart => exact ⟨0, rfl, Nat.zero_le _, Below.refl _ _⟩
  case round =>
    obtain ⟨k, rfl, hk, hbk⟩ := hrel
    by_cases hlt : k < l.length
    · obtain ⟨b, off, rfl, hbl, hCC⟩ := HC.out k _ (bx_get hlt)
      obtain ⟨b2, off2, rfl, hbl2, hDD⟩ := HD.out k _ (bx_get hlt)
      obtain ⟨c0, c1, c2, c3, c4, c5, c6, c7, c8⟩ := (hCC k _ (bx_get hlt)).below hbk hbl
      obtain ⟨d0, d1, d2, d3, d4, d5, d6, d7, d8⟩ := (hDD k _ (bx_get hlt)).below hbk hbl2
      clear hCC hDD
      have hlti : (k : Int) < l.length := by omega
      have hk0 : (0 : Int) ≤ (k : Int) := by omega
      have hbl1 := World.block_lt_of_cell? _ _ c0
      have hbl3 := World.block_lt_of_cell? _ _ d0
      have HCL : Hid (Cells9 wr b (off + k * 9) (bx l k)) := ⟨c0, c1, c2, c3, c4, c5, c6, c7, c8⟩
      have HCM : Hid (Cells9 wr b2 (off2 + k * 9) (bx l k)) := ⟨d0, d1, d2, d3, d4, d5, d6, d7, d8⟩
      clear c0 c1 c2 c3 c4 c5 c6 c7 c8 d0 d1 d2 d3 d4 d5 d6 d7 d8
      go_upto_region 6 with fail
      refine wp_region_held_drew (S := fun w' => Below wr.heap.size wr w') (by kernel_rfl) (Below.refl _ _).drew (fun hS => ?_)
      refine hTake (by kernel_rfl) (fun d _ _ _ _ h => by cases d <;> exact h) hS 0 (some 17) _ rfl (v := ?_) (by kernel_rfl) ?_ ?_
      rotate_left
      · intro _ _; go_simp; first | done | with_reducible rfl
      simp only [Act.put, List.setIfInBounds_toArray, List.set_cons_zero, List.set_cons_succ]
      refine hTake (by kernel_rfl) (fun d _ _ _ _ h => by cases d <;> exact h) hS 1 (some 18) _ rfl (v := ?_) (by kernel_rfl) ?_ ?_
      rotate_left
      · intro _ _; go_simp; first | done | with_reducible rfl
      simp only [Act.put, List.setIfInBounds_toArray, List.set_cons_zero, List.set_cons_succ]
      refine hTake (by kernel_rfl) (fun d _ _ _ _ h => by cases d <;> exact h) hS 2 (some 19) _ rfl (v := ?_) (by kernel_rfl) ?_ ?_
      rotate_left
      · intro _ _; go_simp; first | done | with_reducible rfl
      simp only [Act.put, List.setIfInBounds_toArray, List.set_cons_zero, List.set_cons_succ]
      refine hTake (by kernel_rfl) (fun d _ _ _ _ h => by cases d <;> exact h) hS 3 (some 20) _ rfl (v := ?_) (by kernel_rfl) ?_ ?_
      rotate_left
      · intro w9 hS9; obtain ⟨q0, q1, q2, q3, q4, q5, q6, q7, q8⟩ := HCL.out.below hS9 hbl1; go_simp; first | done | with_reducible rfl
      simp only [Act.put, List.setIfInBounds_toArray, List.set_cons_zero, List.set_cons_succ]
      refine hTake (by kernel_rfl) (fun d _ _ _ _ h => by cases d <;> exact h) hS 4 (some 21) _ rfl (v := ?_) (by kernel_rfl) ?_ ?_
      rotate_left
      · intro _ _; go_simp; first | done | with_reducible rfl
      simp only [Act.put, List.setIfInBounds_toArray, List.set_cons_zero, List.set_cons_succ]
      refine hTake (by kernel_rfl) (fun d _ _ _ _ h => by cases d <;> exact h) hS 5 (some 22) _ rfl (v := ?_) (by kernel_rfl) ?_ ?_
      rotate_left
      · intro _ _; go_simp; first | done | with_reducible rfl
      simp only [Act.put, List.setIfInBounds_toArray, List.set_cons_zero, List.set_cons_succ]
      refine hTake (by kernel_rfl) (fun d _ _ _ _ h => by cases d <;> exact h) hS 6 (some 23) _ rfl (v := ?_) (by kernel_rfl) ?_ ?_
      rotate_left
      · intro _ _; go_simp; first | done | with_reducible rfl
      simp only [Act.put, List.setIfInBounds_toArray, List.set_cons_zero, List.set_cons_succ]
      refine hTake (by kernel_rfl) (fun d _ _ _ _ h => by cases d <;> exact h) hS 7 (some 24) _ rfl (v := ?_) (by kernel_rfl) ?_ ?_
      rotate_left
      · intro w9 hS9; obtain ⟨q0, q1, q2, q3, q4, q5, q6, q7, q8⟩ := HCM.out.below hS9 hbl3; go_simp; first | done | with_reducible rfl
      simp only [Act.put, List.setIfInBounds_toArray, List.set_cons_zero, List.set_cons_succ]
      refine wpAnyH_ready (rs := [8]) (by kernel_rfl) (by simp) ?_
      refine AllReadyH.cons (o := _) rfl (fun K9 hK9 => ?_) AllReadyH.nil
      go_simp
      refine (eqBox_any (bx l k) _).mono ?_
      rintro e w2 ⟨rfl, hx⟩
      try go_wp2_with fail
      refine hK9.out _ _ (after hS hx (Nat.le_refl _)) (fun hS => ?_)
      clear hK9 K9
      try simp only [Act.put, List.setIfInBounds_toArray, List.set_cons_zero, List.set_cons_succ]
      clear hx
      refine hTake (by kernel_rfl) (fun d _ _ _ _ h => by cases d <;> exact h) hS 9 (some 26) _ rfl (v := ?_) (by kernel_rfl) ?_ ?_
      rotate_left
      · intro _ _; go_simp; first | done | with_reducible rfl
      simp only [Act.put, List.setIfInBounds_toArray, List.set_cons_zero, List.set_cons_succ]
      refine wpAnyH_done (by kernel_rfl) ?_ _
      have hb2 := after hbk hS (Nat.le_refl _)
      clear hS
      go_wp2
      go_roundw
      case rel => exact ⟨k + 1, by go_num, by omega, hb2⟩
      case measure => simp [intOf]; omega
    · obtain rfl : k = l.length := by omega
      go_wp2
      go_ret
      exact ⟨rfl, hbk⟩
/-- the marks of one box -/
def mkBx (k : Int) : Bx := ⟨k, k + 1, k + 1 + 1, k + 1 + 1 + 1, k + 1 + 1 + 1 + 1, k + 1 + 1 + 1 + 1 + 1, k + 1 + 1 + 1 + 1 + 1 + 1, k + 1 + 1 + 1 + 1 + 1 + 1 + 1, k + 1 + 1 + 1 + 1 + 1 + 1 + 1 + 1⟩
/-- the first j boxes marked -/
def mkTo (l : List Bx) (k0 : Nat) (j : Nat) : List Bx := (List.range l.length).map fun i => if i < j then mkBx ((k0 : Int) + 9 * (i : Int)) else bx l i
theorem mkTo_length (l : List Bx) (k0 j : Nat) : (mkTo l k0 j).length = l.length := by simp [mkTo]
theorem mkTo_get {l : List Bx} {k0 j i : Nat} (hi : i < l.length) : (mkTo l k0 j)[i]? = some (if i < j then mkBx ((k0 : Int) + 9 * (i : Int)) else bx l i) := by simp [mkTo, hi]
theorem mkTo_zero (l : List Bx) (k0 : Nat) : mkTo l k0 0 = l := by
  apply List.ext_getElem?
  intro i
  by_cases hi : i < l.length
  · rw [mkTo_get hi, bx_get hi]
    simp
  · rw [List.getElem?_eq_none (by rw [mkTo_length]; omega), List.getElem?_eq_none (by omega)]
theorem mkTo_succ {l : List Bx} {k0 j : Nat} (hj : j < l.length) : (mkTo l k0 j).set j (mkBx ((k0 : Int) + 9 * (j : Int))) = mkTo l k0 (j + 1) := by
  apply List.ext_getElem?
  intro i
  by_cases hi : i < l.length
  · rw [List.getElem?_set, mkTo_get hi, mkTo_get hi, mkTo_length]
    by_cases h : j = i
    · subst h
      rw [if_pos rfl, if_pos hj, if_pos (by omega)]
    · rw [if_neg h]
      by_cases h2 : i < j
      · rw [if_pos h2, if_pos (by omega)]
      · rw [if_neg h2, if_neg (by omega)]
  · rw [List.getElem?_eq_none (by rw [List.length_set, mkTo_length]; omega), List.getElem?_eq_none (by rw [mkTo_length]; omega)]
set_option maxRecDepth 100000 in
set_option maxHeartbeats 4000000 in
theorem markBoxS_any {base : Nat} {v : Value} {l : List Bx} (k0 : Nat) (w : World) (hv : Own w base 9 v (Bs l)) (hl : l.length ≤ 1048577) (hk0 : k0 ≤ 1) :
    Calls Tryz.prog 13 #[v, .int .i64 k0] w fun e w' => e = .returned (.int .i64 (k0 + 9 * l.length : Nat)) ∧ Own w' base 9 v (Bs (mkTo l k0 l.length)) ∧ Below base w w' ∧ ∀ q, blk v ≠ some q → w'.heap[q]? = w.heap[q]? := by
  have ho := hv
  obtain ⟨a, c, rfl, hn, hc, _⟩ := hv.rd.boxes
  unfold maxLen at hc
  have HZ := Lib.hid (mkTo_zero l k0)
  clear hv
  go_enter Tryz.func13, Tryz.ntmps13
  go_wp2
  go_loopw [1, 5] (fun s i wr => ∃ j : Nat, i = .int .i64 j ∧ j ≤ l.length ∧ s = .int .i64 (k0 + 9 * j : Nat) ∧ Own wr base 9 (.slice a l.length c) (Bs (mkTo l k0 j)) ∧ Below base w wr ∧ ∀ q, blk (.slice a l.length c) ≠ some q → wr.heap[q]? = w.heap[q]?) (fun _ i _ => l.length - (intOf i).toNat)
  case atStart => exact ⟨0, rfl, Nat.zero_le _, rfl, by rw [HZ.out]; exact ho, Below.refl _ _, fun _ _ => rfl⟩
  case round =>
    clear ho
    obtain ⟨j, rfl, hj, rfl, ho, hb, hfr⟩ := hrel
    by_cases hlt : j < l.length
    · have hjm : j < (mkTo l k0 j).length := by rw [mkTo_length]; exact hlt
      obtain ⟨b3, off3, n3, c3, e3, hn3, hbk3, hbb3, hbs3, _, _, _⟩ := ho.cells (by
        intro e
        have := congrArg List.length e
        rw [Bs_length, List.length_nil] at this
        omega)
      cases e3
      obtain ⟨hC, hF⟩ := ho.cellF (i := j) hjm
      obtain ⟨g0, g1, g2, g3, g4, g5, g6, g7, g8⟩ := hC
      have q0 := hF 0
      have q1 := hF 1
      have q2 := hF 2
      have q3 := hF 3
      have q4 := hF 4
      have q5 := hF 5
      have q6 := hF 6
      have q7 := hF 7
      have q8 := hF 8
      simp only [Nat.add_zero] at q0
      have hset := setBx_own ho rfl hjm (mkBx ((k0 : Int) + 9 * (j : Int)))
      rw [mkTo_succ hlt] at hset
      have hlti : (j : Int) < l.length := by omega
      have hsb := setBx_below (B := base) (b := b3) (o := off3 + j * 9) wr (mkBx ((k0 : Int) + 9 * (j : Int))) hbb3
      have hb2 := hb.trans hsb
      have hfr2 : Hid (∀ q, blk (.slice (some ⟨b3, off3, none⟩) l.length c) ≠ some q → (setBx wr b3 (off3 + j * 9) (mkBx ((k0 : Int) + 9 * (j : Int)))).heap[q]? = w.heap[q]?) := fun q hq => by
        rw [setBx_other _ _ _ (by rintro rfl; exact hq hbk3)]
        exact hfr q hq
      clear hF hsb hfr
      go_wp2
      go_roundw
      case rel => exact ⟨j + 1, by go_num, by omega, by go_num, hset, hb2, hfr2.out⟩
      case measure => simp [intOf]; omega
    · obtain rfl : j = l.length := by omega
      go_wp2
      go_ret
      exact ⟨rfl, ho, hb, hfr⟩
set_option maxRecDepth 100000 in
set_option maxHeartbeats 4000000 in
theorem heldBoxS_any {v : Value} {l : List Bx} (k0 : Nat) (w : World) (hv : Rd w 9 v (Bs (mkTo l k0 l.length))) (hl : l.length ≤ 1048577) (hk0 : k0 ≤ 1) :
    Calls Tryz.prog 14 #[v, .int .i64 k0] w fun e w' => e = .returned (.int .i64 (k0 + 9 * l.length : Nat)) ∧ w = w' := by
  obtain ⟨a, c, rfl, hn, hc, hC⟩ := hv.boxes
  unfold maxLen at hc
  have HC := Lib.hid hC
  have HML := Lib.hid (mkTo_length l k0 l.length)
  have hml1 : (mkTo l k0 l.length).length ≤ l.length := Nat.le_of_eq HML.out
  have hml2 : l.length ≤ (mkTo l k0 l.length).length := Nat.le_of_eq HML.out.symm
  clear hC hv
  go_enter Tryz.func14, Tryz.ntmps14
  go_wp2
  go_loop [1, 5] (fun s i => ∃ j : Nat, i = .int .i64 j ∧ j ≤ l.length ∧ s = .int .i64 (k0 + 9 * j : Nat)) (fun _ i => l.length - (intOf i).toNat)
  case atStart => exact ⟨0, rfl, Nat.zero_le _, rfl⟩
  case round =>
    obtain ⟨j, rfl, hj, rfl⟩ := hrel
    by_cases hlt : j < l.length
    · have hg := mkTo_get (l := l) (k0 := k0) (j := l.length) hlt
      rw [if_pos hlt] at hg
      obtain ⟨b, off, rfl, hbl, hCC⟩ := HC.out j _ hg
      obtain ⟨c0, c1, c2, c3, c4, c5, c6, c7, c8⟩ := hCC j _ hg
      simp only [mkBx] at c0 c1 c2 c3 c4 c5 c6 c7 c8
      have hlti : (j : Int) < (mkTo l k0 l.length).length := by omega
      clear hCC hg
      go_wp2
      go_round
      case rel => exact ⟨j + 1, by go_num, by omega, by go_num⟩
      case measure => simp [intOf]; omega
    · obtain rfl : j = l.length := by omega
      go_wp2
      go_ret
      exact ⟨rfl, rfl⟩
end Go.Proofs.YtdlggpphfkjidaaGreatDoor
