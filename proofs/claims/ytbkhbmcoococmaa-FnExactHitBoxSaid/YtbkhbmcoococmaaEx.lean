/-
  The words of the laws FnExact..: lists of boxes copied, held against each other, marked.
-/
import Derived.Test.YtbkhbmcoococmaaPart
import Derived.Test.YtbkhbmcoococmaaAg
import Derived.OwnWalk
import Derived.StillTailTactics
import Derived.Test.YtbkhbmcoococmaaAdd
namespace Go.Proofs.Ytbkhbmcoococmaa
open Go Go.RowKit

theorem own_of_row {w : World} {base size n : Nat} {e : TypeId} {v : Value} {xs : List Value} (h : w.ownsRow base e size v n xs) : Own w base size v xs := by
  obtain ⟨hl, h⟩ := h
  rcases h with ⟨rfl, rfl⟩ | ⟨g, cap, cur, rfl, hg, hh, hn, hc, hs, ht⟩
  · obtain rfl : xs = [] := List.eq_nil_of_length_eq_zero (by simpa using hl)
    exact Own.nil _ _ _
  · exact ⟨_, n, cap, rfl, hl, hn, hc, .inr ⟨g, 0, cur, e, rfl, hg, hh, by omega, by simpa using ht⟩⟩
theorem made_boxes (n : Nat) : (madeCells zb.agg.cells (n * 9)).toList = Bs (List.replicate n zb) := by
  apply List.ext_getElem?
  intro q
  by_cases hq : q < n * 9
  · obtain ⟨k, hk⟩ : ∃ k, k = q / 9 := ⟨_, rfl⟩
    obtain ⟨j, hj⟩ : ∃ j, j = q % 9 := ⟨_, rfl⟩
    have hqe : q = k * 9 + j := by omega
    have hj9 : j < 9 := by omega
    have hkl : k < n := by omega
    rw [show (Bs (List.replicate n zb))[q]? = zb.vals[j]? by rw [hqe]; exact Bs_get (by simp [hkl]) hj9]
    have : q % 9 = j := hj.symm
    simp only [madeCells, Array.toList_map, List.getElem?_map, Array.toList_range]
    rw [List.getElem?_range hq]
    have hz : zb.agg.cells.size = 9 := rfl
    simp only [Option.map_some, hz, this]
    have : j = 0 ∨ j = 1 ∨ j = 2 ∨ j = 3 ∨ j = 4 ∨ j = 5 ∨ j = 6 ∨ j = 7 ∨ j = 8 := by omega
    rcases this with rfl | rfl | rfl | rfl | rfl | rfl | rfl | rfl | rfl <;> rfl
  · rw [List.getElem?_eq_none (by rw [Array.length_toList, size_madeCells]; omega), List.getElem?_eq_none (by rw [Bs_length, List.length_replicate]; omega)]

set_option maxRecDepth 100000 in
set_option maxHeartbeats 1000000 in
theorem toBox_any (x : Bx) (w : World) : Calls Try.prog 59 #[x.agg] w fun e w' => e = .returned x.agg ∧ Ext w w' := by
  unfold Bx.agg
  go_enter Try.func59, Try.ntmps59
  go_wp2
  refine bodyPost_ret (v := x.agg) ?_ rfl ⟨rfl, ((Below.of_alloc w _).alloc (by simp) _).alloc (by simp; omega) _⟩
  simp [results, Try.results59, go_sem, Bx.agg]
set_option maxHeartbeats 1000000 in
theorem szBoxS_any {v : Value} {l : List Bx} (w : World) (hv : Rd w 9 v (Bs l)) : Calls Try.prog 23 #[v, .int .i64 1048576] w fun e w' => ∃ r : Int, e = .returned (.int .i64 r) ∧ (0 ≤ r ↔ l.length ≤ 1048576) ∧ w = w' := by
  obtain ⟨a, c, rfl, hn, hc, _⟩ := hv.boxes
  unfold maxLen at hc
  by_cases h : l.length ≤ 1048576
  · go_enter Try.func23, Try.ntmps23
    go_wp2
    go_ret
    exact ⟨_, rfl, by omega, rfl⟩
  · go_enter Try.func23, Try.ntmps23
    go_wp2
    go_ret
    exact ⟨_, rfl, by omega, rfl⟩
set_option maxRecDepth 100000 in
set_option maxHeartbeats 1000000 in
theorem eqBox_any (x : Bx) (w : World) : Calls Try.prog 64 #[x.agg, x.agg] w fun e w' => e = .returned (.bool true) ∧ Ext w w' := by
  unfold Bx.agg
  go_enter Try.func64, Try.ntmps64
  go_wp2
  go_ret
  exact ⟨rfl, ((Below.of_alloc w _).alloc (by simp) _)⟩
set_option maxRecDepth 100000 in
set_option maxHeartbeats 2000000 in
theorem eqBoxS_any {v u : Value} {l : List Bx} (w : World) (hv : Rd w 9 v (Bs l)) (hu : Rd w 9 u (Bs l)) (_hl : l.length ≤ 1048577) :
    Calls Try.prog 27 #[v, u] w fun e w' => e = .returned (.bool true) ∧ Ext w w' := by
  obtain ⟨a, c, rfl, hn, hc, hC⟩ := hv.boxes
  obtain ⟨a2, c2, rfl, hn2, hc2, hD⟩ := hu.boxes
  unfold maxLen at hc hc2
  have HC := Lib.hid hC
  have HD := Lib.hid hD
  clear hC hD hv hu
  go_enter Try.func27, Try.ntmps27
  go_wp2
  go_loopw [5] (fun i' wr => ∃ k : Nat, i' = .int .i64 k ∧ k ≤ l.length ∧ Below w.heap.size w wr) (fun i' _ => l.length - (intOf i').toNat)
  case atStart => exact ⟨0, rfl, Nat.zero_le _, Below.refl _ _⟩
  case round =>
    obtain ⟨k, rfl, hk, hbk⟩ := hrel
    by_cases hlt : k < l.length
    · obtain ⟨b, off, rfl, hbl, hCC⟩ := HC.out k _ (bx_get hlt)
      obtain ⟨b2, off2, rfl, hbl2, hDD⟩ := HD.out k _ (bx_get hlt)
      obtain ⟨c0, c1, c2, c3, c4, c5, c6, c7, c8⟩ := (hCC k _ (bx_get hlt)).below hbk hbl
      obtain ⟨d0, d1, d2, d3, d4, d5, d6, d7, d8⟩ := (hDD k _ (bx_get hlt)).below hbk hbl2
      clear hCC hDD
      have hlti : (k : Int) < l.length := by omega
      have hk0 : (0 : Int) ≤ (k : Int) := by omega
      have hbl1 := World.block_lt_of_cell? _ _ c0
      have hbl3 := World.block_lt_of_cell? _ _ d0
      have HCL : Hid (Cells9 wr b (off + k * 9) (bx l k)) := ⟨c0, c1, c2, c3, c4, c5, c6, c7, c8⟩
      have HCM : Hid (Cells9 wr b2 (off2 + k * 9) (bx l k)) := ⟨d0, d1, d2, d3, d4, d5, d6, d7, d8⟩
      clear c0 c1 c2 c3 c4 c5 c6 c7 c8 d0 d1 d2 d3 d4 d5 d6 d7 d8
      go_upto_region 6 with fail
      refine wp_region_held_drew (S := fun w' => Below wr.heap.size wr w') (by kernel_rfl) (Below.refl _ _).drew (fun hS => ?_)
      refine hTake (by kernel_rfl) (fun d _ _ _ _ h => by cases d <;> exact h) hS 0 (some 17) _ rfl (v := ?_) (by kernel_rfl) ?_ ?_
      rotate_left
      · intro _ _; go_simp; first | done | with_reducible rfl
      simp only [Act.put, List.setIfInBounds_toArray, List.set_cons_zero, List.set_cons_succ]
      refine hTake (by kernel_rfl) (fun d _ _ _ _ h => by cases d <;> exact h) hS 1 (some 18) _ rfl (v := ?_) (by kernel_rfl) ?_ ?_
      rotate_left
      · intro _ _; go_simp; first | done | with_reducible rfl
      simp only [Act.put, List.setIfInBounds_toArray, List.set_cons_zero, List.set_cons_succ]
      refine hTake (by kernel_rfl) (fun d _ _ _ _ h => by cases d <;> exact h) hS 2 (some 19) _ rfl (v := ?_) (by kernel_rfl) ?_ ?_
      rotate_left
      · intro _ _; go_simp; first | done | with_reducible rfl
      simp only [Act.put, List.setIfInBounds_toArray, List.set_cons_zero, List.set_cons_succ]
      refine hTake (by kernel_rfl) (fun d _ _ _ _ h => by cases d <;> exact h) hS 3 (some 20) _ rfl (v := ?_) (by kernel_rfl) ?_ ?_
      rotate_left
      · intro w9 hS9; obtain ⟨q0, q1, q2, q3, q4, q5, q6, q7, q8⟩ := HCL.out.below hS9 hbl1; go_simp; first | done | with_reducible rfl
      simp only [Act.put, List.setIfInBounds_toArray, List.set_cons_zero, List.set_cons_succ]
      refine hTake (by kernel_rfl) (fun d _ _ _ _ h => by cases d <;> exact h) hS 4 (some 21) _ rfl (v := ?_) (by kernel_rfl) ?_ ?_
      rotate_left
      · intro _ _; go_simp; first | done | with_reducible rfl
      simp only [Act.put, List.setIfInBounds_toArray, List.set_cons_zero, List.set_cons_succ]
      refine hTake (by kernel_rfl) (fun d _ _ _ _ h => by cases d <;> exact h) hS 5 (some 22) _ rfl (v := ?_) (by kernel_rfl) ?_ ?_
      rotate_left
      · intro _ _; go_simp; first | done | with_reducible rfl
      simp only [Act.put, List.setIfInBounds_toArray, List.set_cons_zero, List.set_cons_succ]
      refine hTake (by kernel_rfl) (fun d _ _ _ _ h => by cases d <;> exact h) hS 6 (some 23) _ rfl (v := ?_) (by kernel_rfl) ?_ ?_
      rotate_left
      · intro _ _; go_simp; first | done | with_reducible rfl
      simp only [Act.put, List.setIfInBounds_toArray, List.set_cons_zero, List.set_cons_succ]
      refine hTake (by kernel_rfl) (fun d _ _ _ _ h => by cases d <;> exact h) hS 7 (some 24) _ rfl (v := ?_) (by kernel_rfl) ?_ ?_
      rotate_left
      · intro w9 hS9; obtain ⟨q0, q1, q2, q3, q4, q5, q6, q7, q8⟩ := HCM.out.below hS9 hbl3; go_simp; first | done | with_reducible rfl
      simp only [Act.put, List.setIfInBounds_toArray, List.set_cons_zero, List.set_cons_succ]
      refine wpAnyH_ready (rs := [8]) (by kernel_rfl) (by simp) ?_
      refine AllReadyH.cons (o := _) rfl (fun K9 hK9 => ?_) AllReadyH.nil
      go_simp
      refine (eqBox_any (bx l k) _).mono ?_
      rintro e w2 ⟨rfl, hx⟩
      try go_wp2_with fail
      refine hK9.out _ _ (after hS hx (Nat.le_refl _)) (fun hS => ?_)
      clear hK9 K9
      try simp only [Act.put, List.setIfInBounds_toArray, List.set_cons_zero, List.set_cons_succ]
      clear hx
      refine hTake (by kernel_rfl) (fun d _ _ _ _ h => by cases d <;> exact h) hS 9 (some 26) _ rfl (v := ?_) (by kernel_rfl) ?_ ?_
      rotate_left
      · intro _ _; go_simp; first | done | with_reducible rfl
      simp only [Act.put, List.setIfInBounds_toArray, List.set_cons_zero, List.set_cons_succ]
      refine wpAnyH_done (by kernel_rfl) ?_ _
      have hb2 := after hbk hS (Nat.le_refl _)
      clear hS
      go_wp2
      go_roundw
      case rel => exact ⟨k + 1, by go_num, by omega, hb2⟩
      case measure => simp [intOf]; omega
    · obtain rfl : k = l.length := by omega
      go_wp2
      go_ret
      exact ⟨rfl, hbk⟩
/-- the first k boxes copied -/
def cpTo (l : List Bx) (k : Nat) : List Bx := l.take k ++ List.replicate (l.length - k) zb
theorem cpTo_length {l : List Bx} {k : Nat} (hk : k ≤ l.length) : (cpTo l k).length = l.length := by
  unfold cpTo
  rw [List.length_append, List.length_take, List.length_replicate]
  omega
theorem cpTo_zero (l : List Bx) : cpTo l 0 = List.replicate l.length zb := by simp [cpTo]
theorem cpTo_full (l : List Bx) : cpTo l l.length = l := by simp [cpTo]
theorem cpTo_succ {l : List Bx} {k : Nat} (hk : k < l.length) : (cpTo l k).set k (bx l k) = cpTo l (k + 1) := by
  apply List.ext_getElem?
  intro j
  unfold cpTo
  rw [List.getElem?_set, List.length_append, List.length_take, List.length_replicate]
  rcases Nat.lt_trichotomy j k with h | h | h
  · rw [if_neg (by omega), List.getElem?_append_left (by rw [List.length_take]; omega), List.getElem?_append_left (by rw [List.length_take]; omega), List.getElem?_take, List.getElem?_take, if_pos h, if_pos (by omega)]
  · subst h
    rw [if_pos rfl, if_pos (by omega), List.getElem?_append_left (by rw [List.length_take]; omega), List.getElem?_take, if_pos (by omega), bx_get hk]
  · rw [if_neg (by omega), List.getElem?_append_right (by rw [List.length_take]; omega), List.getElem?_append_right (by rw [List.length_take]; omega), List.length_take, List.length_take, List.getElem?_replicate, List.getElem?_replicate]
    split <;> split <;> first | rfl | (exfalso; omega)

set_option maxRecDepth 100000 in
set_option maxHeartbeats 2000000 in
theorem toBoxS_any {v : Value} {l : List Bx} (w : World) (hv : Rd w 9 v (Bs l)) (hl : l.length ≤ 1048577) :
    Calls Try.prog 25 #[v] w fun e w' => ∃ v', e = .returned v' ∧ Own w' w.heap.size 9 v' (Bs l) ∧ Ext w w' := by
  obtain ⟨a, c, rfl, hn, hc, hC⟩ := hv.boxes
  unfold maxLen at hc
  have HC := Lib.hid hC
  obtain ⟨i, hi, hz, hsz, hby⟩ := el_box.info
  have hu := el_box.und
  have Hi := Lib.hid hi
  have Hz := Lib.hid hz
  have Hs := Lib.hid hsz
  have Hb := Lib.hid hby
  have Hu := Lib.hid hu
  clear hC hi hz hsz hby hu hv
  go_enter Try.func25, Try.ntmps25
  go_wp2_with (refine wpList_make_full _ rfl _ _ _ rfl w.heap.size 30 i _ 9 Hu.out Hi.out Hz.out Hs.out _ _ _ _ l.length rfl rfl rfl rfl ?b2 ?b3 ?b4 ?hK)
  case b2 => rw [Hb.out]; omega
  case b3 => unfold maxLen; omega
  case b4 => exact Nat.le_refl _
  intro w1 ho hg
  have ho1 : Own w1 w.heap.size 9 (.slice (some ⟨w.heap.size, 0, none⟩) l.length l.length) (Bs (cpTo l 0)) := by
    rw [cpTo_zero, ← made_boxes]
    exact own_of_row ho
  have hb : Below w.heap.size w w1 := (Below.refl _ _).grown hg (Nat.le_refl _) (fun k hk => by cases hk)
  have HFULL := Lib.hid (cpTo_full l)
  clear ho hg
  go_wp2
  go_loopw [4] (fun i wr => ∃ k : Nat, i = .int .i64 k ∧ k ≤ l.length ∧ Own wr w.heap.size 9 (.slice (some ⟨w.heap.size, 0, none⟩) l.length l.length) (Bs (cpTo l k)) ∧ Below w.heap.size w wr) (fun i _ => l.length - (intOf i).toNat)
  case atStart => exact ⟨0, rfl, Nat.zero_le _, ho1, hb⟩
  case round =>
    clear ho1 hb
    obtain ⟨k, rfl, hk, ho, hb⟩ := hrel
    by_cases hlt : k < l.length
    · obtain ⟨b, off, rfl, hbl, hCC⟩ := HC.out k _ (bx_get hlt)
      obtain ⟨c0, c1, c2, c3, c4, c5, c6, c7, c8⟩ := (hCC k _ (bx_get hlt)).below hb hbl
      clear hCC
      have hlti : (k : Int) < l.length := by omega
      go_wp2_with (fail)
      change Calls _ _ #[(bx l k).agg] wr _
      refine (toBox_any (bx l k) wr).mono ?_
      rintro e w2 ⟨rfl, hx⟩
      replace ho := ho.below hx (Nat.le_refl _)
      replace hb := after hb hx (Nat.le_refl _)
      have hkc : k < (cpTo l k).length := by rw [cpTo_length hk]; exact hlt
      obtain ⟨hC2, hF⟩ := ho.cellF (i := k) hkc
      obtain ⟨g0, g1, g2, g3, g4, g5, g6, g7, g8⟩ := hC2
      have q0 := hF 0
      have q1 := hF 1
      have q2 := hF 2
      have q3 := hF 3
      have q4 := hF 4
      have q5 := hF 5
      have q6 := hF 6
      have q7 := hF 7
      have q8 := hF 8
      have hset := setBx_own ho rfl hkc (bx l k)
      rw [cpTo_succ hlt] at hset
      have hsb := setBx_below (B := w.heap.size) (b := w.heap.size) (o := 0 + k * 9) w2 (bx l k) (Nat.le_refl _)
      have hb2 := hb.trans hsb
      simp only [Nat.zero_add, Nat.add_zero] at g0 g1 g2 g3 g4 g5 g6 g7 g8 q0 q1 q2 q3 q4 q5 q6 q7 q8 hset hb2
      clear hF hsb hx c0 c1 c2 c3 c4 c5 c6 c7 c8 ho hb
      simp only [Bx.agg]
      go_wp2
      go_roundw
      case rel => exact ⟨k + 1, by go_num, by omega, hset, hb2⟩
      case measure => simp [intOf]; omega
    · obtain rfl : k = l.length := by omega
      rw [HFULL.out] at ho
      go_wp2
      go_ret
      exact ⟨_, rfl, ho, hb⟩
end Go.Proofs.Ytbkhbmcoococmaa
