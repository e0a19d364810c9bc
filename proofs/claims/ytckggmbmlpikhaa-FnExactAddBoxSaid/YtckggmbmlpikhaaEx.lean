/-
  The words of the laws FnExact..: lists of boxes copied, held against each other, marked.
-/
import Derived.Test.YtckggmbmlpikhaaPart
import Derived.Test.YtckggmbmlpikhaaDraw
import Derived.OwnWalk
import Derived.StillTailTactics
import Derived.Test.YtckggmbmlpikhaaAdd
namespace Go.Proofs.Ytckggmbmlpikhaa
open Go Go.RowKit

theorem own_of_row {w : World} {base size n : Nat} {e : TypeId} {v : Value} {xs : List Value} (h : w.ownsRow base e size v n xs) : Own w base size v xs := by
  obtain ⟨hl, h⟩ := h
  rcases h with ⟨rfl, rfl⟩ | ⟨g, cap, cur, rfl, hg, hh, hn, hc, hs, ht⟩
  · obtain rfl : xs = [] := List.eq_nil_of_length_eq_zero (by simpa using hl)
    exact Own.nil _ _ _
  · exact ⟨_, n, cap, rfl, hl, hn, hc, .inr ⟨g, 0, cur, e, rfl, hg, hh, by omega, by simpa using ht⟩⟩
theorem made_boxes (n : Nat) : (madeCells zb.agg.cells (n * 9)).toList = Bs (List.replicate n zb) := by
  apply List.ext_getElem?
  intro q
  by_cases hq : q < n * 9
  · obtain ⟨k, hk⟩ : ∃ k, k = q / 9 := ⟨_, rfl⟩
    obtain ⟨j, hj⟩ : ∃ j, j = q % 9 := ⟨_, rfl⟩
    have hqe : q = k * 9 + j := by omega
    have hj9 : j < 9 := by omega
    have hkl : k < n := by omega
    rw [show (Bs (List.replicate n zb))[q]? = zb.vals[j]? by rw [hqe]; exact Bs_get (by simp [hkl]) hj9]
    have : q % 9 = j := hj.symm
    simp only [madeCells, Array.toList_map, List.getElem?_map, Array.toList_range]
    rw [List.getElem?_range hq]
    have hz : zb.agg.cells.size = 9 := rfl
    simp only [Option.map_some, hz, this]
    have : j = 0 ∨ j = 1 ∨ j = 2 ∨ j = 3 ∨ j = 4 ∨ j = 5 ∨ j = 6 ∨ j = 7 ∨ j = 8 := by omega
    rcases this with rfl | rfl | rfl | rfl | rfl | rfl | rfl | rfl | rfl <;> rfl
  · rw [List.getElem?_eq_none (by rw [Array.length_toList, size_madeCells]; omega), List.getElem?_eq_none (by rw [Bs_length, List.length_replicate]; omega)]

set_option maxRecDepth 100000 in
set_option maxHeartbeats 1000000 in
theorem toBox_any (x : Bx) (w : World) : Calls Try.prog 40 #[x.agg] w fun e w' => e = .returned x.agg ∧ Ext w w' := by
  unfold Bx.agg
  go_enter Try.func40, Try.ntmps40
  go_wp2
  refine bodyPost_ret (v := x.agg) ?_ rfl ⟨rfl, ((Below.of_alloc w _).alloc (by simp) _).alloc (by simp; omega) _⟩
  simp [results, Try.results40, go_sem, Bx.agg]
set_option maxHeartbeats 1000000 in
theorem szBoxS_any {v : Value} {l : List Bx} (w : World) (hv : Rd w 9 v (Bs l)) : Calls Try.prog 13 #[v, .int .i64 1048576] w fun e w' => ∃ r : Int, e = .returned (.int .i64 r) ∧ (0 ≤ r ↔ l.length ≤ 1048576) ∧ w = w' := by
  obtain ⟨a, c, rfl, hn, hc, _⟩ := hv.boxes
  unfold maxLen at hc
  by_cases h : l.length ≤ 1048576
  · go_enter Try.func13, Try.ntmps13
    go_wp2
    go_ret
    exact ⟨_, rfl, by omega, rfl⟩
  · go_enter Try.func13, Try.ntmps13
    go_wp2
    go_ret
    exact ⟨_, rfl, by omega, rfl⟩
set_option maxRecDepth 100000 in
set_option maxHeartbeats 1000000 in
theorem eqBox_any (x : Bx) (w : World) : Calls Try.prog 51 #[x.agg, x.agg] w fun e w' => e = .returned (.bool true) ∧ Ext w w' := by
  unfold Bx.agg
  go_enter Try.func51, Try.ntmps51
  go_wp2
  go_ret
  exact ⟨rfl, ((Below.of_alloc w _).alloc (by simp) _)⟩
set_option maxRecDepth 100000 in
set_option maxHeartbeats 2000000 in
theorem eqBoxS_any {v u : Value} {l : List Bx} (w : World) (hv : Rd w 9 v (Bs l)) (hu : Rd w 9 u (Bs l)) (_hl : l.length ≤ 1048577) :
    Calls Try.prog 17 #[v, u] w fun e w' => e = .returned (.bool true) ∧ Ext w w' := by
  obtain ⟨a, c, rfl, hn, hc, hC⟩ := hv.boxes
  obtain ⟨a2, c2, rfl, hn2, hc2, hD⟩ := hu.boxes
  unfold maxLen at hc hc2
  have HC := Lib.hid hC
  have HD := Lib.hid hD
  clear hC hD hv hu
  go_enter Try.func17, Try.ntmps17
  go_wp2
  go_loopw [5] (fun i' wr => ∃ k : Nat, i' = .int .i64 k ∧ k ≤ l.length ∧ Below w.heap.size w wr) (fun i' _ => l.length - (intOf i').toNat)
  case atStart => exact ⟨0, rfl, Nat.zero_le _, Below.refl _ _⟩
  case round =>
    obtain ⟨k, rfl, hk, hbk⟩ := hrel
    by_cases hlt : k < l.length
    · obtain ⟨b, off, rfl, hbl, hCC⟩ := HC.out k _ (bx_get hlt)
      obtain ⟨b2, off2, rfl, hbl2, hDD⟩ := HD.out k _ (bx_get hlt)
      obtain ⟨c0, c1, c2, c3, c4, c5, c6, c7, c8⟩ := (hCC k _ (bx_get hlt)).below hbk hbl
      obtain ⟨d0, d1, d2, d3, d4, d5, d6, d7, d8⟩ := (hDD k _ (bx_get hlt)).below hbk hbl2
      clear hCC hDD
      have hlti : (k : Int) < l.length := by omega
      have hk0 : (0 : Int) ≤ (k : Int) := by omega
      have hbl1 := World.block_lt_of_cell? _ _ c0
      have hbl3 := World.block_lt_of_cell? _ _ d0
      have HCL : Hid (Cells9 wr b (off + k * 9) (bx l k)) := ⟨c0, c1, c2, c3, c4, c5, c6, c7, c8⟩
      have HCM : Hid (Cells9 wr b2 (off2 + k * 9) (bx l k)) := ⟨d0, d1, d2, d3, d4, d5, d6, d7, d8⟩
      clear c0 c1 c2 c3 c4 c5 c6 c7 c8 d0 d1 d2 d3 d4 d5 d6 d7 d8
      go_upto_region 6 with fail
      refine wp_region_held_drew (S := fun w' => Below wr.heap.size wr w') (by kernel_rfl) (Below.refl _ _).drew (fun hS => ?_)
      refine hTake (by kernel_rfl) (fun d _ _ _ _ h => by cases d <;> exact h) hS 0 (some 17) _ rfl (v := ?_) (by kernel_rfl) ?_ ?_
      rotate_left
      · intro _ _; go_simp; first | done | with_reducible rfl
      simp only [Act.put, List.setIfInBounds_toArray, List.set_cons_zero, List.set_cons_succ]
      refine hTake (by kernel_rfl) (fun d _ _ _ _ h => by cases d <;> exact h) hS 1 (some 18) _ rfl (v := ?_) (by kernel_rfl) ?_ ?_
      rotate_left
      · intro _ _; go_simp; first | done | with_reducible rfl
      simp only [Act.put, List.setIfInBounds_toArray, List.set_cons_zero, List.set_cons_succ]
      refine hTake (by kernel_rfl) (fun d _ _ _ _ h => by cases d <;> exact h) hS 2 (some 19) _ rfl (v := ?_) (by kernel_rfl) ?_ ?_
      rotate_left
      · intro _ _; go_simp; first | done | with_reducible rfl
      simp only [Act.put, List.setIfInBounds_toArray, List.set_cons_zero, List.set_cons_succ]
      refine hTake (by kernel_rfl) (fun d _ _ _ _ h => by cases d <;> exact h) hS 3 (some 20) _ rfl (v := ?_) (by kernel_rfl) ?_ ?_
      rotate_left
      · intro w9 hS9; obtain ⟨q0, q1, q2, q3, q4, q5, q6, q7, q8⟩ := HCL.out.below hS9 hbl1; go_simp; first | done | with_reducible rfl
      simp only [Act.put, List.setIfInBounds_toArray, List.set_cons_zero, List.set_cons_succ]
      refine hTake (by kernel_rfl) (fun d _ _ _ _ h => by cases d <;> exact h) hS 4 (some 21) _ rfl (v := ?_) (by kernel_rfl) ?_ ?_
      rotate_left
      · intro _ _; go_simp; first | done | with_reducible rfl
      simp only [Act.put, List.setIfInBounds_toArray, List.set_cons_zero, List.set_cons_succ]
      refine hTake (by kernel_rfl) (fun d _ _ _ _ h => by cases d <;> exact h) hS 5 (some 22) _ rfl (v := ?_) (by kernel_rfl) ?_ ?_
      rotate_left
      · intro _ _; go_simp; first | done | with_reducible rfl
      simp only [Act.put, List.setIfInBounds_toArray, List.set_cons_zero, List.set_cons_succ]
      refine hTake (by kernel_rfl) (fun d _ _ _ _ h => by cases d <;> exact h) hS 6 (some 23) _ rfl (v := ?_) (by kernel_rfl) ?_ ?_
      rotate_left
      · intro _ _; go_simp; first | done | with_reducible rfl
      simp only [Act.put, List.setIfInBounds_toArray, List.set_cons_zero, List.set_cons_succ]
      refine hTake (by kernel_rfl) (fun d _ _ _ _ h => by cases d <;> exact h) hS 7 (some 24) _ rfl (v := ?_) (by kernel_rfl) ?_ ?_
      rotate_left
      · intro w9 hS9; obtain ⟨q0, q1, q2, q3, q4, q5, q6, q7, q8⟩ := HCM.out.below hS9 hbl3; go_simp; first | done | with_reducible rfl
      simp only [Act.put, List.setIfInBounds_toArray, List.set_cons_zero, List.set_cons_succ]
      refine wpAnyH_ready (rs := [8]) (by kernel_rfl) (by simp) ?_
      refine AllReadyH.cons (o := _) rfl (fun K9 hK9 => ?_) AllReadyH.nil
      go_simp
      refine (eqBox_any (bx l k) _).mono ?_
      rintro e w2 ⟨rfl, hx⟩
      try go_wp2_with fail
      refine hK9.out _ _ (after hS hx (Nat.le_refl _)) (fun hS => ?_)
      clear hK9 K9
      try simp only [Act.put, List.setIfInBounds_toArray, List.set_cons_zero, List.set_cons_succ]
      clear hx
      refine hTake (by kernel_rfl) (fun d _ _ _ _ h => by cases d <;> exact h) hS 9 (some 26) _ rfl (v := ?_) (by kernel_rfl) ?_ ?_
      rotate_left
      · intro _ _; go_simp; first | done | with_reducible rfl
      simp only [Act.put, List.setIfInBounds_toArray, List.set_cons_zero, List.set_cons_succ]
      refine wpAnyH_done (by kernel_rfl) ?_ _
      have hb2 := after hbk hS (Nat.le_refl _)
      clear hS
      go_wp2
      go_roundw
      case rel => exact ⟨k + 1, by go_num, by omega, hb2⟩
      case measure => simp [intOf]; omega
    · obtain rfl : k = l.length := by omega
      go_wp2
      go_ret
      exact ⟨rfl, hbk⟩
/-- the first k boxes copied -/
def cpTo (l : List Bx) (k : Nat) : List Bx := l.take k ++ List.replicate (l.length - k) zb
theorem cpTo_length {l : List Bx} {k : Nat} (hk : k ≤ l.length) : (cpTo l k).length = l.length := by
  unfold cpTo
  rw [List.length_append, List.length_take, List.length_replicate]
  omega
theorem cpTo_zero (l : List Bx) : cpTo l 0 = List.replicate l.length zb := by simp [cpTo]
theorem cpTo_full (l : List Bx) : cpTo l l.length = l := by simp [cpTo]
theorem cpTo_succ {l : List Bx} {k : Nat} (hk : k < l.length) : (cpTo l k).set k (bx l k) = cpTo l (k + 1) := by
  apply List.ext_getElem?
  intro j
  unfold cpTo
  rw [List.getElem?_set, List.length_append, List.length_take, List.length_replicate]
  rcases Nat.lt_trichotomy j k with h | h | h
  · rw [if_neg (by omega), List.getElem?_append_left (by rw [List.length_take]; omega), List.getElem?_append_left (by rw [List.length_take]; omega), List.getElem?_take, List.getElem?_take, if_pos h, if_pos (by omega)]
  · subst h
    rw [if_pos rfl, if_pos (by omega), List.getElem?_append_left (by rw [List.length_take]; omega), List.getElem?_take, if_pos (by omega), bx_get hk]
  · rw [if_neg (by omega), List.getElem?_append_right (by rw [List.length_take]; omega), List.getElem?_append_right (by rw [List.length_take]; omega), List.length_take, List.length_take, List.getElem?_replicate, List.getElem?_replicate]
    split <;> split <;> first | rfl | (exfalso; omega)

set_option maxRecDepth 100000 in
set_option maxHeartbeats 2000000 in
theorem toBoxS_any {v : Value} {l : List Bx} (w : World) (hv : Rd w 9 v (Bs l)) (hl : l.length ≤ 1048577) :
    Calls Try.prog 15 #[v] w fun e w' => ∃ v', e = .returned v' ∧ Own w' w.heap.size 9 v' (Bs l) ∧ Ext w w' := by
  obtain ⟨a, c, rfl, hn, hc, hC⟩ := hv.boxes
  unfold maxLen at hc
  have HC := Lib.hid hC
  obtain ⟨i, hi, hz, hsz, hby⟩ := el_box.info
  have hu := el_box.und
  have Hi := Lib.hid hi
  have Hz := Lib.hid hz
  have Hs := Lib.hid hsz
  have Hb := Lib.hid hby
  have Hu := Lib.hid hu
  clear hC hi hz hsz hby hu hv
  go_enter Try.func15, Try.ntmps15
  go_wp2_with (refine wpList_make_full _ rfl _ _ _ rfl w.heap.size 33 i _ 9 Hu.out Hi.out Hz.out Hs.out _ _ _ _ l.length rfl rfl rfl rfl ?b2 ?b3 ?b4 ?hK)
  case b2 => rw [Hb.out]; omega
  case b3 => unfold maxLen; omega
  case b4 => exact Nat.le_refl _
  intro w1 ho hg
  have ho1 : Own w1 w.heap.size 9 (.slice (some ⟨w.heap.size, 0, none⟩) l.length l.length) (Bs (cpTo l 0)) := by
    rw [cpTo_zero, ← made_boxes]
    exact own_of_row ho
  have hb : Below w.heap.size w w1 := (Below.refl _ _).grown hg (Nat.le_refl _) (fun k hk => by cases hk)
  have HFULL := Lib.hid (cpTo_full l)
  clear ho hg
  go_wp2
  go_loopw [4] (fun i wr => ∃ k : Nat, i = .int .i64 k ∧ k ≤ l.length ∧ Own wr w.heap.size 9 (.slice (some ⟨w.heap.size, 0, none⟩) l.length l.length) (Bs (cpTo l k)) ∧ Below w.heap.size w wr) (fun i _ => l.length - (intOf i).toNat)
  case atStart => exact ⟨0, rfl, Nat.zero_le _, ho1, hb⟩
  case round =>
    clear ho1 hb
    obtain ⟨k, rfl, hk, ho, hb⟩ := hrel
    by_cases hlt : k < l.length
    · obtain ⟨b, off, rfl, hbl, hCC⟩ := HC.out k _ (bx_get hlt)
      obtain ⟨c0, c1, c2, c3, c4, c5, c6, c7, c8⟩ := (hCC k _ (bx_get hlt)).below hb hbl
      clear hCC
      have hlti : (k : Int) < l.length := by omega
      go_wp2_with (fail)
      change Calls _ _ #[(bx l k).agg] wr _
      refine (toBox_any (bx l k) wr).mono ?_
      rintro e w2 ⟨rfl, hx⟩
      replace ho := ho.below hx (Nat.le_refl _)
      replace hb := after hb hx (Nat.le_refl _)
      have hkc : k < (cpTo l k).length := by rw [cpTo_length hk]; exact hlt
      obtain ⟨hC2, hF⟩ := ho.cellF (i := k) hkc
      obtain ⟨g0, g1, g2, g3, g4, g5, g6, g7, g8⟩ := hC2
      have q0 := hF 0
      have q1 := hF 1
      have q2 := hF 2
      have q3 := hF 3
      have q4 := hF 4
      have q5 := hF 5
      have q6 := hF 6
      have q7 := hF 7
      have q8 := hF 8
      have hset := setBx_own ho rfl hkc (bx l k)
      rw [cpTo_succ hlt] at hset
      have hsb := setBx_below (B := w.heap.size) (b := w.heap.size) (o := 0 + k * 9) w2 (bx l k) (Nat.le_refl _)
      have hb2 := hb.trans hsb
      simp only [Nat.zero_add, Nat.add_zero] at g0 g1 g2 g3 g4 g5 g6 g7 g8 q0 q1 q2 q3 q4 q5 q6 q7 q8 hset hb2
      clear hF hsb hx c0 c1 c2 c3 c4 c5 c6 c7 c8 ho hb
      simp only [Bx.agg]
      go_wp2
      go_roundw
      case rel => exact ⟨k + 1, by go_num, by omega, hset, hb2⟩
      case measure => simp [intOf]; omega
    · obtain rfl : k = l.length := by omega
      rw [HFULL.out] at ho
      go_wp2
      go_ret
      exact ⟨_, rfl, ho, hb⟩
/-- the marks of one box -/
def mkBx (k : Int) : Bx := ⟨k, k + 1, k + 1 + 1, k + 1 + 1 + 1, k + 1 + 1 + 1 + 1, k + 1 + 1 + 1 + 1 + 1, k + 1 + 1 + 1 + 1 + 1 + 1, k + 1 + 1 + 1 + 1 + 1 + 1 + 1, k + 1 + 1 + 1 + 1 + 1 + 1 + 1 + 1⟩
/-- the first j boxes marked -/
def mkTo (l : List Bx) (k0 : Nat) (j : Nat) : List Bx := (List.range l.length).map fun i => if i < j then mkBx ((k0 : Int) + 9 * (i : Int)) else bx l i
theorem mkTo_length (l : List Bx) (k0 j : Nat) : (mkTo l k0 j).length = l.length := by simp [mkTo]
theorem mkTo_get {l : List Bx} {k0 j i : Nat} (hi : i < l.length) : (mkTo l k0 j)[i]? = some (if i < j then mkBx ((k0 : Int) + 9 * (i : Int)) else bx l i) := by simp [mkTo, hi]
theorem mkTo_zero (l : List Bx) (k0 : Nat) : mkTo l k0 0 = l := by
  apply List.ext_getElem?
  intro i
  by_cases hi : i < l.length
  · rw [mkTo_get hi, bx_get hi]
    simp
  · rw [List.getElem?_eq_none (by rw [mkTo_length]; omega), List.getElem?_eq_none (by omega)]
theorem mkTo_succ {l : List Bx} {k0 j : Nat} (hj : j < l.length) : (mkTo l k0 j).set j (mkBx ((k0 : Int) + 9 * (j : Int))) = mkTo l k0 (j + 1) := by
  apply List.ext_getElem?
  intro i
  by_cases hi : i < l.length
  · rw [List.getElem?_set, mkTo_get hi, mkTo_get hi, mkTo_length]
    by_cases h : j = i
    · subst h
      rw [if_pos rfl, if_pos hj, if_pos (by omega)]
    · rw [if_neg h]
      by_cases h2 : i < j
      · rw [if_pos h2, if_pos (by omega)]
      · rw [if_neg h2, if_neg (by omega)]
  · rw [List.getElem?_eq_none (by rw [List.length_set, mkTo_length]; omega), List.getElem?_eq_none (by rw [mkTo_length]; omega)]
set_option maxRecDepth 100000 in
set_option maxHeartbeats 4000000 in
theorem markBoxS_any {base : Nat} {v : Value} {l : List Bx} (k0 : Nat) (w : World) (hv : Own w base 9 v (Bs l)) (hl : l.length ≤ 1048577) (hk0 : k0 ≤ 1) :
    Calls Try.prog 18 #[v, .int .i64 k0] w fun e w' => e = .returned (.int .i64 (k0 + 9 * l.length : Nat)) ∧ Own w' base 9 v (Bs (mkTo l k0 l.length)) ∧ Below base w w' ∧ ∀ q, blk v ≠ some q → w'.heap[q]? = w.heap[q]? := by
  have ho := hv
  obtain ⟨a, c, rfl, hn, hc, _⟩ := hv.rd.boxes
  unfold maxLen at hc
  have HZ := Lib.hid (mkTo_zero l k0)
  clear hv
  go_enter Try.func18, Try.ntmps18
  go_wp2
  go_loopw [1, 5] (fun s i wr => ∃ j : Nat, i = .int .i64 j ∧ j ≤ l.length ∧ s = .int .i64 (k0 + 9 * j : Nat) ∧ Own wr base 9 (.slice a l.length c) (Bs (mkTo l k0 j)) ∧ Below base w wr ∧ ∀ q, blk (.slice a l.length c) ≠ some q → wr.heap[q]? = w.heap[q]?) (fun _ i _ => l.length - (intOf i).toNat)
  case atStart => exact ⟨0, rfl, Nat.zero_le _, rfl, by rw [HZ.out]; exact ho, Below.refl _ _, fun _ _ => rfl⟩
  case round =>
    clear ho
    obtain ⟨j, rfl, hj, rfl, ho, hb, hfr⟩ := hrel
    by_cases hlt : j < l.length
    · have hjm : j < (mkTo l k0 j).length := by rw [mkTo_length]; exact hlt
      obtain ⟨b3, off3, n3, c3, e3, hn3, hbk3, hbb3, hbs3, _, _, _⟩ := ho.cells (by
        intro e
        have := congrArg List.length e
        rw [Bs_length, List.length_nil] at this
        omega)
      cases e3
      obtain ⟨hC, hF⟩ := ho.cellF (i := j) hjm
      obtain ⟨g0, g1, g2, g3, g4, g5, g6, g7, g8⟩ := hC
      have q0 := hF 0
      have q1 := hF 1
      have q2 := hF 2
      have q3 := hF 3
      have q4 := hF 4
      have q5 := hF 5
      have q6 := hF 6
      have q7 := hF 7
      have q8 := hF 8
      simp only [Nat.add_zero] at q0
      have hset := setBx_own ho rfl hjm (mkBx ((k0 : Int) + 9 * (j : Int)))
      rw [mkTo_succ hlt] at hset
      have hlti : (j : Int) < l.length := by omega
      have hsb := setBx_below (B := base) (b := b3) (o := off3 + j * 9) wr (mkBx ((k0 : Int) + 9 * (j : Int))) hbb3
      have hb2 := hb.trans hsb
      have hfr2 : Hid (∀ q, blk (.slice (some ⟨b3, off3, none⟩) l.length c) ≠ some q → (setBx wr b3 (off3 + j * 9) (mkBx ((k0 : Int) + 9 * (j : Int)))).heap[q]? = w.heap[q]?) := fun q hq => by
        rw [setBx_other _ _ _ (by rintro rfl; exact hq hbk3)]
        exact hfr q hq
      clear hF hsb hfr
      go_wp2
      go_roundw
      case rel => exact ⟨j + 1, by go_num, by omega, by go_num, hset, hb2, hfr2.out⟩
      case measure => simp [intOf]; omega
    · obtain rfl : j = l.length := by omega
      go_wp2
      go_ret
      exact ⟨rfl, ho, hb, hfr⟩
set_option maxRecDepth 100000 in
set_option maxHeartbeats 4000000 in
theorem heldBoxS_any {v : Value} {l : List Bx} (k0 : Nat) (w : World) (hv : Rd w 9 v (Bs (mkTo l k0 l.length))) (hl : l.length ≤ 1048577) (hk0 : k0 ≤ 1) :
    Calls Try.prog 19 #[v, .int .i64 k0] w fun e w' => e = .returned (.int .i64 (k0 + 9 * l.length : Nat)) ∧ w = w' := by
  obtain ⟨a, c, rfl, hn, hc, hC⟩ := hv.boxes
  unfold maxLen at hc
  have HC := Lib.hid hC
  have HML := Lib.hid (mkTo_length l k0 l.length)
  have hml1 : (mkTo l k0 l.length).length ≤ l.length := Nat.le_of_eq HML.out
  have hml2 : l.length ≤ (mkTo l k0 l.length).length := Nat.le_of_eq HML.out.symm
  clear hC hv
  go_enter Try.func19, Try.ntmps19
  go_wp2
  go_loop [1, 5] (fun s i => ∃ j : Nat, i = .int .i64 j ∧ j ≤ l.length ∧ s = .int .i64 (k0 + 9 * j : Nat)) (fun _ i => l.length - (intOf i).toNat)
  case atStart => exact ⟨0, rfl, Nat.zero_le _, rfl⟩
  case round =>
    obtain ⟨j, rfl, hj, rfl⟩ := hrel
    by_cases hlt : j < l.length
    · have hg := mkTo_get (l := l) (k0 := k0) (j := l.length) hlt
      rw [if_pos hlt] at hg
      obtain ⟨b, off, rfl, hbl, hCC⟩ := HC.out j _ hg
      obtain ⟨c0, c1, c2, c3, c4, c5, c6, c7, c8⟩ := hCC j _ hg
      simp only [mkBx] at c0 c1 c2 c3 c4 c5 c6 c7 c8
      have hlti : (j : Int) < (mkTo l k0 l.length).length := by omega
      clear hCC hg
      go_wp2
      go_round
      case rel => exact ⟨j + 1, by go_num, by omega, by go_num⟩
      case measure => simp [intOf]; omega
    · obtain rfl : j = l.length := by omega
      go_wp2
      go_ret
      exact ⟨rfl, rfl⟩
end Go.Proofs.Ytckggmbmlpikhaa
