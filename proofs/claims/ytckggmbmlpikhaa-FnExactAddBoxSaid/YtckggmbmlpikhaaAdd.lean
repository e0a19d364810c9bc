/-
  AddBox of the program.
-/
import Derived.Test.YtckggmbmlpikhaaRem
import Derived.Test.YtckggmbmlpikhaaDraw
namespace Go.Proofs.Ytckggmbmlpikhaa
open Go Go.RowKit

theorem bump_bmpI (e : Nat) : bump e = bmpI (e : Int) 1 := by
  funext y
  unfold bump bmpI
  split
  · rfl
  · rw [Int.add_zero]
    rfl
/-- what every world of the region keeps: old memory, and the local box -/
def S2 (w : World) (B : Nat) (o : Obj) (W : World) (w' : World) : Prop := Below w.heap.size w w' ∧ W.heap.size ≤ w'.heap.size ∧ Keep B o w'
theorem S2.ext {w W w1 w2 : World} {B : Nat} {o : Obj} (h : S2 w B o W w1) (hx : Ext w1 w2) : S2 w B o W w2 :=
  ⟨after h.1 hx (Nat.le_refl _), Nat.le_trans h.2.1 hx.size, by unfold Keep; rw [hx.block _ h.2.2.lt]; exact h.2.2⟩
theorem S2.alloc {w W w1 : World} {B : Nat} {o : Obj} (h : S2 w B o W w1) (o' : Obj) : S2 w B o W (w1.alloc o') := h.ext (Below.of_alloc _ _)

set_option maxRecDepth 100000 in
set_option maxHeartbeats 2000000 in
theorem AddBox_any {v : Value} {l : List Bx} (i : Int) (x : Bx) (w : World) (hv : Rd w 9 v (Bs l)) :
    Calls Try.prog 21 #[v, .int .i64 i, x.agg] w fun e w' => ∃ v', e = .returned (.tuple #[v', .bool (addOk l i x)]) ∧ Own w' w.heap.size 9 v' (Bs (orNo (addOk l i x) (addL l i.toNat x))) ∧ Ext w w' := by
  have hrd := hv
  obtain ⟨a, c, rfl, hn, hc, hcell⟩ := hv.boxes
  unfold maxLen at hc
  unfold Bx.agg
  by_cases h : inB l i = true
  · obtain ⟨hval, h0, hi⟩ := inB_iff.1 h
    obtain ⟨i, rfl⟩ := Int.eq_ofNat_of_zero_le h0
    have hin : i < l.length := by omega
    have hst : Hid (addOk l (i : Int) x = vldB (addL l i x)) := by
      show _ = _
      unfold addOk
      rw [h, Int.toNat_natCast]
      rfl
    have Hv := Lib.hid hval
    have hcl := cntS_le l i
    have hpos := cntS_pos hval hin
    have hll := hval.hi
    obtain ⟨b, off, rfl, hbl, _⟩ := hcell i _ (bx_get hin)
    clear hval hcell
    go_enter Try.func21, Try.ntmps21
    go_wp2_with (fail)
    refine (boxIn_any (l := l) (i : Int) _ (hrd.alloc _)).mono ?_
    rintro e w1 ⟨he, hx1⟩
    rw [h] at he
    subst he
    clear h
    have hb1 := after (Below.of_alloc w _) hx1 (Nat.le_refl _)
    have hB : Keep w.heap.size (.cells x.arr 33) w1 := by
      show w1.heap[w.heap.size]? = _
      rw [hx1.block _ (by simp)]
      exact heap_alloc_new w _
    clear hx1
    have f0 : w1.frozen? ⟨w.heap.size, 0, none⟩ = false := hB.frozen 0
    have p0 : w1.cell? ⟨w.heap.size, 0, none⟩ = some (.int .i64 x.parent) := hB.cell 0
    have hB2 : Keep w.heap.size (.cells (x.at i).arr 33) (w1.setCell ⟨w.heap.size, 0, none⟩ (.int .i64 (i : Int))) := hB.store 0 (.int .i64 (i : Int))
    have hb2 := hb1.setCell (p := ⟨w.heap.size, 0, none⟩) (Nat.le_refl _) (.int .i64 (i : Int))
    clear hB
    go_wp2_with (fail)
    change Calls _ _ _ (w1.setCell ⟨w.heap.size, 0, none⟩ (.int .i64 (i : Int))) _
    clear f0 p0
    generalize w1.setCell ⟨w.heap.size, 0, none⟩ (.int .i64 (i : Int)) = W2 at *
    replace hrd := hrd.below hb2 (Nat.le_refl _)
    refine (count_any (l := l) (a := (i : Int)) Hv.out _ (by omega) hi hrd).mono ?_
    rintro e w2 ⟨rfl, hx⟩
    rw [Int.toNat_natCast]
    have hb := after hb2 hx (Nat.le_refl _)
    replace hrd := hrd.below hx (Nat.le_refl _)
    have hK : Keep w.heap.size (.cells (x.at i).arr 33) w2 := by
      unfold Keep
      rw [hx.block _ hB2.lt]
      exact hB2
    clear hx hb2 hb1 hB2
    have hs2 := hb.size
    have hci : (i : Int) + (cntS l i : Nat) ≤ c := by omega
    have hcl2 : (i : Int) + (cntS l i : Nat) ≤ l.length := by omega
    have hwr : IntKind.i64.wrap ((i : Int) + (cntS l i : Nat)) = (i : Int) + (cntS l i : Nat) := by rw [IntKind.wrap_i64]; omega
    have hic0 : (0 : Int) ≤ (i : Int) + (cntS l i : Nat) := by omega
    have htn : ((i : Int) + (cntS l i : Nat)).toNat = i + cntS l i := by omega
    go_upto_region 5 with fail
    refine wp_region_held_drew (S := S2 w2 w.heap.size (.cells (x.at i).arr 33) w2) (by kernel_rfl) ⟨(Below.refl _ _).drew, Nat.le_refl _, hK⟩ (fun hS => ?_)
    refine hTake (by kernel_rfl) (fun d _ _ _ _ h => by cases d <;> exact h) hS 0 (some 20) _ rfl (v := ?_) (by kernel_rfl) ?_ ?_
    rotate_left
    · intro _ _; go_simp; first | done | with_reducible rfl
    simp only [Act.put, List.setIfInBounds_toArray, List.set_cons_zero, List.set_cons_succ]
    refine hTake (by kernel_rfl) (fun d _ _ _ _ h => by cases d <;> exact h) hS 1 (some 21) _ rfl (v := ?_) (by kernel_rfl) ?_ ?_
    rotate_left
    · intro _ _; go_simp; first | done | with_reducible rfl
    simp only [Act.put, List.setIfInBounds_toArray, List.set_cons_zero, List.set_cons_succ]
    refine hTake (by kernel_rfl) (fun d _ _ _ _ h => by cases d <;> exact h) hS 2 (some 22) _ rfl (v := ?_) (by kernel_rfl) ?_ ?_
    rotate_left
    · intro _ _; go_simp; first | done | with_reducible rfl
    simp only [Act.put, List.setIfInBounds_toArray, List.set_cons_zero, List.set_cons_succ]
    refine hTake (by kernel_rfl) (fun d _ _ _ _ h => by cases d <;> exact h) hS 3 (some 23) _ rfl (v := ?_) (by kernel_rfl) ?_ ?_
    rotate_left
    · intro w9 hS9; obtain ⟨d0, d1, d2, d3, d4, d5, d6, d7, d8⟩ := Keep.c9 (x := x.at i) hS9.2.2; go_simp; first | done | with_reducible rfl
    simp only [Act.put, List.setIfInBounds_toArray, List.set_cons_zero, List.set_cons_succ]
    refine hTake (by kernel_rfl) (fun d _ _ _ _ h => by cases d <;> exact h) hS 5 (some 25) _ rfl (v := ?_) (by kernel_rfl) ?_ ?_
    rotate_left
    · intro _ _; go_simp; first | done | with_reducible rfl
    simp only [Act.put, List.setIfInBounds_toArray, List.set_cons_zero, List.set_cons_succ]
    refine hTake (by kernel_rfl) (fun d _ _ _ _ h => by cases d <;> exact h) hS 6 (some 26) _ rfl (v := ?_) (by kernel_rfl) ?_ ?_
    rotate_left
    · intro _ _; go_simp; first | done | with_reducible rfl
    simp only [Act.put, List.setIfInBounds_toArray, List.set_cons_zero, List.set_cons_succ]
    refine hTake (by kernel_rfl) (fun d _ _ _ _ h => by cases d <;> exact h) hS 7 (some 27) _ rfl (v := ?_) (by kernel_rfl) ?_ ?_
    rotate_left
    · intro _ _; go_simp; first | done | with_reducible rfl
    simp only [Act.put, List.setIfInBounds_toArray, List.set_cons_zero, List.set_cons_succ]
    refine hTake (by kernel_rfl) (fun d _ _ _ _ h => by cases d <;> exact h) hS 8 (some 28) _ rfl (v := ?_) (by kernel_rfl) ?_ ?_
    rotate_left
    · intro _ _; go_simp; first | done | with_reducible rfl
    simp only [Act.put, List.setIfInBounds_toArray, List.set_cons_zero, List.set_cons_succ]
    have hdrop := hrd.dropIf (e := i + cntS l i) (by omega)
    have htake := hrd.take (m := i + cntS l i) (by omega)
    have HPB : Hid (∀ k, k < (l.drop (i + cntS l i)).length → -100 ≤ (bx (l.drop (i + cntS l i)) k).parent ∧ (bx (l.drop (i + cntS l i)) k).parent ≤ 100) := fun k hk => by
      rw [List.length_drop] at hk
      have := Hv.out.parLt (k := i + cntS l i + k) (by omega)
      have e : bx (l.drop (i + cntS l i)) k = bx l (i + cntS l i + k) := bx_of (by rw [List.getElem?_drop]; exact bx_get (by omega))
      rw [e]
      omega
    clear hwr hic0 htn
    generalize (if c = i + cntS l i then some (⟨b, off, none⟩ : Addr) else some ⟨b, off + (i + cntS l i) * 9, none⟩) = av at *
    have hlm : ((l.drop (i + cntS l i)).map (bump (i + cntS l i))).length ≤ 16 := by rw [List.length_map, List.length_drop]; omega
    refine wpAnyH_ready (rs := [4, 9]) (by kernel_rfl) (by simp) ?_
    refine AllReadyH.cons (o := _) rfl (fun K9 hK9 => ?_) (AllReadyH.cons (o := _) rfl (fun K9 hK9 => ?_) AllReadyH.nil)
    · have hr4 : Rd (w2.drew.alloc (.cells (x.at i).arr 33)) 9 (.slice (some ⟨w2.heap.size, 0, none⟩) 1 1) (Bs [x.at i]) := by
        have := Rd.oneAt (w := w2.drew) (g := w2.heap.size) (x.at i).arr 33 rfl
        exact this
      go_simp
      refine hK9.out _ _ (hS.alloc _) (fun hS => ?_)
      clear hK9 K9
      try simp only [Act.put, List.setIfInBounds_toArray, List.set_cons_zero, List.set_cons_succ]
      change S2 _ _ _ _ (w2.drew.alloc (.cells (x.at i).arr 33)) at hS
      change wpAnyH _ _ _ _ _ _ _ _ (w2.drew.alloc (.cells (x.at i).arr 33))
      have hW4 : w2.heap.size ≤ (w2.drew.alloc (.cells (x.at i).arr 33)).heap.size := hS.2.1
      generalize hg4 : w2.heap.size = g4 at hr4 ⊢
      clear hg4
      generalize w2.drew.alloc (.cells (x.at i).arr 33) = W4 at *
      refine wpAnyH_ready (rs := [9]) (by kernel_rfl) (by simp) ?_
      refine AllReadyH.cons (o := _) rfl (fun K9 hK9 => ?_) AllReadyH.nil
      go_simp
      refine (renumbered_any (l := l.drop (i + cntS l i)) ((i : Int) + (cntS l i : Nat)) 1 _ (hdrop.below hS.1 (Nat.le_refl _)) (by rw [List.length_drop]; omega) HPB.out (by omega) (by omega)).mono ?_
      rintro e w3 ⟨v3, rfl, ho3, hx3⟩
      rw [show (i : Int) + (cntS l i : Nat) = ((i + cntS l i : Nat) : Int) by omega, ← bump_bmpI] at ho3
      obtain ⟨a3, c3, rfl, _, _, _⟩ := ho3.rd.boxes
      generalize hM : (l.drop (i + cntS l i)).map (bump (i + cntS l i)) = M at *
      generalize hn3 : M.length = n3 at ho3 ⊢
      try go_wp2_with fail
      refine hK9.out _ _ (hS.ext hx3) (fun hS => ?_)
      clear hK9 K9
      try simp only [Act.put, List.setIfInBounds_toArray, List.set_cons_zero, List.set_cons_succ]
      have hr3 := ho3.rd
      replace hr4 := hr4.below hx3 (Nat.le_refl _)
      have hW5 : w2.heap.size ≤ w3.heap.size := Nat.le_trans hW4 hx3.size
      clear hx3 hW4 ho3
      refine wpAnyH_ready (rs := [10]) (by kernel_rfl) (by simp) ?_
      refine AllReadyH.cons (o := _) rfl (fun K9 hK9 => ?_) AllReadyH.nil
      have hg0 : ∀ (j : Nat) (y : Value), [Value.slice (some ⟨b, off, none⟩) (i + cntS l i) c, .slice (some ⟨g4, 0, none⟩) 1 1, .slice a3 n3 c3][j]? = some y → (w3.alloc (.cells #[.slice (some ⟨b, off, none⟩) (i + cntS l i) c, .slice (some ⟨g4, 0, none⟩) 1 1, .slice a3 n3 c3] 24)).cell? ⟨w3.heap.size, j, none⟩ = some y := fun j y hj => by
        rw [cell_of_heap (heap_alloc_new w3 _)]
        simpa using hj
      have hg1 : ∀ (j : Nat) (y : Value) (m : List Bx), [Value.slice (some ⟨b, off, none⟩) (i + cntS l i) c, .slice (some ⟨g4, 0, none⟩) 1 1, .slice a3 n3 c3][j]? = some y → [l.take (i + cntS l i), [x.at i], M][j]? = some m → Rd (w3.alloc (.cells #[.slice (some ⟨b, off, none⟩) (i + cntS l i) c, .slice (some ⟨g4, 0, none⟩) 1 1, .slice a3 n3 c3] 24)) 9 y (Bs m) := fun j y m hj hm => by
        match j, hj, hm with
        | 0, hj, hm => cases hj; cases hm; exact htake.below (hS.alloc _).1 (Nat.le_refl _)
        | 1, hj, hm => cases hj; cases hm; exact hr4.alloc _
        | 2, hj, hm => cases hj; cases hm; exact hr3.alloc _
        | j + 3, hj, hm => cases hj
      go_simp
      refine hK9.out _ _ (hS.alloc _) (fun hS => ?_)
      clear hK9 K9
      try simp only [Act.put, List.setIfInBounds_toArray, List.set_cons_zero, List.set_cons_succ]
      refine wpAnyH_ready (rs := [11]) (by kernel_rfl) (by simp) ?_
      refine AllReadyH.cons (o := _) rfl (fun K9 hK9 => ?_) AllReadyH.nil
      go_simp
      refine (ConcatB_any (g := w3.heap.size) (vs := [Value.slice (some ⟨b, off, none⟩) (i + cntS l i) c, .slice (some ⟨g4, 0, none⟩) 1 1, .slice a3 n3 c3]) (ls := [l.take (i + cntS l i), [x.at i], M]) _ hg0 rfl rfl (by simp) hg1 (by
        simp only [List.flatten_cons, List.flatten_nil, List.append_nil, List.length_append, List.length_take, List.length_singleton]
        omega)).mono ?_
      rintro e w6 ⟨v6, rfl, ho6, hx6⟩
      rw [List.flatten_cons, List.flatten_cons, List.flatten_cons, List.flatten_nil, List.append_nil, ← List.append_assoc, ← hM] at ho6
      change Own w6 _ 9 v6 (Bs (addL l i x)) at ho6
      clear hg0 hg1
      try go_wp2_with fail
      refine hK9.out _ _ (hS.ext hx6) (fun hS => ?_)
      clear hK9 K9
      try simp only [Act.put, List.setIfInBounds_toArray, List.set_cons_zero, List.set_cons_succ]
      refine wpAnyH_ready (rs := [12]) (by kernel_rfl) (by simp) ?_
      refine AllReadyH.cons (o := _) rfl (fun K9 hK9 => ?_) AllReadyH.nil
      go_simp
      refine (made_any (l := addL l i x) (base := w.heap.size) _ (ho6.weak (by have h1 := hb.size; have h2 : w2.heap.size ≤ w3.heap.size := hW5; simp; omega)) (by have := hb.size; have := hS.1.size; omega)).mono ?_
      rintro e w7 ⟨v7, rfl, ho7, hx7⟩
      try go_wp2_with fail
      refine hK9.out _ _ (hS.ext hx7) (fun hS => ?_)
      clear hK9 K9
      try simp only [Act.put, List.setIfInBounds_toArray, List.set_cons_zero, List.set_cons_succ]
      refine hTake (by kernel_rfl) (fun d _ _ _ _ h => by cases d <;> exact h) hS 13 (some 33) _ rfl (v := ?_) (by kernel_rfl) ?_ ?_
      rotate_left
      · intro _ _; go_simp; first | done | with_reducible rfl
      simp only [Act.put, List.setIfInBounds_toArray, List.set_cons_zero, List.set_cons_succ]
      refine hTake (by kernel_rfl) (fun d _ _ _ _ h => by cases d <;> exact h) hS 14 (some 34) _ rfl (v := ?_) (by kernel_rfl) ?_ ?_
      rotate_left
      · intro _ _; go_simp; first | done | with_reducible rfl
      simp only [Act.put, List.setIfInBounds_toArray, List.set_cons_zero, List.set_cons_succ]
      refine wpAnyH_ready (rs := [15]) (by kernel_rfl) (by simp) ?_
      refine AllReadyH.cons (o := _) rfl (fun K9 hK9 => ?_) AllReadyH.nil
      go_simp
      refine hK9.out _ _ hS (fun hS => ?_)
      clear hK9 K9
      try simp only [Act.put, List.setIfInBounds_toArray, List.set_cons_zero, List.set_cons_succ]
      refine wpAnyH_ready (rs := [16]) (by kernel_rfl) (by simp) ?_
      refine AllReadyH.cons (o := _) rfl (fun K9 hK9 => ?_) AllReadyH.nil
      go_simp
      refine hK9.out _ _ hS (fun hS => ?_)
      clear hK9 K9
      try simp only [Act.put, List.setIfInBounds_toArray, List.set_cons_zero, List.set_cons_succ]
      refine wpAnyH_done (by kernel_rfl) ?_ _
      have HB : Hid (Below w.heap.size w w7) := after hb hS.1 (Nat.le_refl _)
      have HO : Hid (Own w7 w.heap.size 9 v7 (Bs (orNo (vldB (addL l i x)) (addL l i x)))) := ho7
      clear ho6 ho7 hx6 hx7 hS hdrop htake hrd hv hb hr3 hr4
      go_wp2
      go_ret2
      exact ⟨_, by rw [hst.out]; rfl, by rw [hst.out, Int.toNat_natCast]; exact HO.out, HB.out⟩
    ·
      go_simp
      refine (renumbered_any (l := l.drop (i + cntS l i)) ((i : Int) + (cntS l i : Nat)) 1 _ (hdrop.below hS.1 (Nat.le_refl _)) (by rw [List.length_drop]; omega) HPB.out (by omega) (by omega)).mono ?_
      rintro e w3 ⟨v3, rfl, ho3, hx3⟩
      rw [show (i : Int) + (cntS l i : Nat) = ((i + cntS l i : Nat) : Int) by omega, ← bump_bmpI] at ho3
      obtain ⟨a3, c3, rfl, _, _, _⟩ := ho3.rd.boxes
      generalize hM : (l.drop (i + cntS l i)).map (bump (i + cntS l i)) = M at *
      generalize hn3 : M.length = n3 at ho3 ⊢
      try go_wp2_with fail
      refine hK9.out _ _ (hS.ext hx3) (fun hS => ?_)
      clear hK9 K9
      try simp only [Act.put, List.setIfInBounds_toArray, List.set_cons_zero, List.set_cons_succ]
      refine wpAnyH_ready (rs := [4]) (by kernel_rfl) (by simp) ?_
      refine AllReadyH.cons (o := _) rfl (fun K9 hK9 => ?_) AllReadyH.nil
      have hr4 : Rd (w3.alloc (.cells (x.at i).arr 33)) 9 (.slice (some ⟨w3.heap.size, 0, none⟩) 1 1) (Bs [x.at i]) := by
        have := Rd.oneAt (w := w3) (g := w3.heap.size) (x.at i).arr 33 rfl
        exact this
      have hr3 := (ho3.alloc (.cells (x.at i).arr 33)).rd
      have hW5 : w2.heap.size ≤ (w3.alloc (.cells (x.at i).arr 33)).heap.size := Nat.le_trans hx3.size (Below.of_alloc w3 _).size
      go_simp
      refine hK9.out _ _ (hS.alloc (.cells (x.at i).arr 33)) (fun hS => ?_)
      clear hK9 K9
      try simp only [Act.put, List.setIfInBounds_toArray, List.set_cons_zero, List.set_cons_succ]
      change S2 _ _ _ _ (w3.alloc (.cells (x.at i).arr 33)) at hS
      change wpAnyH _ _ _ _ _ _ _ _ (w3.alloc (.cells (x.at i).arr 33))
      clear hx3 ho3
      generalize hg4 : w3.heap.size = g4 at hr4 ⊢
      clear hg4
      generalize w3.alloc (.cells (x.at i).arr 33) = W5 at *
      refine wpAnyH_ready (rs := [10]) (by kernel_rfl) (by simp) ?_
      refine AllReadyH.cons (o := _) rfl (fun K9 hK9 => ?_) AllReadyH.nil
      have hg0 : ∀ (j : Nat) (y : Value), [Value.slice (some ⟨b, off, none⟩) (i + cntS l i) c, .slice (some ⟨g4, 0, none⟩) 1 1, .slice a3 n3 c3][j]? = some y → (W5.alloc (.cells #[.slice (some ⟨b, off, none⟩) (i + cntS l i) c, .slice (some ⟨g4, 0, none⟩) 1 1, .slice a3 n3 c3] 24)).cell? ⟨W5.heap.size, j, none⟩ = some y := fun j y hj => by
        rw [cell_of_heap (heap_alloc_new W5 _)]
        simpa using hj
      have hg1 : ∀ (j : Nat) (y : Value) (m : List Bx), [Value.slice (some ⟨b, off, none⟩) (i + cntS l i) c, .slice (some ⟨g4, 0, none⟩) 1 1, .slice a3 n3 c3][j]? = some y → [l.take (i + cntS l i), [x.at i], M][j]? = some m → Rd (W5.alloc (.cells #[.slice (some ⟨b, off, none⟩) (i + cntS l i) c, .slice (some ⟨g4, 0, none⟩) 1 1, .slice a3 n3 c3] 24)) 9 y (Bs m) := fun j y m hj hm => by
        match j, hj, hm with
        | 0, hj, hm => cases hj; cases hm; exact htake.below (hS.alloc _).1 (Nat.le_refl _)
        | 1, hj, hm => cases hj; cases hm; exact hr4.alloc _
        | 2, hj, hm => cases hj; cases hm; exact hr3.alloc _
        | j + 3, hj, hm => cases hj
      go_simp
      refine hK9.out _ _ (hS.alloc _) (fun hS => ?_)
      clear hK9 K9
      try simp only [Act.put, List.setIfInBounds_toArray, List.set_cons_zero, List.set_cons_succ]
      refine wpAnyH_ready (rs := [11]) (by kernel_rfl) (by simp) ?_
      refine AllReadyH.cons (o := _) rfl (fun K9 hK9 => ?_) AllReadyH.nil
      go_simp
      refine (ConcatB_any (g := W5.heap.size) (vs := [Value.slice (some ⟨b, off, none⟩) (i + cntS l i) c, .slice (some ⟨g4, 0, none⟩) 1 1, .slice a3 n3 c3]) (ls := [l.take (i + cntS l i), [x.at i], M]) _ hg0 rfl rfl (by simp) hg1 (by
        simp only [List.flatten_cons, List.flatten_nil, List.append_nil, List.length_append, List.length_take, List.length_singleton]
        omega)).mono ?_
      rintro e w6 ⟨v6, rfl, ho6, hx6⟩
      rw [List.flatten_cons, List.flatten_cons, List.flatten_cons, List.flatten_nil, List.append_nil, ← List.append_assoc, ← hM] at ho6
      change Own w6 _ 9 v6 (Bs (addL l i x)) at ho6
      clear hg0 hg1
      try go_wp2_with fail
      refine hK9.out _ _ (hS.ext hx6) (fun hS => ?_)
      clear hK9 K9
      try simp only [Act.put, List.setIfInBounds_toArray, List.set_cons_zero, List.set_cons_succ]
      refine wpAnyH_ready (rs := [12]) (by kernel_rfl) (by simp) ?_
      refine AllReadyH.cons (o := _) rfl (fun K9 hK9 => ?_) AllReadyH.nil
      go_simp
      refine (made_any (l := addL l i x) (base := w.heap.size) _ (ho6.weak (by have h1 := hb.size; have h2 : w2.heap.size ≤ W5.heap.size := hW5; simp; omega)) (by have := hb.size; have := hS.1.size; omega)).mono ?_
      rintro e w7 ⟨v7, rfl, ho7, hx7⟩
      try go_wp2_with fail
      refine hK9.out _ _ (hS.ext hx7) (fun hS => ?_)
      clear hK9 K9
      try simp only [Act.put, List.setIfInBounds_toArray, List.set_cons_zero, List.set_cons_succ]
      refine hTake (by kernel_rfl) (fun d _ _ _ _ h => by cases d <;> exact h) hS 13 (some 33) _ rfl (v := ?_) (by kernel_rfl) ?_ ?_
      rotate_left
      · intro _ _; go_simp; first | done | with_reducible rfl
      simp only [Act.put, List.setIfInBounds_toArray, List.set_cons_zero, List.set_cons_succ]
      refine hTake (by kernel_rfl) (fun d _ _ _ _ h => by cases d <;> exact h) hS 14 (some 34) _ rfl (v := ?_) (by kernel_rfl) ?_ ?_
      rotate_left
      · intro _ _; go_simp; first | done | with_reducible rfl
      simp only [Act.put, List.setIfInBounds_toArray, List.set_cons_zero, List.set_cons_succ]
      refine wpAnyH_ready (rs := [15]) (by kernel_rfl) (by simp) ?_
      refine AllReadyH.cons (o := _) rfl (fun K9 hK9 => ?_) AllReadyH.nil
      go_simp
      refine hK9.out _ _ hS (fun hS => ?_)
      clear hK9 K9
      try simp only [Act.put, List.setIfInBounds_toArray, List.set_cons_zero, List.set_cons_succ]
      refine wpAnyH_ready (rs := [16]) (by kernel_rfl) (by simp) ?_
      refine AllReadyH.cons (o := _) rfl (fun K9 hK9 => ?_) AllReadyH.nil
      go_simp
      refine hK9.out _ _ hS (fun hS => ?_)
      clear hK9 K9
      try simp only [Act.put, List.setIfInBounds_toArray, List.set_cons_zero, List.set_cons_succ]
      refine wpAnyH_done (by kernel_rfl) ?_ _
      have HB : Hid (Below w.heap.size w w7) := after hb hS.1 (Nat.le_refl _)
      have HO : Hid (Own w7 w.heap.size 9 v7 (Bs (orNo (vldB (addL l i x)) (addL l i x)))) := ho7
      clear ho6 ho7 hx6 hx7 hS hdrop htake hrd hv hb hr3 hr4
      go_wp2
      go_ret2
      exact ⟨_, by rw [hst.out]; rfl, by rw [hst.out, Int.toNat_natCast]; exact HO.out, HB.out⟩
  · have h' : inB l i = false := by simpa using h
    have hst : Hid (addOk l i x = false) := by
      show _ = _
      unfold addOk
      rw [h']
      rfl
    clear h hcell
    go_enter Try.func21, Try.ntmps21
    go_wp2_with (fail)
    refine (boxIn_any (l := l) i _ (hrd.alloc _)).mono ?_
    rintro e w1 ⟨he, hx⟩
    rw [h'] at he
    subst he
    go_wp2
    go_ret2
    refine ⟨_, by rw [hst.out]; rfl, ?_, after (Below.of_alloc w _) hx (Nat.le_refl _)⟩
    rw [hst.out]
    exact Own.nil _ _ _
end Go.Proofs.Ytckggmbmlpikhaa
