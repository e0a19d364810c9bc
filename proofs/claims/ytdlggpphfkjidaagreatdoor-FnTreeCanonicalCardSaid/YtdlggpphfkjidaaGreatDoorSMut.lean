/-
  The reference's drawn texts: of, mutate, DrawParseTree.
-/
import Derived.Deep.Cut
import Derived.StillTailTactics
import Derived.Test.YtdlggpphfkjidaaGreatDoorLTxt
import Derived.Test.YtdlggpphfkjidaaGreatDoorSPrs
namespace Go.Proofs.YtdlggpphfkjidaaGreatDoor
open Go Go.RowKit

set_option maxRecDepth 100000 in
set_option maxHeartbeats 1000000 in
theorem of_any {R m g : Nat} {l : List (List UInt8)} {e : TypeId} (w : World) (h : Rdr R w m) (hm : m ≤ 100000) (hg : w.heap[g]? = some (.cells (Ss l).toArray e)) (hgR : g ≠ R) (hl : l ≠ []) (hl2 : l.length ≤ 100) :
    Calls Tryz.prog 67 #[.pointer (some ⟨R, 0, none⟩), .slice (some ⟨g, 0, none⟩) l.length l.length] w fun e w' => ∃ x, e = .returned (sv x) ∧ x ∈ l ∧ Rdr R w' (m + 1) ∧ ExtR R w w' := by
  have hgl := (Array.getElem?_eq_some_iff.1 hg).1
  have hpos : 0 < l.length := List.length_pos_iff.2 hl
  have Hg := Lib.hid hg
  clear hg hl
  go_enter Tryz.func67, Tryz.ntmps67
  go_wp2_with (fail)
  refine (pick_any (l.length : Int) _ h hm).mono ?_
  rintro e w1 ⟨r, rfl, ⟨r0, r1⟩, hr, hx⟩
  have r1 := r1 (by omega)
  obtain ⟨r, rfl⟩ := Int.eq_ofNat_of_zero_le r0
  obtain ⟨x, hxr⟩ : ∃ x, l[r]? = some x := ⟨_, List.getElem?_eq_getElem (by omega)⟩
  have c1 : w1.cell? ⟨g, r, none⟩ = some (.string ⟨x.toArray⟩) := by
    rw [cell_of_heap (w := w1) (by rw [hx.block g hgl hgR]; exact Hg.out)]
    simp [Ss, hxr, sv]
  have Hx := Lib.hid hxr
  clear hxr h
  go_wp2
  go_ret
  exact ⟨x, rfl, List.mem_of_getElem? Hx.out, hr, hx⟩
/-- the texts that mutate puts in -/
def ofA : List (List UInt8) := [[48], [49], [32], [45], [108], [114], [112], [57]]
def ofB : List (List UInt8) := [[48], [32], [103, 97, 112], [32, 49], [120], [114, 111, 119]]
set_option maxRecDepth 100000 in
set_option maxHeartbeats 1600000 in
theorem mutate_any {R m : Nat} (S : List UInt8) (w : World) (h : Rdr R w m) (hm : m ≤ 90000) (hS : S.length ≤ 100000) :
    Calls Tryz.prog 34 #[.pointer (some ⟨R, 0, none⟩), .string ⟨S.toArray⟩] w fun e w' => ∃ S', e = .returned (sv S') ∧ S'.length ≤ S.length + 10 ∧ ExtR R w w' := by
  have HE : Hid (∀ f, (⟨S.toArray⟩ : ByteArray).extract f S.length = ⟨(S.drop f).toArray⟩) := fun f => (ba_extract S f S.length).trans (by rw [← List.length_drop, List.take_length])
  have HT : Hid (∀ k, (⟨S.toArray⟩ : ByteArray).extract 0 k = ⟨(S.take k).toArray⟩) := fun k => ba_extract S 0 k
  have hRl := h.lt
  go_enter Tryz.func34, Tryz.ntmps34
  go_wp2_with (fail)
  refine (pick_any ((S.length : Int) + 1) _ h (by omega)).mono ?_
  rintro e w1 ⟨k, rfl, ⟨k0, k1⟩, hr1, hx1⟩
  replace k1 := k1 (by omega)
  obtain ⟨k, rfl⟩ := Int.eq_ofNat_of_zero_le k0
  clear h k0
  go_wp2_with (fail)
  refine (pick_any 5 _ hr1 (by omega)).mono ?_
  rintro e w2 ⟨q, rfl, ⟨q0, q1⟩, hr2, hx2⟩
  replace q1 := q1 (by omega)
  have hx := afterR hx1 hx2 (Nat.le_refl _)
  have hR2 := hr2.lt
  clear hr1 hx1 hx2
  obtain ⟨q, rfl⟩ := Int.eq_ofNat_of_zero_le q0
  have hkS : k ≤ S.length := by omega
  clear q0
  have hq : q = 0 ∨ q = 1 ∨ q = 2 ∨ q = 3 ∨ q = 4 := by omega
  have hsz : (⟨S.toArray⟩ : ByteArray).size = S.length := rfl
  rcases hq with rfl | rfl | rfl | rfl | rfl
  · by_cases hlt : k < S.length
    · have hki : (k : Int) < S.length := by omega
      have hk0 : (0 : Int) ≤ (k : Int) := by omega
      obtain ⟨j, hj⟩ : ∃ j, j = k + 1 := ⟨_, rfl⟩
      have hw : IntKind.i64.wrap ((k : Int) + 1) = (j : Int) := by rw [IntKind.wrap_i64]; omega
      have hj0 : (0 : Int) ≤ (j : Int) := by omega
      have hj1 : (j : Int) ≤ S.length := by omega
      replace hj : Hid (j = k + 1) := hj
      go_upto_region 5 with fail
      refine wp_region_held_drew (S := fun _ => True) (by kernel_rfl) trivial (fun hS => ?_)
      replace hr2 := hr2.drewN 1
      replace hx := bel_drewN hx 1
      change wpAnyH _ _ _ _ _ _ _ _ w2.drew
      change Rdr R w2.drew _ at hr2
      change Bel R w.heap.size w w2.drew at hx
      replace hR2 : R < w2.drew.heap.size := hR2
      generalize w2.drew = wd at *
      refine hTake (by kernel_rfl) (fun d _ _ _ _ h => by cases d <;> exact h) hS 0 (some 19) _ rfl (v := ?_) (by kernel_rfl) ?_ ?_
      rotate_left
      · intro _ _; go_simp; first | done | with_reducible rfl
      simp only [Act.put, List.setIfInBounds_toArray, List.set_cons_zero, List.set_cons_succ]
      refine hTake (by kernel_rfl) (fun d _ _ _ _ h => by cases d <;> exact h) hS 1 (some 20) _ rfl (v := ?_) (by kernel_rfl) ?_ ?_
      rotate_left
      · intro _ _; go_simp; first | done | with_reducible rfl
      simp only [Act.put, List.setIfInBounds_toArray, List.set_cons_zero, List.set_cons_succ]
      refine hTake (by kernel_rfl) (fun d _ _ _ _ h => by cases d <;> exact h) hS 2 (some 21) _ rfl (v := ?_) (by kernel_rfl) ?_ ?_
      rotate_left
      · intro _ _; go_simp; first | done | with_reducible rfl
      simp only [Act.put, List.setIfInBounds_toArray, List.set_cons_zero, List.set_cons_succ]
      refine hTake (by kernel_rfl) (fun d _ _ _ _ h => by cases d <;> exact h) hS 3 (some 22) _ rfl (v := ?_) (by kernel_rfl) ?_ ?_
      rotate_left
      · intro _ _; go_simp; first | done | with_reducible rfl
      simp only [Act.put, List.setIfInBounds_toArray, List.set_cons_zero, List.set_cons_succ]
      refine hTake (by kernel_rfl) (fun d _ _ _ _ h => by cases d <;> exact h) hS 7 (some 26) _ rfl (v := ?_) (by kernel_rfl) ?_ ?_
      rotate_left
      · intro _ _; go_simp; first | done | with_reducible rfl
      simp only [Act.put, List.setIfInBounds_toArray, List.set_cons_zero, List.set_cons_succ]
      refine hTake (by kernel_rfl) (fun d _ _ _ _ h => by cases d <;> exact h) hS 8 (some 27) _ rfl (v := ?_) (by kernel_rfl) ?_ ?_
      rotate_left
      · intro _ _; go_simp; first | done | with_reducible rfl
      simp only [Act.put, List.setIfInBounds_toArray, List.set_cons_zero, List.set_cons_succ]
      refine hTake (by kernel_rfl) (fun d _ _ _ _ h => by cases d <;> exact h) hS 9 (some 28) _ rfl (v := ?_) (by kernel_rfl) ?_ ?_
      rotate_left
      · intro _ _; go_simp; first | done | with_reducible rfl
      simp only [Act.put, List.setIfInBounds_toArray, List.set_cons_zero, List.set_cons_succ]
      refine hTake (by kernel_rfl) (fun d _ _ _ _ h => by cases d <;> exact h) hS 10 (some 29) _ rfl (v := ?_) (by kernel_rfl) ?_ ?_
      rotate_left
      · intro _ _; go_simp; first | done | with_reducible rfl
      simp only [Act.put, List.setIfInBounds_toArray, List.set_cons_zero, List.set_cons_succ]
      rw [HT.out, HE.out]
      obtain ⟨P, hP⟩ : ∃ P, P = S.take k := ⟨_, rfl⟩
      obtain ⟨D, hD⟩ : ∃ D, D = S.drop j := ⟨_, rfl⟩
      rw [← hP, ← hD]
      have hPl : P.length ≤ k := by rw [hP, List.length_take]; omega
      have hDl : D.length ≤ S.length - j := by rw [hD, List.length_drop]; exact Nat.le_refl _
      clear hP hD
      refine wpAnyH_ready (rs := [4]) (by kernel_rfl) (by simp) ?_
      refine AllReadyH.cons (o := _) rfl (fun K9 hK9 => ?_) AllReadyH.nil
      go_simp
      refine hK9.out _ _ trivial (fun hS => ?_)
      clear hK9 K9
      try simp only [Act.put, List.setIfInBounds_toArray, List.set_cons_zero, List.set_cons_succ]
      have kA := Keep.new wd (.cells (Ss ofA).toArray 9)
      replace hr2 := hr2.ext (Below.of_alloc wd (.cells (Ss ofA).toArray 9))
      replace hx := afterE hx (Below.of_alloc wd (.cells (Ss ofA).toArray 9)) (Nat.le_refl _)
      change wpAnyH _ _ _ _ _ _ _ _ (wd.alloc (.cells (Ss ofA).toArray 9))
      generalize wd.alloc (.cells (Ss ofA).toArray 9) = we at *
      have hgR : wd.heap.size ≠ R := by omega
      refine wpAnyH_ready (rs := [5]) (by kernel_rfl) (by simp) ?_
      refine AllReadyH.cons (o := _) rfl (fun K9 hK9 => ?_) AllReadyH.nil
      go_simp
      refine (of_any (l := ofA) _ hr2 (by omega) kA hgR (by decide) (by decide)).mono ?_
      rintro e w5 ⟨x, rfl, hxl, hr5, hx5⟩
      have hx9 := Lib.hid (afterR hx hx5 (Nat.le_refl _))
      have hx3 : x.length ≤ 3 := (show ∀ y ∈ ofA, y.length ≤ 3 by decide) x hxl
      unfold sv
      try go_wp2_with fail
      clear hxl hr5 hx5 hx kA hr2
      refine hK9.out _ _ trivial (fun hS => ?_)
      clear hK9 K9
      try simp only [Act.put, List.setIfInBounds_toArray, List.set_cons_zero, List.set_cons_succ]
      have hnb : ¬ 9223372036854775807 < P.length + x.length := by omega
      refine hTake (by kernel_rfl) (fun d _ _ _ _ h => by cases d <;> exact h) hS 6 (some 25) _ rfl (v := ?_) (by kernel_rfl) ?_ ?_
      rotate_left
      · intro _ _; go_simp; first | done | with_reducible rfl
      simp only [Act.put, List.setIfInBounds_toArray, List.set_cons_zero, List.set_cons_succ]
      rw [ba_append]
      have hPx : (P ++ x).length ≤ P.length + x.length := Nat.le_of_eq List.length_append
      generalize P ++ x = Px at *
      have hnc : ¬ 9223372036854775807 < Px.length + D.length := by omega
      refine hTake (by kernel_rfl) (fun d _ _ _ _ h => by cases d <;> exact h) hS 11 (some 30) _ rfl (v := ?_) (by kernel_rfl) ?_ ?_
      rotate_left
      · intro _ _; go_simp; first | done | with_reducible rfl
      simp only [Act.put, List.setIfInBounds_toArray, List.set_cons_zero, List.set_cons_succ]
      refine hTake (by kernel_rfl) (fun d _ _ _ _ h => by cases d <;> exact h) hS 12 (some 4) _ rfl (v := ?_) (by kernel_rfl) ?_ ?_
      rotate_left
      · intro _ _; go_simp; first | done | with_reducible rfl
      simp only [Act.put, List.setIfInBounds_toArray, List.set_cons_zero, List.set_cons_succ]
      refine wpAnyH_done (by kernel_rfl) ?_ _
      rw [ba_append]
      go_wp2
      go_ret
      exact ⟨_, rfl, by have := hj.out; rw [List.length_append]; omega, hx9.out⟩
    · have hki : ¬ (k : Int) < S.length := by omega
      go_wp2
      go_ret
      exact ⟨S, rfl, by omega, hx⟩
  · have hki : (k : Int) ≤ S.length := by omega
    have hk0 : (0 : Int) ≤ (k : Int) := by omega
    go_wp2
    go_ret
    exact ⟨S.take k, by first | (rw [HT.out]; rfl) | (rw [← HT.out]; rfl), by rw [List.length_take]; omega, hx⟩
  · go_wp2_with (fail)
    change Calls _ _ _ (w2.alloc (.cells (Ss ofB).toArray 9)) _
    have kB := Keep.new w2 (.cells (Ss ofB).toArray 9)
    replace hr2 := hr2.ext (Below.of_alloc w2 (.cells (Ss ofB).toArray 9))
    replace hx := afterE hx (Below.of_alloc w2 (.cells (Ss ofB).toArray 9)) (Nat.le_refl _)
    generalize w2.alloc (.cells (Ss ofB).toArray 9) = we at *
    generalize w2.heap.size = g at *
    refine (of_any (l := ofB) _ hr2 (by omega) kB (by omega) (by decide) (by decide)).mono ?_
    rintro e w5 ⟨x, rfl, hxl, hr5, hx5⟩
    have hx9 := Lib.hid (afterR hx hx5 (Nat.le_refl _))
    have hx3 : x.length ≤ 3 := (show ∀ y ∈ ofB, y.length ≤ 3 by decide) x hxl
    have HAP := Lib.hid (ba_append S x)
    unfold sv
    clear hxl hr5 hx5 hx kB hr2
    go_wp2
    go_ret
    exact ⟨S ++ x, by first | (rw [HAP.out]; rfl) | (rw [← HAP.out]; rfl), by rw [List.length_append]; omega, hx9.out⟩
  · go_wp2
    go_ret
    exact ⟨S, rfl, by omega, hx⟩
  · go_wp2
    go_ret
    exact ⟨S, rfl, by omega, hx⟩
theorem fmt_len {l : List Bx} (hl : l.length ≤ 16) : (fmtT l).length ≤ 30000 := by
  by_cases hE : fmtT l = []
  · rw [hE]
    exact Nat.zero_le _
  · obtain ⟨hval, m, hm, hS⟩ := fmt_ne hE
    have htl := text_len hval (m + 1) (by omega)
    rw [hS]
    omega
set_option maxRecDepth 100000 in
set_option maxHeartbeats 1600000 in
theorem DrawParseTree_any {v : Value} (w : World) (hv : RdBytes w v) :
    Calls Tryz.prog 15 #[v] w fun e w' => ∃ S, e = .returned (sv S) ∧ S.length ≤ 30010 ∧ Ext w w' := by
  go_enter Tryz.func15, Tryz.ntmps15
  go_wp2_with (fail)
  refine (newReader_any _ hv).mono ?_
  rintro e w1 ⟨rfl, hr1, hx1⟩
  go_wp2_with (fail)
  refine (anyTree_any _ hr1 (by omega)).mono ?_
  rintro e w2 ⟨v2, rfl, l, hl, ho2, hr2, hx2⟩
  have hx := afterR (bel_of hx1) hx2 (Nat.le_refl _)
  clear hr1 hx1 hx2
  go_wp2_with (fail)
  refine (sFormatTree_any (l := l) _ ho2.rd (by omega)).mono ?_
  rintro e w3 ⟨rfl, hx3⟩
  have hfl := fmt_len hl
  replace hr2 := hr2.ext hx3
  replace hx := afterE hx hx3 (Nat.le_refl _)
  clear ho2 hx3
  unfold sv
  generalize fmtT l = S at *
  go_wp2_with (fail)
  refine (pick_any 3 _ hr2 (by omega)).mono ?_
  rintro e w4 ⟨q, rfl, ⟨q0, q1⟩, hr4, hx4⟩
  replace hx := afterR hx hx4 (Nat.le_refl _)
  clear hr2 hx4
  by_cases hq : q = 0
  · subst hq
    go_wp2_with (fail)
    refine (mutate_any S _ hr4 (by omega) (by omega)).mono ?_
    rintro e w5 ⟨S', rfl, hS', hx5⟩
    replace hx := afterR hx hx5 (Nat.le_refl _)
    unfold sv
    clear hr4 hx5
    go_wp2
    go_ret
    exact ⟨S', rfl, by omega, below_of_bel hx (Nat.le_refl _)⟩
  · have hqb : (q == 0) = false := beq_eq_false_iff_ne.2 hq
    clear hr4
    go_wp2
    go_ret
    exact ⟨S, rfl, by omega, below_of_bel hx (Nat.le_refl _)⟩
end Go.Proofs.YtdlggpphfkjidaaGreatDoor
