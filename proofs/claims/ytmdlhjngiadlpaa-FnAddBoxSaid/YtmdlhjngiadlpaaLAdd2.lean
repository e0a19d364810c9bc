/-
  The laws FnAddBox and FnAddBoxSize: the walks.
-/
import Derived.Test.YtmdlhjngiadlpaaLAdd
import Derived.Test.YtmdlhjngiadlpaaRem
import Derived.Test.YtmdlhjngiadlpaaTree2
import Derived.Test.YtmdlhjngiadlpaaInts
import Derived.Test.YtmdlhjngiadlpaaLStyA
namespace Go.Proofs.Ytmdlhjngiadlpaa
open Go Go.RowKit


set_option maxRecDepth 100000 in
set_option maxHeartbeats 4000000 in
theorem FnAddBox_any {v : Value} (w : World) (hv : RdBytes w v) :
    Calls Try.prog 11 #[v] w fun e w' => e = .returned (.bool true) ∧ Ext w w' := by
  have hv2 := hv
  obtain ⟨ad, n, c, rfl, hn, hc, _⟩ := hv
  unfold maxLen at hc
  by_cases hlen : 1048576 < n
  · have hlen' : (1048576 : Int) < n := by omega
    go_enter Try.func11, Try.ntmps11
    go_wp2
    go_ret
    exact ⟨rfl, Below.refl _ _⟩
  · have hlen' : ¬ ((1048576 : Int) < n) := by omega
    go_enter Try.func11, Try.ntmps11
    go_wp2_with (fail)
    refine (DrawAddBox_any _ hv2).mono ?_
    rintro e w1 ⟨v1, i, x, rfl, l, hl, hi0, hi1, ho1, hb⟩
    have hrT := ho1.rd.alloc (.cells x.arr 25)
    have hs1 := hb.size
    replace hb := hb.alloc hs1 (.cells x.arr 25)
    have hK := Keep.new w1 (.cells x.arr 25)
    unfold Bx.agg
    clear ho1 hv2
    go_wp2_with (fail)
    change Calls _ _ #[v1, .int .i64 i, x.agg] (w1.alloc (.cells x.arr 25)) _
    generalize hW1 : w1.alloc (.cells x.arr 25) = W1 at *
    generalize w1.heap.size = B at *
    clear hW1
    refine (AddBox_any (l := l) i x _ hrT).mono ?_
    rintro e w2 ⟨v2, rfl, ho2, hx⟩
    replace hb := after hb hx (Nat.le_refl _)
    replace hrT := hrT.below hx (Nat.le_refl _)
    replace hK := keepE hK hx
    have hrO := ho2.rd
    clear ho2 hx
    obtain ⟨d0, d1, d2, d3, d4, d5, d6, d7, d8⟩ := hK.c9
    go_wp2_with (fail)
    change Calls _ _ #[v1, .int .i64 i, x.agg] w2 _
    clear d0 d1 d2 d3 d4 d5 d6 d7 d8
    refine (sAddBox_any (l := l) i x _ hrT (by omega)).mono ?_
    rintro e w3 ⟨v3, rfl, ho3, hx⟩
    replace hb := after hb hx (Nat.le_refl _)
    replace hrT := hrT.below hx (Nat.le_refl _)
    replace hrO := hrO.below hx (Nat.le_refl _)
    replace hK := keepE hK hx
    have hrW := ho3.rd
    clear ho3 hx
    by_cases hok : addOk l i x = true
    ·
      obtain ⟨hB, hvo⟩ := addOk_in hok
      obtain ⟨hval, h0, hil⟩ := inB_iff.1 hB
      obtain ⟨i, rfl⟩ := Int.eq_ofNat_of_zero_le h0
      have hin : i < l.length := by omega
      rw [hok, orNo_t, Int.toNat_natCast] at hrO hrW
      rw [hok]
      rw [Int.toNat_natCast] at hvo
      have HV := Lib.hid hval
      have HB := Lib.hid hB
      have HVO := Lib.hid (vldB_iff.1 hvo)
      have HLO := Lib.hid (addL_length hin x)
      have hlO1 : (addL l i x).length ≤ l.length + 1 := Nat.le_of_eq HLO.out
      have hlO2 : l.length + 1 ≤ (addL l i x).length := Nat.le_of_eq HLO.out.symm
      have hcl := cntS_le l i
      have hpos := cntS_pos hval hin
      clear hval hB hvo hok
      have HE : Hid (remL (addL l i x) (i + cntS l i) = l) := add_rem HV.out hin HVO.out
      have HN : Hid (bx (addL l i x) (i + cntS l i) = x.at i) := addL_new hin
      have HBO : Hid (inB (addL l i x) (i : Int) = true) := inB_iff.2 ⟨HVO.out, by omega, by omega⟩
      obtain ⟨p, hp⟩ : ∃ p, p = i + cntS l i := ⟨_, rfl⟩
      rw [← hp] at HE HN
      have hpl : p < (addL l i x).length := by omega
      have HRB : Hid (remB (addL l i x) (p : Int) = true) := remB_iff.2 ⟨HVO.out, by omega, by omega⟩
      obtain ⟨L, hL, n0, hn0, hLg⟩ : ∃ L : List Int, ni (kidsL (addL l i x) (i : Int)) = L ∧ ∃ n0, L.length = n0 + 1 ∧ L[n0]? = some (p : Int) := by
        refine ⟨_, rfl, (kid l (i : Int)).length, ?_, ?_⟩
        · unfold kidsL
          rw [if_pos HBO.out, add_kidA HV.out hin, ni_length, List.length_append]
          rfl
        · unfold kidsL
          rw [if_pos HBO.out, add_kidA HV.out hin, ni_append, List.getElem?_append_right (by rw [ni_length]; omega), ni_length, Nat.sub_self, ← hp]
          rfl
      have hpl' : (p : Int) < (addL l i x).length := by omega
      have hp0 : (0 : Int) ≤ (p : Int) := by omega
      obtain ⟨bO, offO, cO, rfl, hnO, hcO⟩ := rd_addr hpl hrO
      have HVB := Lib.hid (vldB_iff.2 HVO.out)
      clear hp
      go_wp2_with (fail)
      refine ((equalBoxes_any (l := addL l i x) _ hrO hrW)).mono ?_
      rintro e w4 ⟨rfl, hx⟩
      replace hb := after hb hx (Nat.le_refl _)
      replace hrT := hrT.below hx (Nat.le_refl _)
      replace hrO := hrO.below hx (Nat.le_refl _)
      replace hK := keepE hK hx
      clear hx
      clear hrW
      go_wp2_with (fail)
      refine ((KidsOf_any (l := addL l i x) (i : Int) _ hrO)).mono ?_
      rintro e w5 ⟨v5, rfl, ho5, hx⟩
      replace hb := after hb hx (Nat.le_refl _)
      replace hrT := hrT.below hx (Nat.le_refl _)
      replace hrO := hrO.below hx (Nat.le_refl _)
      replace hK := keepE hK hx
      clear hx
      rw [hL] at ho5
      obtain ⟨a5, c5, rfl, hn5, hc5⟩ := ho5.rd.len
      have hrL := ho5.rd
      obtain ⟨a5', c5', e5, _, _, hcell⟩ := hrL.ints
      rw [hn0] at e5
      cases e5
      obtain ⟨b5, off5, rfl, hcc⟩ := hcell n0 _ hLg
      have ck := hcc n0 _ hLg
      have hc5' : c5 ≤ maxLen := hc5
      unfold maxLen at hc5'
      clear ho5 hrL hcell hcc hLg hL
      rw [hn0] at hn5
      rw [hn0]
      clear hn0
      go_wp2_with (fail)
      refine (RemoveBox_any (l := addL l i x) (p : Int) _ hrO).mono ?_
      rintro e w6 ⟨v6, rfl, ho6, hx⟩
      rw [HRB.out, orNo_t, Int.toNat_natCast, HE.out] at ho6
      rw [HRB.out]
      have hrB := ho6.rd
      replace hb := after hb hx (Nat.le_refl _)
      replace hrT := hrT.below hx (Nat.le_refl _)
      replace hrO := hrO.below hx (Nat.le_refl _)
      replace hK := keepE hK hx
      have hcells := cells_at hpl hrO
      rw [HN.out] at hcells
      have g0 : w6.cell? ⟨bO, offO + p * 9, none⟩ = some (.int .i64 (i : Int)) := hcells.c0
      have g1 : w6.cell? ⟨bO, offO + p * 9 + 1, none⟩ = some (.int .i64 x.kind) := hcells.c1
      have k1 : w6.cell? ⟨B, 1, none⟩ = some (.int .i64 x.kind) := hK.cell 1
      clear ho6 hx ck hcells
      go_upto_region 13 with fail
      refine wp_region_held_drew (S := fun w' => Below w6.heap.size w6 w') (by kernel_rfl) (Below.refl _ _).drew (fun hS => ?_)
      refine hTake (by kernel_rfl) (fun d _ _ _ _ h => by cases d <;> exact h) hS 0 (some 76) _ rfl (v := ?_) (by kernel_rfl) ?_ ?_
      rotate_left
      · intro _ _; go_simp; first | done | with_reducible rfl
      simp only [Act.put, List.setIfInBounds_toArray, List.set_cons_zero, List.set_cons_succ]
      refine hTake (by kernel_rfl) (fun d _ _ _ _ h => by cases d <;> exact h) hS 1 (some 77) _ rfl (v := ?_) (by kernel_rfl) ?_ ?_
      rotate_left
      · intro _ _; go_simp; first | done | with_reducible rfl
      simp only [Act.put, List.setIfInBounds_toArray, List.set_cons_zero, List.set_cons_succ]
      refine hTake (by kernel_rfl) (fun d _ _ _ _ h => by cases d <;> exact h) hS 2 (some 78) _ rfl (v := ?_) (by kernel_rfl) ?_ ?_
      rotate_left
      · intro _ _; go_simp; first | done | with_reducible rfl
      simp only [Act.put, List.setIfInBounds_toArray, List.set_cons_zero, List.set_cons_succ]
      refine hTake (by kernel_rfl) (fun d _ _ _ _ h => by cases d <;> exact h) hS 3 (some 79) _ rfl (v := ?_) (by kernel_rfl) ?_ ?_
      rotate_left
      · intro _ _; go_simp; first | done | with_reducible rfl
      simp only [Act.put, List.setIfInBounds_toArray, List.set_cons_zero, List.set_cons_succ]
      refine hTake (by kernel_rfl) (fun d _ _ _ _ h => by cases d <;> exact h) hS 4 (some 80) _ rfl (v := ?_) (by kernel_rfl) ?_ ?_
      rotate_left
      · intro _ _; go_simp; first | done | with_reducible rfl
      simp only [Act.put, List.setIfInBounds_toArray, List.set_cons_zero, List.set_cons_succ]
      refine hTake (by kernel_rfl) (fun d _ _ _ _ h => by cases d <;> exact h) hS 5 (some 81) _ rfl (v := ?_) (by kernel_rfl) ?_ ?_
      rotate_left
      · intro _ _; go_simp; first | done | with_reducible rfl
      simp only [Act.put, List.setIfInBounds_toArray, List.set_cons_zero, List.set_cons_succ]
      refine hTake (by kernel_rfl) (fun d _ _ _ _ h => by cases d <;> exact h) hS 6 (some 82) _ rfl (v := ?_) (by kernel_rfl) ?_ ?_
      rotate_left
      · intro _ _; go_simp; first | done | with_reducible rfl
      simp only [Act.put, List.setIfInBounds_toArray, List.set_cons_zero, List.set_cons_succ]
      refine hTake (by kernel_rfl) (fun d _ _ _ _ h => by cases d <;> exact h) hS 7 (some 83) _ rfl (v := ?_) (by kernel_rfl) ?_ ?_
      rotate_left
      · intro _ _; go_simp; first | done | with_reducible rfl
      simp only [Act.put, List.setIfInBounds_toArray, List.set_cons_zero, List.set_cons_succ]
      refine hTake (by kernel_rfl) (fun d _ _ _ _ h => by cases d <;> exact h) hS 8 (some 84) _ rfl (v := ?_) (by kernel_rfl) ?_ ?_
      rotate_left
      · intro _ _; go_simp; first | done | with_reducible rfl
      simp only [Act.put, List.setIfInBounds_toArray, List.set_cons_zero, List.set_cons_succ]
      refine hTake (by kernel_rfl) (fun d _ _ _ _ h => by cases d <;> exact h) hS 9 (some 85) _ rfl (v := ?_) (by kernel_rfl) ?_ ?_
      rotate_left
      · intro w9 hS9; have q := cell_below hS9 g1; go_simp; first | done | with_reducible rfl
      simp only [Act.put, List.setIfInBounds_toArray, List.set_cons_zero, List.set_cons_succ]
      refine hTake (by kernel_rfl) (fun d _ _ _ _ h => by cases d <;> exact h) hS 10 (some 86) _ rfl (v := ?_) (by kernel_rfl) ?_ ?_
      rotate_left
      · intro _ _; go_simp; first | done | with_reducible rfl
      simp only [Act.put, List.setIfInBounds_toArray, List.set_cons_zero, List.set_cons_succ]
      refine hTake (by kernel_rfl) (fun d _ _ _ _ h => by cases d <;> exact h) hS 11 (some 87) _ rfl (v := ?_) (by kernel_rfl) ?_ ?_
      rotate_left
      · intro w9 hS9; have q := cell_below hS9 k1; go_simp; first | done | with_reducible rfl
      simp only [Act.put, List.setIfInBounds_toArray, List.set_cons_zero, List.set_cons_succ]
      refine hTake (by kernel_rfl) (fun d _ _ _ _ h => by cases d <;> exact h) hS 12 (some 88) _ rfl (v := ?_) (by kernel_rfl) ?_ ?_
      rotate_left
      · intro _ _; go_simp; first | done | with_reducible rfl
      simp only [Act.put, List.setIfInBounds_toArray, List.set_cons_zero, List.set_cons_succ]
      refine hTake (by kernel_rfl) (fun d _ _ _ _ h => by cases d <;> exact h) hS 13 (some 89) _ rfl (v := ?_) (by kernel_rfl) ?_ ?_
      rotate_left
      · intro _ _; go_simp; first | done | with_reducible rfl
      simp only [Act.put, List.setIfInBounds_toArray, List.set_cons_zero, List.set_cons_succ]
      refine hTake (by kernel_rfl) (fun d _ _ _ _ h => by cases d <;> exact h) hS 14 (some 90) _ rfl (v := ?_) (by kernel_rfl) ?_ ?_
      rotate_left
      · intro _ _; go_simp; first | done | with_reducible rfl
      simp only [Act.put, List.setIfInBounds_toArray, List.set_cons_zero, List.set_cons_succ]
      refine hTake (by kernel_rfl) (fun d _ _ _ _ h => by cases d <;> exact h) hS 15 (some 91) _ rfl (v := ?_) (by kernel_rfl) ?_ ?_
      rotate_left
      · intro _ _; go_simp; first | done | with_reducible rfl
      simp only [Act.put, List.setIfInBounds_toArray, List.set_cons_zero, List.set_cons_succ]
      refine hTake (by kernel_rfl) (fun d _ _ _ _ h => by cases d <;> exact h) hS 16 (some 92) _ rfl (v := ?_) (by kernel_rfl) ?_ ?_
      rotate_left
      · intro _ _; go_simp; first | done | with_reducible rfl
      simp only [Act.put, List.setIfInBounds_toArray, List.set_cons_zero, List.set_cons_succ]
      refine hTake (by kernel_rfl) (fun d _ _ _ _ h => by cases d <;> exact h) hS 17 (some 93) _ rfl (v := ?_) (by kernel_rfl) ?_ ?_
      rotate_left
      · intro _ _; go_simp; first | done | with_reducible rfl
      simp only [Act.put, List.setIfInBounds_toArray, List.set_cons_zero, List.set_cons_succ]
      refine hTake (by kernel_rfl) (fun d _ _ _ _ h => by cases d <;> exact h) hS 18 (some 94) _ rfl (v := ?_) (by kernel_rfl) ?_ ?_
      rotate_left
      · intro _ _; go_simp; first | done | with_reducible rfl
      simp only [Act.put, List.setIfInBounds_toArray, List.set_cons_zero, List.set_cons_succ]
      refine hTake (by kernel_rfl) (fun d _ _ _ _ h => by cases d <;> exact h) hS 19 (some 95) _ rfl (v := ?_) (by kernel_rfl) ?_ ?_
      rotate_left
      · intro w9 hS9; have q := cell_below hS9 g0; go_simp; first | done | with_reducible rfl
      simp only [Act.put, List.setIfInBounds_toArray, List.set_cons_zero, List.set_cons_succ]
      refine hTake (by kernel_rfl) (fun d _ _ _ _ h => by cases d <;> exact h) hS 20 (some 96) _ rfl (v := ?_) (by kernel_rfl) ?_ ?_
      rotate_left
      · intro _ _; go_simp; first | done | with_reducible rfl
      simp only [Act.put, List.setIfInBounds_toArray, List.set_cons_zero, List.set_cons_succ]
      refine hTake (by kernel_rfl) (fun d _ _ _ _ h => by cases d <;> exact h) hS 21 (some 97) _ rfl (v := ?_) (by kernel_rfl) ?_ ?_
      rotate_left
      · intro _ _; go_simp; first | done | with_reducible rfl
      simp only [Act.put, List.setIfInBounds_toArray, List.set_cons_zero, List.set_cons_succ]
      refine hTake (by kernel_rfl) (fun d _ _ _ _ h => by cases d <;> exact h) hS 22 (some 98) _ rfl (v := ?_) (by kernel_rfl) ?_ ?_
      rotate_left
      · intro _ _; go_simp; first | done | with_reducible rfl
      simp only [Act.put, List.setIfInBounds_toArray, List.set_cons_zero, List.set_cons_succ]
      refine hTake (by kernel_rfl) (fun d _ _ _ _ h => by cases d <;> exact h) hS 23 (some 99) _ rfl (v := ?_) (by kernel_rfl) ?_ ?_
      rotate_left
      · intro _ _; go_simp; first | done | with_reducible rfl
      simp only [Act.put, List.setIfInBounds_toArray, List.set_cons_zero, List.set_cons_succ]
      refine hTake (by kernel_rfl) (fun d _ _ _ _ h => by cases d <;> exact h) hS 24 (some 100) _ rfl (v := ?_) (by kernel_rfl) ?_ ?_
      rotate_left
      · intro _ _; go_simp; first | done | with_reducible rfl
      simp only [Act.put, List.setIfInBounds_toArray, List.set_cons_zero, List.set_cons_succ]
      refine hTake (by kernel_rfl) (fun d _ _ _ _ h => by cases d <;> exact h) hS 25 (some 101) _ rfl (v := ?_) (by kernel_rfl) ?_ ?_
      rotate_left
      · intro _ _; go_simp; first | done | with_reducible rfl
      simp only [Act.put, List.setIfInBounds_toArray, List.set_cons_zero, List.set_cons_succ]
      refine hTake (by kernel_rfl) (fun d _ _ _ _ h => by cases d <;> exact h) hS 26 (some 102) _ rfl (v := ?_) (by kernel_rfl) ?_ ?_
      rotate_left
      · intro _ _; go_simp; first | done | with_reducible rfl
      simp only [Act.put, List.setIfInBounds_toArray, List.set_cons_zero, List.set_cons_succ]
      refine hTake (by kernel_rfl) (fun d _ _ _ _ h => by cases d <;> exact h) hS 27 (some 103) _ rfl (v := ?_) (by kernel_rfl) ?_ ?_
      rotate_left
      · intro _ _; go_simp; first | done | with_reducible rfl
      simp only [Act.put, List.setIfInBounds_toArray, List.set_cons_zero, List.set_cons_succ]
      refine hTake (by kernel_rfl) (fun d _ _ _ _ h => by cases d <;> exact h) hS 28 (some 104) _ rfl (v := ?_) (by kernel_rfl) ?_ ?_
      rotate_left
      · intro _ _; go_simp; first | done | with_reducible rfl
      simp only [Act.put, List.setIfInBounds_toArray, List.set_cons_zero, List.set_cons_succ]
      refine wpAnyH_ready (rs := [29]) (by kernel_rfl) (by simp) ?_
      refine AllReadyH.cons (o := _) rfl (fun K9 hK9 => ?_) AllReadyH.nil
      go_simp
      refine (equalBoxes_any (l := l) _ (hrB.below hS (Nat.le_refl _)) (hrT.below hS (Nat.le_refl _))).mono ?_
      rintro e w7 ⟨rfl, hx⟩
      try go_wp2_with fail
      refine hK9.out _ _ (after hS hx (Nat.le_refl _)) (fun hS => ?_)
      clear hK9 K9
      try simp only [Act.put, List.setIfInBounds_toArray, List.set_cons_zero, List.set_cons_succ]
      clear hx
      refine hTake (by kernel_rfl) (fun d _ _ _ _ h => by cases d <;> exact h) hS 30 (some 106) _ rfl (v := ?_) (by kernel_rfl) ?_ ?_
      rotate_left
      · intro _ _; go_simp; first | done | with_reducible rfl
      simp only [Act.put, List.setIfInBounds_toArray, List.set_cons_zero, List.set_cons_succ]
      refine hTake (by kernel_rfl) (fun d _ _ _ _ h => by cases d <;> exact h) hS 31 (some 107) _ rfl (v := ?_) (by kernel_rfl) ?_ ?_
      rotate_left
      · intro _ _; go_simp; first | done | with_reducible rfl
      simp only [Act.put, List.setIfInBounds_toArray, List.set_cons_zero, List.set_cons_succ]
      refine hTake (by kernel_rfl) (fun d _ _ _ _ h => by cases d <;> exact h) hS 32 (some 108) _ rfl (v := ?_) (by kernel_rfl) ?_ ?_
      rotate_left
      · intro _ _; go_simp; first | done | with_reducible rfl
      simp only [Act.put, List.setIfInBounds_toArray, List.set_cons_zero, List.set_cons_succ]
      refine wpAnyH_ready (rs := [33]) (by kernel_rfl) (by simp) ?_
      refine AllReadyH.cons (o := _) rfl (fun K9 hK9 => ?_) AllReadyH.nil
      go_simp
      refine (ValidTree_any (l := addL l i x) _ (hrO.below hS (Nat.le_refl _))).mono ?_
      rintro e w8 ⟨he, hx⟩
      rw [HVB.out] at he
      subst he
      try go_wp2_with fail
      refine hK9.out _ _ (after hS hx (Nat.le_refl _)) (fun hS => ?_)
      clear hK9 K9
      try simp only [Act.put, List.setIfInBounds_toArray, List.set_cons_zero, List.set_cons_succ]
      clear hx
      refine hTake (by kernel_rfl) (fun d _ _ _ _ h => by cases d <;> exact h) hS 34 (some 110) _ rfl (v := ?_) (by kernel_rfl) ?_ ?_
      rotate_left
      · intro _ _; go_simp; first | done | with_reducible rfl
      simp only [Act.put, List.setIfInBounds_toArray, List.set_cons_zero, List.set_cons_succ]
      refine wpAnyH_ready (rs := [35]) (by kernel_rfl) (by simp) ?_
      refine AllReadyH.cons (o := _) rfl (fun K9 hK9 => ?_) AllReadyH.nil
      go_simp
      refine hK9.out _ _ hS (fun hS => ?_)
      clear hK9 K9
      try simp only [Act.put, List.setIfInBounds_toArray, List.set_cons_zero, List.set_cons_succ]
      refine wpAnyH_done (by kernel_rfl) ?_ _
      replace hb := after hb hS (Nat.le_refl _)
      clear hS g0 g1 k1
      go_wp2
      go_ret
      exact ⟨rfl, hb⟩
    · have hok' : addOk l i x = false := by simpa using hok
      rw [hok', orNo_f] at hrO hrW
      rw [hok']
      clear hok
      go_wp2_with (fail)
      refine (equalBoxes_any (l := []) _ hrO hrW).mono ?_
      rintro e w4 ⟨rfl, hx⟩
      replace hb := after hb hx (Nat.le_refl _)
      replace hrO := hrO.below hx (Nat.le_refl _)
      replace hrW := hrW.below hx (Nat.le_refl _)
      clear hx
      go_wp2_with (fail)
      refine (equalBoxes_any (l := []) _ hrO hrW).mono ?_
      rintro e w5 ⟨rfl, hx⟩
      replace hb := after hb hx (Nat.le_refl _)
      go_wp2
      go_ret
      exact ⟨rfl, hb⟩
end Go.Proofs.Ytmdlhjngiadlpaa
