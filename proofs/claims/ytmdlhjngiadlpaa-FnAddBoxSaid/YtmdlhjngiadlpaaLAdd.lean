/-
  The laws FnAddBoxLeaf, FnAddBoxCount, FnAddBox, FnAddBoxSize: the walks.
-/
import Derived.Test.YtmdlhjngiadlpaaAdd
import Derived.Test.YtmdlhjngiadlpaaTree2
import Derived.Test.YtmdlhjngiadlpaaInts
import Derived.Test.YtmdlhjngiadlpaaLStyA
namespace Go.Proofs.Ytmdlhjngiadlpaa
open Go Go.RowKit

theorem addOk_in {l : List Bx} {i : Int} {x : Bx} (h : addOk l i x = true) : inB l i = true ∧ vldB (addL l i.toNat x) = true := by
  unfold addOk at h
  simpa [Bool.and_eq_true] using h

set_option maxRecDepth 100000 in
set_option maxHeartbeats 4000000 in
theorem FnAddBoxLeaf_any {v : Value} (w : World) (hv : RdBytes w v) :
    Calls Try.prog 10 #[v] w fun e w' => e = .returned (.bool true) ∧ Ext w w' := by
  have hv2 := hv
  obtain ⟨ad, n, c, rfl, hn, hc, _⟩ := hv
  unfold maxLen at hc
  by_cases hlen : 1048576 < n
  · have hlen' : (1048576 : Int) < n := by omega
    go_enter Try.func10, Try.ntmps10
    go_wp2
    go_ret
    exact ⟨rfl, Below.refl _ _⟩
  · have hlen' : ¬ ((1048576 : Int) < n) := by omega
    go_enter Try.func10, Try.ntmps10
    go_wp2_with (fail)
    refine (DrawAddBox_any _ hv2).mono ?_
    rintro e w1 ⟨v1, i, x, rfl, l, hl, hi0, hi1, ho1, hb⟩
    have hrT := ho1.rd.alloc (.cells x.arr 25)
    have hs1 := hb.size
    replace hb := hb.alloc hs1 (.cells x.arr 25)
    have hK := Keep.new w1 (.cells x.arr 25)
    unfold Bx.agg
    clear ho1 hv2
    go_wp2_with (fail)
    change Calls _ _ #[v1, .int .i64 i, x.agg] (w1.alloc (.cells x.arr 25)) _
    generalize hW1 : w1.alloc (.cells x.arr 25) = W1 at *
    generalize w1.heap.size = B at *
    clear hW1
    refine (AddBox_any (l := l) i x _ hrT).mono ?_
    rintro e w2 ⟨v2, rfl, ho2, hx⟩
    replace hb := after hb hx (Nat.le_refl _)
    replace hrT := hrT.below hx (Nat.le_refl _)
    replace hK := keepE hK hx
    have hrO := ho2.rd
    clear ho2 hx
    obtain ⟨d0, d1, d2, d3, d4, d5, d6, d7, d8⟩ := hK.c9
    go_wp2_with (fail)
    change Calls _ _ #[v1, .int .i64 i, x.agg] w2 _
    clear d0 d1 d2 d3 d4 d5 d6 d7 d8
    refine (sAddBox_any (l := l) i x _ hrT (by omega)).mono ?_
    rintro e w3 ⟨v3, rfl, ho3, hx⟩
    replace hb := after hb hx (Nat.le_refl _)
    replace hrT := hrT.below hx (Nat.le_refl _)
    replace hrO := hrO.below hx (Nat.le_refl _)
    replace hK := keepE hK hx
    have hrW := ho3.rd
    clear ho3 hx
    by_cases hok : addOk l i x = true
    ·
      obtain ⟨hB, hvo⟩ := addOk_in hok
      obtain ⟨hval, h0, hil⟩ := inB_iff.1 hB
      obtain ⟨i, rfl⟩ := Int.eq_ofNat_of_zero_le h0
      have hin : i < l.length := by omega
      rw [hok, orNo_t, Int.toNat_natCast] at hrO hrW
      rw [hok]
      rw [Int.toNat_natCast] at hvo
      have HV := Lib.hid hval
      have HB := Lib.hid hB
      have HVO := Lib.hid (vldB_iff.1 hvo)
      have HLO := Lib.hid (addL_length hin x)
      have hlO1 : (addL l i x).length ≤ l.length + 1 := Nat.le_of_eq HLO.out
      have hlO2 : l.length + 1 ≤ (addL l i x).length := Nat.le_of_eq HLO.out.symm
      have hcl := cntS_le l i
      have hpos := cntS_pos hval hin
      clear hval hB hvo hok
      obtain ⟨r1, r2, r3⟩ := add_room HV.out hin HVO.out
      have hk' : ((bx l i).kind != 0) = true := by simp [r1]
      have hkl : Hid (kidsL l (i : Int) = kid l (i : Int)) := by
        show _ = _
        unfold kidsL
        rw [if_pos HB.out]
      have hdp : Hid (depI l (i : Int) < 5) := by
        show _ < _
        unfold depI
        rw [if_pos HB.out, Int.toNat_natCast]
        omega
      have hll : l.length ≤ 16 := hl
      obtain ⟨b, off, c, rfl, hn3, hc3⟩ := rd_addr hin hrT
      go_wp2_with (fail)
      refine ((equalBoxes_any (l := addL l i x) _ hrO hrW)).mono ?_
      rintro e w4 ⟨rfl, hx⟩
      replace hb := after hb hx (Nat.le_refl _)
      replace hrT := hrT.below hx (Nat.le_refl _)
      clear hx
      have g1 := (cells_at hin hrT).c1
      clear hrO hrW r1 r3
      go_wp2_with (fail)
      refine ((KidsOf_any (l := l) (i : Int) _ hrT)).mono ?_
      rintro e w5 ⟨v5, rfl, ho5, hx⟩
      replace hb := after hb hx (Nat.le_refl _)
      replace hrT := hrT.below hx (Nat.le_refl _)
      clear hx
      rw [hkl.out] at ho5
      obtain ⟨a5, c5, rfl, hn5, hc5⟩ := ho5.rd.len
      have hc5' : c5 ≤ maxLen := hc5
      unfold maxLen at hc5'
      have hK8 : (ni (kid l (i : Int))).length < 8 := by rw [ni_length]; exact r2
      clear ho5 g1 r2
      generalize (ni (kid l (i : Int))).length = N at *
      have hdl := hdp.out
      go_wp2_with (fail)
      refine ((DepthOf_any (l := l) (i : Int) _ hrT)).mono ?_
      rintro e w6 ⟨rfl, hx⟩
      replace hb := after hb hx (Nat.le_refl _)
      clear hx
      generalize depI l (i : Int) = D at *
      go_wp2
      go_ret
      exact ⟨by simp, hb⟩
    · have hok' : addOk l i x = false := by simpa using hok
      rw [hok', orNo_f] at hrO hrW
      rw [hok']
      clear hok
      go_wp2_with (fail)
      refine (equalBoxes_any (l := []) _ hrO hrW).mono ?_
      rintro e w4 ⟨rfl, hx⟩
      replace hb := after hb hx (Nat.le_refl _)
      replace hrO := hrO.below hx (Nat.le_refl _)
      replace hrW := hrW.below hx (Nat.le_refl _)
      clear hx
      go_wp2_with (fail)
      refine (equalBoxes_any (l := []) _ hrO hrW).mono ?_
      rintro e w5 ⟨rfl, hx⟩
      replace hb := after hb hx (Nat.le_refl _)
      go_wp2
      go_ret
      exact ⟨rfl, hb⟩
set_option maxRecDepth 100000 in
set_option maxHeartbeats 4000000 in
theorem FnAddBoxCount_any {v : Value} (w : World) (hv : RdBytes w v) :
    Calls Try.prog 9 #[v] w fun e w' => e = .returned (.bool true) ∧ Ext w w' := by
  have hv2 := hv
  obtain ⟨ad, n, c, rfl, hn, hc, _⟩ := hv
  unfold maxLen at hc
  by_cases hlen : 1048576 < n
  · have hlen' : (1048576 : Int) < n := by omega
    go_enter Try.func9, Try.ntmps9
    go_wp2
    go_ret
    exact ⟨rfl, Below.refl _ _⟩
  · have hlen' : ¬ ((1048576 : Int) < n) := by omega
    go_enter Try.func9, Try.ntmps9
    go_wp2_with (fail)
    refine (DrawAddBox_any _ hv2).mono ?_
    rintro e w1 ⟨v1, i, x, rfl, l, hl, hi0, hi1, ho1, hb⟩
    have hrT := ho1.rd.alloc (.cells x.arr 25)
    have hs1 := hb.size
    replace hb := hb.alloc hs1 (.cells x.arr 25)
    have hK := Keep.new w1 (.cells x.arr 25)
    unfold Bx.agg
    clear ho1 hv2
    go_wp2_with (fail)
    change Calls _ _ #[v1, .int .i64 i, x.agg] (w1.alloc (.cells x.arr 25)) _
    generalize hW1 : w1.alloc (.cells x.arr 25) = W1 at *
    generalize w1.heap.size = B at *
    clear hW1
    refine (AddBox_any (l := l) i x _ hrT).mono ?_
    rintro e w2 ⟨v2, rfl, ho2, hx⟩
    replace hb := after hb hx (Nat.le_refl _)
    replace hrT := hrT.below hx (Nat.le_refl _)
    replace hK := keepE hK hx
    have hrO := ho2.rd
    clear ho2 hx
    obtain ⟨d0, d1, d2, d3, d4, d5, d6, d7, d8⟩ := hK.c9
    go_wp2_with (fail)
    change Calls _ _ #[v1, .int .i64 i, x.agg] w2 _
    clear d0 d1 d2 d3 d4 d5 d6 d7 d8
    refine (sAddBox_any (l := l) i x _ hrT (by omega)).mono ?_
    rintro e w3 ⟨v3, rfl, ho3, hx⟩
    replace hb := after hb hx (Nat.le_refl _)
    replace hrT := hrT.below hx (Nat.le_refl _)
    replace hrO := hrO.below hx (Nat.le_refl _)
    replace hK := keepE hK hx
    have hrW := ho3.rd
    clear ho3 hx
    by_cases hok : addOk l i x = true
    ·
      obtain ⟨hB, hvo⟩ := addOk_in hok
      obtain ⟨hval, h0, hil⟩ := inB_iff.1 hB
      obtain ⟨i, rfl⟩ := Int.eq_ofNat_of_zero_le h0
      have hin : i < l.length := by omega
      rw [hok, orNo_t, Int.toNat_natCast] at hrO hrW
      rw [hok]
      rw [Int.toNat_natCast] at hvo
      have HV := Lib.hid hval
      have HB := Lib.hid hB
      have HVO := Lib.hid (vldB_iff.1 hvo)
      have HLO := Lib.hid (addL_length hin x)
      have hlO1 : (addL l i x).length ≤ l.length + 1 := Nat.le_of_eq HLO.out
      have hlO2 : l.length + 1 ≤ (addL l i x).length := Nat.le_of_eq HLO.out.symm
      have hcl := cntS_le l i
      have hpos := cntS_pos hval hin
      clear hval hB hvo hok
      have HC : Hid (∀ p, p ∈ anc l i → inB (addL l i x) (p : Int) = true ∧ inB l (p : Int) = true ∧ cntI (addL l i x) (p : Int) = cntI l (p : Int) + 1 ∧ 0 ≤ cntI l (p : Int) ∧ cntI l (p : Int) ≤ 16) := fun p hp => by
        have hpl := anc_le _ (HV.out.down hin) _ hp
        have h1 : inB (addL l i x) (p : Int) = true := inB_iff.2 ⟨HVO.out, by omega, by omega⟩
        have h2 : inB l (p : Int) = true := inB_iff.2 ⟨HV.out, by omega, by omega⟩
        have h3 := cntS_le l p
        refine ⟨h1, h2, ?_, ?_, ?_⟩
        · unfold cntI
          rw [if_pos h1, if_pos h2, Int.toNat_natCast, add_cnt HV.out hin HVO.out hp]
          omega
        · unfold cntI
          rw [if_pos h2]
          omega
        · unfold cntI
          rw [if_pos h2, Int.toNat_natCast]
          omega
      have hpl : Hid (pathL l (i : Int) = (anc l i).reverse) := by
        show _ = _
        unfold pathL
        rw [if_pos HB.out, Int.toNat_natCast]
      have hne : Hid (0 < (ni (anc l i).reverse).length) := by
        show 0 < _
        rw [ni_length, List.length_reverse]
        exact List.length_pos_iff.2 (List.ne_nil_of_mem (anc_self (HV.out.down hin)))
      obtain ⟨bT, offT, cT, rfl, hnT, hcT⟩ := rd_addr hin hrT
      obtain ⟨bO, offO, cO, rfl, hnO, hcO⟩ := rd_addr (show i < (addL l i x).length by omega) hrO
      go_wp2_with (fail)
      refine ((equalBoxes_any (l := addL l i x) _ hrO hrW)).mono ?_
      rintro e w4 ⟨rfl, hx⟩
      replace hb := after hb hx (Nat.le_refl _)
      replace hrT := hrT.below hx (Nat.le_refl _)
      replace hrO := hrO.below hx (Nat.le_refl _)
      clear hx
      clear hrW
      go_wp2_with (fail)
      refine ((PathTo_any (l := l) (i : Int) _ hrT)).mono ?_
      rintro e w5 ⟨v5, rfl, ho5, hx⟩
      replace hb := after hb hx (Nat.le_refl _)
      replace hrT := hrT.below hx (Nat.le_refl _)
      replace hrO := hrO.below hx (Nat.le_refl _)
      clear hx
      rw [hpl.out] at ho5
      have hrK := ho5.rd
      obtain ⟨a4, c4, rfl, hn4, hc4⟩ := hrK.len
      have hc4' : c4 ≤ maxLen := hc4
      unfold maxLen at hc4'
      clear ho5
      go_wp2
      go_loopw [11] (fun n wr => ∃ j : Nat, n = .int .i64 j ∧ j ≤ (ni (anc l i).reverse).length ∧ Rd wr 1 (.slice a4 (ni (anc l i).reverse).length c4) (Is (ni (anc l i).reverse)) ∧ Rd wr 9 (.slice (some ⟨bT, offT, none⟩) l.length cT) (Bs l) ∧ Rd wr 9 (.slice (some ⟨bO, offO, none⟩) (addL l i x).length cO) (Bs (addL l i x)) ∧ Below w.heap.size w wr) (fun n _ => (ni (anc l i).reverse).length - (intOf n).toNat)
      case atStart => exact ⟨0, rfl, Nat.zero_le _, hrK, hrT, hrO, hb⟩
      case round =>
        clear hrK hrT hrO hb
        obtain ⟨j, rfl, hj, hrK, hrT, hrO, hb⟩ := hrel
        by_cases hlt : j < (ni (anc l i).reverse).length
        · have hlti : (j : Int) < (ni (anc l i).reverse).length := by omega
          obtain ⟨y, hy⟩ : ∃ y, (ni (anc l i).reverse)[j]? = some y := ⟨_, List.getElem?_eq_getElem hlt⟩
          obtain ⟨m, hm, rfl⟩ := mem_ni.1 (List.mem_of_getElem? hy)
          rw [List.mem_reverse] at hm
          obtain ⟨a4', c4', e4, _, _, hcell⟩ := hrK.ints
          cases e4
          obtain ⟨b4, off4, rfl, hcc⟩ := hcell j _ hy
          have ck := hcc j _ hy
          obtain ⟨h1, h2, h3, h4, h5⟩ := HC.out m hm
          have h6 : IntKind.i64.wrap (cntI l (m : Int) + 1) = cntI l (m : Int) + 1 := by rw [IntKind.wrap_i64]; omega
          have hj0 : (0 : Int) ≤ (j : Int) := by omega
          have H3 := Lib.hid h3
          clear hcell hcc hy hm h1 h2 h3
          go_upto_region 12 with fail
          refine wp_region_held_drew (S := fun w' => Below wr.heap.size wr w') (by kernel_rfl) (Below.refl _ _).drew (fun hS => ?_)
          refine hTake (by kernel_rfl) (fun d _ _ _ _ h => by cases d <;> exact h) hS 0 (some 65) _ rfl (v := ?_) (by kernel_rfl) ?_ ?_
          rotate_left
          · intro _ _; go_simp; first | done | with_reducible rfl
          simp only [Act.put, List.setIfInBounds_toArray, List.set_cons_zero, List.set_cons_succ]
          refine hTake (by kernel_rfl) (fun d _ _ _ _ h => by cases d <;> exact h) hS 1 (some 66) _ rfl (v := ?_) (by kernel_rfl) ?_ ?_
          rotate_left
          · intro _ _; go_simp; first | done | with_reducible rfl
          simp only [Act.put, List.setIfInBounds_toArray, List.set_cons_zero, List.set_cons_succ]
          refine hTake (by kernel_rfl) (fun d _ _ _ _ h => by cases d <;> exact h) hS 2 (some 67) _ rfl (v := ?_) (by kernel_rfl) ?_ ?_
          rotate_left
          · intro _ _; go_simp; first | done | with_reducible rfl
          simp only [Act.put, List.setIfInBounds_toArray, List.set_cons_zero, List.set_cons_succ]
          refine hTake (by kernel_rfl) (fun d _ _ _ _ h => by cases d <;> exact h) hS 3 (some 68) _ rfl (v := ?_) (by kernel_rfl) ?_ ?_
          rotate_left
          · intro _ _; go_simp; first | done | with_reducible rfl
          simp only [Act.put, List.setIfInBounds_toArray, List.set_cons_zero, List.set_cons_succ]
          refine hTake (by kernel_rfl) (fun d _ _ _ _ h => by cases d <;> exact h) hS 4 (some 69) _ rfl (v := ?_) (by kernel_rfl) ?_ ?_
          rotate_left
          · intro w9 hS9; have q := cell_below hS9 ck; go_simp; first | done | with_reducible rfl
          simp only [Act.put, List.setIfInBounds_toArray, List.set_cons_zero, List.set_cons_succ]
          refine hTake (by kernel_rfl) (fun d _ _ _ _ h => by cases d <;> exact h) hS 6 (some 71) _ rfl (v := ?_) (by kernel_rfl) ?_ ?_
          rotate_left
          · intro _ _; go_simp; first | done | with_reducible rfl
          simp only [Act.put, List.setIfInBounds_toArray, List.set_cons_zero, List.set_cons_succ]
          refine hTake (by kernel_rfl) (fun d _ _ _ _ h => by cases d <;> exact h) hS 7 (some 72) _ rfl (v := ?_) (by kernel_rfl) ?_ ?_
          rotate_left
          · intro _ _; go_simp; first | done | with_reducible rfl
          simp only [Act.put, List.setIfInBounds_toArray, List.set_cons_zero, List.set_cons_succ]
          refine hTake (by kernel_rfl) (fun d _ _ _ _ h => by cases d <;> exact h) hS 8 (some 73) _ rfl (v := ?_) (by kernel_rfl) ?_ ?_
          rotate_left
          · intro _ _; go_simp; first | done | with_reducible rfl
          simp only [Act.put, List.setIfInBounds_toArray, List.set_cons_zero, List.set_cons_succ]
          refine hTake (by kernel_rfl) (fun d _ _ _ _ h => by cases d <;> exact h) hS 9 (some 74) _ rfl (v := ?_) (by kernel_rfl) ?_ ?_
          rotate_left
          · intro _ _; go_simp; first | done | with_reducible rfl
          simp only [Act.put, List.setIfInBounds_toArray, List.set_cons_zero, List.set_cons_succ]
          refine hTake (by kernel_rfl) (fun d _ _ _ _ h => by cases d <;> exact h) hS 10 (some 75) _ rfl (v := ?_) (by kernel_rfl) ?_ ?_
          rotate_left
          · intro w9 hS9; have q := cell_below hS9 ck; go_simp; first | done | with_reducible rfl
          simp only [Act.put, List.setIfInBounds_toArray, List.set_cons_zero, List.set_cons_succ]
          refine wpAnyH_ready (rs := [5]) (by kernel_rfl) (by simp) ?_
          refine AllReadyH.cons (o := _) rfl (fun K9 hK9 => ?_) AllReadyH.nil
          go_simp
          refine (CountIn_any (l := addL l i x) (m : Int) _ (hrO.below hS (Nat.le_refl _))).mono ?_
          rintro e w6 ⟨rfl, hx⟩
          rw [H3.out]
          try go_wp2_with fail
          refine hK9.out _ _ (after hS hx (Nat.le_refl _)) (fun hS => ?_)
          clear hK9 K9
          try simp only [Act.put, List.setIfInBounds_toArray, List.set_cons_zero, List.set_cons_succ]
          clear hx
          refine wpAnyH_ready (rs := [11]) (by kernel_rfl) (by simp) ?_
          refine AllReadyH.cons (o := _) rfl (fun K9 hK9 => ?_) AllReadyH.nil
          go_simp
          refine (CountIn_any (l := l) (m : Int) _ (hrT.below hS (Nat.le_refl _))).mono ?_
          rintro e w7 ⟨rfl, hx⟩
          try go_wp2_with fail
          refine hK9.out _ _ (after hS hx (Nat.le_refl _)) (fun hS => ?_)
          clear hK9 K9
          try simp only [Act.put, List.setIfInBounds_toArray, List.set_cons_zero, List.set_cons_succ]
          clear hx
          refine hTake (by kernel_rfl) (fun d _ _ _ _ h => by cases d <;> exact h) hS 12 (some 77) _ rfl (v := ?_) (by kernel_rfl) ?_ ?_
          rotate_left
          · intro _ _; go_simp; first | done | with_reducible rfl
          simp only [Act.put, List.setIfInBounds_toArray, List.set_cons_zero, List.set_cons_succ]
          refine hTake (by kernel_rfl) (fun d _ _ _ _ h => by cases d <;> exact h) hS 13 (some 78) _ rfl (v := ?_) (by kernel_rfl) ?_ ?_
          rotate_left
          · intro _ _; go_simp; first | done | with_reducible rfl
          simp only [Act.put, List.setIfInBounds_toArray, List.set_cons_zero, List.set_cons_succ]
          refine wpAnyH_done (by kernel_rfl) ?_ _
          replace hrK := hrK.below hS (Nat.le_refl _)
          replace hrT := hrT.below hS (Nat.le_refl _)
          replace hrO := hrO.below hS (Nat.le_refl _)
          replace hb := after hb hS (Nat.le_refl _)
          clear hS ck
          go_wp2
          go_roundw
          case rel => exact ⟨j + 1, by go_num, by omega, hrK, hrT, hrO, hb⟩
          case measure => simp [intOf]; omega
        · obtain rfl : j = (ni (anc l i).reverse).length := by omega
          have hne' := hne.out
          have e2 : (((addL l i x).length : Int) == (l.length : Int) + 1) = true := by simp; omega
          generalize (addL l i x).length = M at *
          go_wp2
          go_ret
          exact ⟨by simp, hb⟩
    · have hok' : addOk l i x = false := by simpa using hok
      rw [hok', orNo_f] at hrO hrW
      rw [hok']
      clear hok
      go_wp2_with (fail)
      refine (equalBoxes_any (l := []) _ hrO hrW).mono ?_
      rintro e w4 ⟨rfl, hx⟩
      replace hb := after hb hx (Nat.le_refl _)
      replace hrO := hrO.below hx (Nat.le_refl _)
      replace hrW := hrW.below hx (Nat.le_refl _)
      clear hx
      go_wp2_with (fail)
      refine (equalBoxes_any (l := []) _ hrO hrW).mono ?_
      rintro e w5 ⟨rfl, hx⟩
      replace hb := after hb hx (Nat.le_refl _)
      go_wp2
      go_ret
      exact ⟨rfl, hb⟩
end Go.Proofs.Ytmdlhjngiadlpaa
