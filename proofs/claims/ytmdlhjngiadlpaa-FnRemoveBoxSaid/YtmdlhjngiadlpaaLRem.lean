/-
  The laws FnRemoveBox and FnRemoveBoxOrder: the walks.
-/
import Derived.Test.YtmdlhjngiadlpaaRem
import Derived.Test.YtmdlhjngiadlpaaInts
import Derived.Test.YtmdlhjngiadlpaaLStyA
namespace Go.Proofs.Ytmdlhjngiadlpaa
open Go Go.RowKit

set_option maxHeartbeats 1000000 in
theorem DrawRemoveBox_any {v : Value} (w : World) (hv : RdBytes w v) :
    Calls Try.prog 47 #[v] w fun e w' => ∃ (v' : Value) (i : Int), e = .returned (.tuple #[v', .int .i64 i]) ∧ ∃ l : List Bx, l.length ≤ 16 ∧ -1 ≤ i ∧ i ≤ 16 ∧ Own w' w.heap.size 9 v' (Bs l) ∧ Ext w w' := by
  go_enter Try.func47, Try.ntmps47
  go_wp2_with (fail)
  refine (DrawKidsOf_any _ hv).mono ?_
  rintro e w1 ⟨v1, i, rfl, l, hl, h0, h1, ho, hx⟩
  go_wp2
  go_ret2
  exact ⟨_, i, rfl, l, hl, h0, h1, ho, hx⟩

theorem rem_take {l : List Bx} {a : Nat} (ha : a < l.length) : (remL l a).take a = l.take a := by
  unfold remL
  rw [List.take_append_of_le_length (by rw [List.length_take]; omega), List.take_take, Nat.min_self]
theorem rem_hi {l : List Bx} {a k : Nat} (ha : a < l.length) (h1 : a ≤ k) (hk : k < (remL l a).length) : bx (remL l a) k = (bx l (k + cntS l a)).at (par (remL l a) k) := by
  obtain ⟨p, hp⟩ := rem_sty ha hk
  have e : remF l a k = k + cntS l a := if_neg (by omega)
  rw [e] at hp
  unfold par
  rw [hp]
  rfl

set_option maxRecDepth 100000 in
set_option maxHeartbeats 2000000 in
theorem FnRemoveBox_any {v : Value} (w : World) (hv : RdBytes w v) :
    Calls Try.prog 12 #[v] w fun e w' => e = .returned (.bool true) ∧ Ext w w' := by
  have hv2 := hv
  obtain ⟨ad, n, c, rfl, hn, hc, _⟩ := hv
  unfold maxLen at hc
  by_cases hlen : 1048576 < n
  · have hlen' : (1048576 : Int) < n := by omega
    go_enter Try.func12, Try.ntmps12
    go_wp2
    go_ret
    exact ⟨rfl, Below.refl _ _⟩
  · have hlen' : ¬ ((1048576 : Int) < n) := by omega
    go_enter Try.func12, Try.ntmps12
    go_wp2_with (fail)
    refine (DrawRemoveBox_any _ hv2).mono ?_
    rintro e w1 ⟨v1, i, rfl, l, hl, hi0, hi1, ho1, hb⟩
    have hrT := ho1.rd
    clear ho1 hv2
    go_wp2_with (fail)
    refine ((RemoveBox_any (l := l) i _ hrT)).mono ?_
    rintro e w2 ⟨v2, rfl, ho2, hx⟩
    replace hb := after hb hx (Nat.le_refl _)
    replace hrT := hrT.below hx (Nat.le_refl _)
    clear hx
    have hrO := ho2.rd
    clear ho2
    go_wp2_with (fail)
    refine ((sRemoveBox_any (l := l) i _ hrT (by omega))).mono ?_
    rintro e w3 ⟨v3, rfl, ho3, hx⟩
    replace hb := after hb hx (Nat.le_refl _)
    replace hrT := hrT.below hx (Nat.le_refl _)
    replace hrO := hrO.below hx (Nat.le_refl _)
    clear hx
    have hrW := ho3.rd
    clear ho3
    by_cases h : remB l i = true
    · obtain ⟨hval, h0, hil⟩ := remB_iff.1 h
      obtain ⟨i, rfl⟩ := Int.eq_ofNat_of_zero_le (Int.le_of_lt h0)
      have hin : i < l.length := by omega
      have hi00 : 0 < i := by omega
      rw [h, orNo_t, Int.toNat_natCast] at hrO hrW
      rw [h]
      have HVO := Lib.hid (vldB_iff.2 (rem_valid hval hin hi00))
      have hcl := cntS_le l i
      have hpos := cntS_pos hval hin
      have HL := Lib.hid (remL_length hin)
      have hlO1 : (remL l i).length + cntS l i ≤ l.length := Nat.le_of_eq HL.out
      have hlO2 : l.length ≤ (remL l i).length + cntS l i := Nat.le_of_eq HL.out.symm
      have HCN : Hid (cntI l (i : Int) = (cntS l i : Nat)) := by
        show _ = _
        unfold cntI
        rw [if_pos (inB_iff.2 ⟨hval, by omega, by omega⟩), Int.toNat_natCast]
      have HX := Lib.hid (fun k h1 hk => rem_hi (l := l) (a := i) (k := k) hin h1 hk)
      have HTK := Lib.hid (rem_take hin)
      have hll := hval.hi
      have HV := Lib.hid hval
      have HPR : Hid (∀ k, k < (remL l i).length → -1 ≤ par (remL l i) k ∧ par (remL l i) k < 16) := fun k hk => (vldB_iff.1 HVO.out).parLt hk
      have hio : i ≤ (remL l i).length := by omega
      have hiO : (i : Int) ≤ ((remL l i).length : Int) := by omega
      have hiT : (i : Int) ≤ (l.length : Int) := by omega
      obtain ⟨bO, offO, cO, rfl, hnO, hcO⟩ := rd_addr (i := 0) (show 0 < (remL l i).length by omega) hrO
      obtain ⟨bT, offT, cT, rfl, hnT, hcT⟩ := rd_addr hin hrT
      clear hval h
      go_wp2_with (fail)
      refine ((equalBoxes_any (l := remL l i) _ hrO hrW)).mono ?_
      rintro e w4 ⟨rfl, hx⟩
      replace hb := after hb hx (Nat.le_refl _)
      replace hrT := hrT.below hx (Nat.le_refl _)
      replace hrO := hrO.below hx (Nat.le_refl _)
      clear hx
      clear hrW
      go_wp2_with (fail)
      refine ((CountIn_any (l := l) (i : Int) _ hrT)).mono ?_
      rintro e w5 ⟨rfl, hx⟩
      replace hb := after hb hx (Nat.le_refl _)
      replace hrT := hrT.below hx (Nat.le_refl _)
      replace hrO := hrO.below hx (Nat.le_refl _)
      clear hx
      rw [HCN.out]
      go_wp2
      go_loopw [10] (fun n wr => ∃ k : Nat, n = .int .i64 k ∧ i ≤ k ∧ k ≤ (remL l i).length ∧ Rd wr 9 (.slice (some ⟨bT, offT, none⟩) l.length cT) (Bs l) ∧ Rd wr 9 (.slice (some ⟨bO, offO, none⟩) (remL l i).length cO) (Bs (remL l i)) ∧ Below w.heap.size w wr) (fun n _ => (remL l i).length - (intOf n).toNat)
      case atStart => exact ⟨i, rfl, Nat.le_refl _, hio, hrT, hrO, hb⟩
      case round =>
        clear hrT hrO hb
        obtain ⟨k, rfl, hk0, hk, hrT, hrO, hb⟩ := hrel
        by_cases hlt : k < (remL l i).length
        · have hlti : (k : Int) < (remL l i).length := by omega
          have hlt2 : k + cntS l i < l.length := by omega
          have hlt2i : (k : Int) + (cntS l i : Nat) < l.length := by omega
          have hwr : IntKind.i64.wrap ((k : Int) + (cntS l i : Nat)) = (k : Int) + (cntS l i : Nat) := by rw [IntKind.wrap_i64]; omega
          have htn : ((k : Int) + (cntS l i : Nat)).toNat = k + cntS l i := by omega
          obtain ⟨c0, c1, c2, c3, c4, c5, c6, c7, c8⟩ := cells_at hlt2 hrT
          have D0 : Hid (wr.cell? ⟨bO, offO + k * 9, none⟩ = some (.int .i64 (par (remL l i) k))) := (cells_at hlt hrO).c0
          have hx1 := HX.out k hk0 hlt
          have HX1 := Lib.hid hx1
          clear hx1
          go_upto_region 15 with fail
          change Code.wp _ _ _ _ (wr.alloc (.cells (bx l (k + cntS l i)).arr 25))
          have hKW : Keep wr.heap.size (.cells (bx l (k + cntS l i)).arr 25) (wr.alloc (.cells (bx l (k + cntS l i)).arr 25)) := Keep.new _ _
          have hxW := Below.of_alloc wr (.cells (bx l (k + cntS l i)).arr 25)
          have d0 := cell_below hxW D0.out
          generalize wr.alloc (.cells (bx l (k + cntS l i)).arr 25) = W9 at *
          have p0 := hKW.cell 0
          have f0 := hKW.frozen 0
          have hK8 : Keep wr.heap.size (.cells ((bx l (k + cntS l i)).at (par (remL l i) k)).arr 25) (W9.setCell ⟨wr.heap.size, 0, none⟩ (.int .i64 (par (remL l i) k))) := hKW.store 0 (.int .i64 (par (remL l i) k))
          have hxS := hxW.setCell (p := ⟨wr.heap.size, 0, none⟩) (Nat.le_refl _) (.int .i64 (par (remL l i) k))
          rw [← HX1.out] at hK8
          clear c0 c1 c2 c3 c4 c5 c6 c7 c8 hKW hxW
          go_upto_region 16 with fail
          change Code.wp _ _ _ _ (W9.setCell ⟨wr.heap.size, 0, none⟩ (.int .i64 (par (remL l i) k)))
          clear d0 p0 f0
          replace hrT := hrT.below hxS (Nat.le_refl _)
          replace hrO := hrO.below hxS (Nat.le_refl _)
          replace hb := after hb hxS (Nat.le_refl _)
          generalize W9.setCell ⟨wr.heap.size, 0, none⟩ (.int .i64 (par (remL l i) k)) = W8 at *
          obtain ⟨c0, c1, c2, c3, c4, c5, c6, c7, c8⟩ := cells_at hlt hrO
          obtain ⟨d0, d1, d2, d3, d4, d5, d6, d7, d8⟩ := Keep.c9 hK8
          go_quiet (fail)
          go_wp2
          go_roundw
          case rel => exact ⟨k + 1, by go_num, by omega, by omega, rd_drewN hrT _, rd_drewN hrO _, below_drewN hb _⟩
          case measure => simp [intOf]; omega
        · obtain rfl : k = (remL l i).length := by omega
          have hwr : IntKind.i64.wrap ((l.length : Int) - (cntS l i : Nat)) = ((remL l i).length : Int) := by rw [IntKind.wrap_i64]; omega
          have hi0' : (0 : Int) ≤ (i : Int) := by omega
          have hicO : i ≤ cO := by omega
          have hicT : i ≤ cT := by omega
          go_upto_region 18 with fail
          refine wp_region_held_drew (S := fun w' => Below wr.heap.size wr w') (by kernel_rfl) (Below.refl _ _).drew (fun hS => ?_)
          refine hTake (by kernel_rfl) (fun d _ _ _ _ h => by cases d <;> exact h) hS 0 (some 91) _ rfl (v := ?_) (by kernel_rfl) ?_ ?_
          rotate_left
          · intro _ _; go_simp; first | done | with_reducible rfl
          simp only [Act.put, List.setIfInBounds_toArray, List.set_cons_zero, List.set_cons_succ]
          refine hTake (by kernel_rfl) (fun d _ _ _ _ h => by cases d <;> exact h) hS 1 (some 92) _ rfl (v := ?_) (by kernel_rfl) ?_ ?_
          rotate_left
          · intro _ _; go_simp; first | done | with_reducible rfl
          simp only [Act.put, List.setIfInBounds_toArray, List.set_cons_zero, List.set_cons_succ]
          refine hTake (by kernel_rfl) (fun d _ _ _ _ h => by cases d <;> exact h) hS 2 (some 93) _ rfl (v := ?_) (by kernel_rfl) ?_ ?_
          rotate_left
          · intro _ _; go_simp; first | done | with_reducible rfl
          simp only [Act.put, List.setIfInBounds_toArray, List.set_cons_zero, List.set_cons_succ]
          refine hTake (by kernel_rfl) (fun d _ _ _ _ h => by cases d <;> exact h) hS 3 (some 94) _ rfl (v := ?_) (by kernel_rfl) ?_ ?_
          rotate_left
          · intro _ _; go_simp; first | done | with_reducible rfl
          simp only [Act.put, List.setIfInBounds_toArray, List.set_cons_zero, List.set_cons_succ]
          refine hTake (by kernel_rfl) (fun d _ _ _ _ h => by cases d <;> exact h) hS 4 (some 95) _ rfl (v := ?_) (by kernel_rfl) ?_ ?_
          rotate_left
          · intro _ _; go_simp; first | done | with_reducible rfl
          simp only [Act.put, List.setIfInBounds_toArray, List.set_cons_zero, List.set_cons_succ]
          refine hTake (by kernel_rfl) (fun d _ _ _ _ h => by cases d <;> exact h) hS 5 (some 96) _ rfl (v := ?_) (by kernel_rfl) ?_ ?_
          rotate_left
          · intro _ _; go_simp; first | done | with_reducible rfl
          simp only [Act.put, List.setIfInBounds_toArray, List.set_cons_zero, List.set_cons_succ]
          refine hTake (by kernel_rfl) (fun d _ _ _ _ h => by cases d <;> exact h) hS 6 (some 97) _ rfl (v := ?_) (by kernel_rfl) ?_ ?_
          rotate_left
          · intro _ _; go_simp; first | done | with_reducible rfl
          simp only [Act.put, List.setIfInBounds_toArray, List.set_cons_zero, List.set_cons_succ]
          refine hTake (by kernel_rfl) (fun d _ _ _ _ h => by cases d <;> exact h) hS 7 (some 98) _ rfl (v := ?_) (by kernel_rfl) ?_ ?_
          rotate_left
          · intro _ _; go_simp; first | done | with_reducible rfl
          simp only [Act.put, List.setIfInBounds_toArray, List.set_cons_zero, List.set_cons_succ]
          refine hTake (by kernel_rfl) (fun d _ _ _ _ h => by cases d <;> exact h) hS 8 (some 99) _ rfl (v := ?_) (by kernel_rfl) ?_ ?_
          rotate_left
          · intro _ _; go_simp; first | done | with_reducible rfl
          simp only [Act.put, List.setIfInBounds_toArray, List.set_cons_zero, List.set_cons_succ]
          refine hTake (by kernel_rfl) (fun d _ _ _ _ h => by cases d <;> exact h) hS 9 (some 100) _ rfl (v := ?_) (by kernel_rfl) ?_ ?_
          rotate_left
          · intro _ _; go_simp; first | done | with_reducible rfl
          simp only [Act.put, List.setIfInBounds_toArray, List.set_cons_zero, List.set_cons_succ]
          refine hTake (by kernel_rfl) (fun d _ _ _ _ h => by cases d <;> exact h) hS 10 (some 101) _ rfl (v := ?_) (by kernel_rfl) ?_ ?_
          rotate_left
          · intro _ _; go_simp; first | done | with_reducible rfl
          simp only [Act.put, List.setIfInBounds_toArray, List.set_cons_zero, List.set_cons_succ]
          refine hTake (by kernel_rfl) (fun d _ _ _ _ h => by cases d <;> exact h) hS 11 (some 102) _ rfl (v := ?_) (by kernel_rfl) ?_ ?_
          rotate_left
          · intro _ _; go_simp; first | done | with_reducible rfl
          simp only [Act.put, List.setIfInBounds_toArray, List.set_cons_zero, List.set_cons_succ]
          refine hTake (by kernel_rfl) (fun d _ _ _ _ h => by cases d <;> exact h) hS 12 (some 103) _ rfl (v := ?_) (by kernel_rfl) ?_ ?_
          rotate_left
          · intro _ _; go_simp; first | done | with_reducible rfl
          simp only [Act.put, List.setIfInBounds_toArray, List.set_cons_zero, List.set_cons_succ]
          refine hTake (by kernel_rfl) (fun d _ _ _ _ h => by cases d <;> exact h) hS 13 (some 104) _ rfl (v := ?_) (by kernel_rfl) ?_ ?_
          rotate_left
          · intro _ _; go_simp; first | done | with_reducible rfl
          simp only [Act.put, List.setIfInBounds_toArray, List.set_cons_zero, List.set_cons_succ]
          have ht1 := hrO.take hio
          have ht2 := hrT.take (Nat.le_of_lt hin)
          rw [HTK.out] at ht1
          refine wpAnyH_ready (rs := [14]) (by kernel_rfl) (by simp) ?_
          refine AllReadyH.cons (o := _) rfl (fun K9 hK9 => ?_) AllReadyH.nil
          go_simp
          refine (equalBoxes_any (l := l.take i) _ (ht1.below hS (Nat.le_refl _)) (ht2.below hS (Nat.le_refl _))).mono ?_
          rintro e w7 ⟨rfl, hx⟩
          try go_wp2_with fail
          refine hK9.out _ _ (after hS hx (Nat.le_refl _)) (fun hS => ?_)
          clear hK9 K9
          try simp only [Act.put, List.setIfInBounds_toArray, List.set_cons_zero, List.set_cons_succ]
          clear hx
          refine hTake (by kernel_rfl) (fun d _ _ _ _ h => by cases d <;> exact h) hS 15 (some 106) _ rfl (v := ?_) (by kernel_rfl) ?_ ?_
          rotate_left
          · intro _ _; go_simp; first | done | with_reducible rfl
          simp only [Act.put, List.setIfInBounds_toArray, List.set_cons_zero, List.set_cons_succ]
          refine hTake (by kernel_rfl) (fun d _ _ _ _ h => by cases d <;> exact h) hS 16 (some 107) _ rfl (v := ?_) (by kernel_rfl) ?_ ?_
          rotate_left
          · intro _ _; go_simp; first | done | with_reducible rfl
          simp only [Act.put, List.setIfInBounds_toArray, List.set_cons_zero, List.set_cons_succ]
          refine hTake (by kernel_rfl) (fun d _ _ _ _ h => by cases d <;> exact h) hS 17 (some 108) _ rfl (v := ?_) (by kernel_rfl) ?_ ?_
          rotate_left
          · intro _ _; go_simp; first | done | with_reducible rfl
          simp only [Act.put, List.setIfInBounds_toArray, List.set_cons_zero, List.set_cons_succ]
          refine wpAnyH_ready (rs := [18]) (by kernel_rfl) (by simp) ?_
          refine AllReadyH.cons (o := _) rfl (fun K9 hK9 => ?_) AllReadyH.nil
          go_simp
          refine (ValidTree_any (l := remL l i) _ (hrO.below hS (Nat.le_refl _))).mono ?_
          rintro e w8 ⟨he, hx⟩
          rw [HVO.out] at he
          subst he
          try go_wp2_with fail
          refine hK9.out _ _ (after hS hx (Nat.le_refl _)) (fun hS => ?_)
          clear hK9 K9
          try simp only [Act.put, List.setIfInBounds_toArray, List.set_cons_zero, List.set_cons_succ]
          clear hx
          refine hTake (by kernel_rfl) (fun d _ _ _ _ h => by cases d <;> exact h) hS 19 (some 110) _ rfl (v := ?_) (by kernel_rfl) ?_ ?_
          rotate_left
          · intro _ _; go_simp; first | done | with_reducible rfl
          simp only [Act.put, List.setIfInBounds_toArray, List.set_cons_zero, List.set_cons_succ]
          refine wpAnyH_ready (rs := [20]) (by kernel_rfl) (by simp) ?_
          refine AllReadyH.cons (o := _) rfl (fun K9 hK9 => ?_) AllReadyH.nil
          go_simp
          refine hK9.out _ _ hS (fun hS => ?_)
          clear hK9 K9
          try simp only [Act.put, List.setIfInBounds_toArray, List.set_cons_zero, List.set_cons_succ]
          refine wpAnyH_done (by kernel_rfl) ?_ _
          replace hb := after hb hS (Nat.le_refl _)
          clear hS ht1 ht2
          go_wp2
          go_ret
          exact ⟨rfl, hb⟩
    · have h' : remB l i = false := by simpa using h
      rw [h', orNo_f] at hrO hrW
      rw [h']
      clear h
      go_wp2_with (fail)
      refine ((equalBoxes_any (l := []) _ hrO hrW)).mono ?_
      rintro e w4 ⟨rfl, hx⟩
      replace hb := after hb hx (Nat.le_refl _)
      replace hrO := hrO.below hx (Nat.le_refl _)
      replace hrW := hrW.below hx (Nat.le_refl _)
      clear hx
      go_wp2_with (fail)
      refine ((equalBoxes_any (l := []) _ hrO hrW)).mono ?_
      rintro e w5 ⟨rfl, hx⟩
      replace hb := after hb hx (Nat.le_refl _)
      replace hrO := hrO.below hx (Nat.le_refl _)
      replace hrW := hrW.below hx (Nat.le_refl _)
      clear hx
      go_wp2
      go_ret
      exact ⟨rfl, hb⟩
end Go.Proofs.Ytmdlhjngiadlpaa
