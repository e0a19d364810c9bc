/-
  The laws over LayoutTree: FnLayoutTreeBlock.
-/
import Derived.Test.YtkbgmfapcekakaaTre
import Derived.Test.YtkbgmfapcekakaaAi
import Derived.Test.YtkbgmfapcekakaaAg
import Derived.Test.YtkbgmfapcekakaaAe
import Derived.Test.YtkbgmfapcekakaaAf
import Derived.Test.YtkbgmfapcekakaaNS
import Derived.Test.YtkbgmfapcekakaaLTr2
import Derived.Test.YtkbgmfapcekakaaLStyA
namespace Go.Proofs.Ytkbgmfapcekakaa
open Go Go.RowKit

theorem nH_in {l : List Bx} (hv : Valid l) {k : Nat} (hk : k < l.length) : nH l (k : Int) = (natS l k).2 := by
  unfold nH
  rw [if_pos (inB_iff.2 ⟨hv, by omega, by omega⟩), Int.toNat_natCast]
theorem nW_in {l : List Bx} (hv : Valid l) {k : Nat} (hk : k < l.length) : nW l (k : Int) = (natS l k).1 := by
  unfold nW
  rw [if_pos (inB_iff.2 ⟨hv, by omega, by omega⟩), Int.toNat_natCast]
set_option maxRecDepth 100000 in
set_option maxHeartbeats 8000000 in
theorem FnLayoutTreeBlock_any {v : Value} (w : World) (hv : RdBytes w v) :
    Calls Try.prog 8 #[v] w fun e w' => e = .returned (.bool true) ∧ Ext w w' := by
  have hv2 := hv
  obtain ⟨ad, n, c, rfl, hn, hc, _⟩ := hv
  unfold maxLen at hc
  by_cases hlen : 1048576 < n
  · have hlen' : (1048576 : Int) < n := by omega
    go_enter Try.func8, Try.ntmps8
    go_wp2
    go_ret
    exact ⟨rfl, Below.refl _ _⟩
  · have hlen' : ¬ ((1048576 : Int) < n) := by omega
    go_enter Try.func8, Try.ntmps8
    go_wp2_with (fail)
    refine (DrawLayoutTree_any _ hv2).mono ?_
    rintro e w1 ⟨v1, sw, sh, rfl, l, hl, hsw, hsh, ho1, hb⟩
    have hrT := ho1.rd
    clear ho1 hv2
    go_wp2_with (fail)
    refine ((LayoutTree_any (l := l) sw sh _ hrT)).mono ?_
    rintro e w2 ⟨v2, rfl, ho2, hx⟩
    replace hb := after hb hx (Nat.le_refl _)
    replace hrT := hrT.below hx (Nat.le_refl _)
    clear hx
    have hrO := ho2.rd
    clear ho2
    go_wp2_with (fail)
    refine ((sLayoutTree_any (l := l) sw sh _ hrT (by omega))).mono ?_
    rintro e w3 ⟨v3, rfl, ho3, hx⟩
    replace hb := after hb hx (Nat.le_refl _)
    replace hrT := hrT.below hx (Nat.le_refl _)
    replace hrO := hrO.below hx (Nat.le_refl _)
    clear hx
    have hrW := ho3.rd
    clear ho3
    cases hok : scrB l sw sh with
    | false =>
      have HO := Lib.hid (rectsOr_f hok)
      rw [HO.out] at hrO hrW
      clear hok
      go_wp2_with (fail)
      refine ((equalRects_any (l := []) _ hrO hrW)).mono ?_
      rintro e w4 ⟨rfl, hx⟩
      replace hb := after hb hx (Nat.le_refl _)
      replace hrT := hrT.below hx (Nat.le_refl _)
      replace hrO := hrO.below hx (Nat.le_refl _)
      clear hx
      clear hrW
      obtain ⟨aO, cO, rfl, hnO, hcO, _⟩ := hrO.rects
      rw [List.length_nil] at hrO
      go_wp2_with (fail)
      refine ((sLayoutTree_any (l := l) sw sh _ hrT (by omega))).mono ?_
      rintro e w5 ⟨v5, rfl, ho5, hx⟩
      replace hb := after hb hx (Nat.le_refl _)
      replace hrT := hrT.below hx (Nat.le_refl _)
      replace hrO := hrO.below hx (Nat.le_refl _)
      clear hx
      have hrW := ho5.rd
      rw [HO.out] at hrW
      clear ho5
      go_wp2_with (fail)
      refine ((equalRects_any (l := []) _ hrO hrW)).mono ?_
      rintro e w6 ⟨rfl, hx⟩
      replace hb := after hb hx (Nat.le_refl _)
      clear hx
      go_wp2
      go_ret
      exact ⟨rfl, hb⟩
    | true =>
      have HO := Lib.hid (rectsOr_t hok)
      rw [HO.out] at hrO hrW
      obtain ⟨hval, hsw2, hsh2⟩ := scrB_iff.1 hok
      clear hok hsw hsh
      go_wp2_with (fail)
      refine ((equalRects_any (l := rectL l sw sh) _ hrO hrW)).mono ?_
      rintro e w4 ⟨rfl, hx⟩
      replace hb := after hb hx (Nat.le_refl _)
      replace hrT := hrT.below hx (Nat.le_refl _)
      replace hrO := hrO.below hx (Nat.le_refl _)
      clear hx
      clear hrW
      have HV := Lib.hid hval
      have hlo := hval.lo
      have hz : ((l.length : Int) == 0) = false := beq_eq_false_iff_ne.2 (by omega)
      have HR := Lib.hid (fun k (hk : k < l.length) => rect_ok hval hsw2 hsh2 hk)
      obtain ⟨bO, oO, cO, rfl, hnO, hcO, hR⟩ := rectS hrO hlo
      have HRD := Lib.hid hrO
      obtain ⟨bT, oT, cT, rfl, hnT, hcT⟩ := rd_addr hlo hrT
      clear hval hrO
      have HRT := Lib.hid hrT
      have HORD := Lib.hid (fun p j a (ha : (kid l ((p : Nat) : Int))[j]? = some a) h1 => rect_block HV.out (w := sw) (h := sh) (p := p) (j := j) (a := a) ha h1)
      clear hrT
      go_wp2
      go_loopw [7] (fun n wr => ∃ p : Nat, n = .int .i64 p ∧ p ≤ l.length ∧ Hid (Rd wr 9 (.slice (some ⟨bT, oT, none⟩) l.length cT) (Bs l)) ∧ Hid (RC l sw sh bO oO wr) ∧ Below w.heap.size w wr) (fun n _ => l.length - (intOf n).toNat)
      case atStart => exact ⟨0, rfl, Nat.zero_le _, HRT.out, hR, hb⟩
      case round =>
        clear HRT hR hb
        obtain ⟨p, rfl, hp, hrT, hR, hb⟩ := hrel
        by_cases hlt : p < l.length
        · have hlti : (p : Int) < l.length := by omega
          have hp0 : (0 : Int) ≤ (p : Int) := by omega
          have ck := (cells_at hlt hrT.out).c1
          by_cases hk1 : (bx l p).kind = 1
          · have e2 : ((bx l p).kind != 1) = false := by rw [hk1]; rfl
            replace hrT := hrT.out
            replace hR := hR.out
            go_wp2_with (fail)
            clear ck e2
            refine (KidsOf_any (l := l) (p : Int) _ hrT).mono ?_
            rintro e w6 ⟨v6, rfl, ho6, hx⟩
            replace hb := after hb hx (Nat.le_refl _)
            replace hrT := hrT.below hx (Nat.le_refl _)
            replace hR := hR.below hx (Nat.le_refl _)
            rw [kids_valid HV.out hlt] at ho6
            have hrK := ho6.rd
            clear ho6 hx
            have hkn := (HV.out.kids p hlt).1
            have hbd := okB_bounds (HV.out.ok p hlt)
            have HBL := Lib.hid (fun j a ha => HORD.out p j a ha hk1)
            have HKL := Lib.hid (fun j a (h : (kid l (p : Int))[j]? = some a) => (mem_kid_iff.1 (List.mem_of_getElem? h)).1)
            generalize kid l (p : Int) = K at *
            obtain ⟨aK, cK, rfl, hnK, hcK, _⟩ := hrK.ints
            rw [ni_length] at hnK hrK ⊢
            unfold maxLen at hcK
            have HTT := Lib.hid hrT
            have HKK := Lib.hid hrK
            have HRR := Lib.hid hR
            obtain ⟨_, _, _, _, _, cg, _, _, _⟩ := cells_at hlt hrT
            have hbT := World.block_lt_of_cell? _ _ cg
            clear hrT hrK hR
            go_wp2
            go_loopw [9] (fun n wr => ∃ j : Nat, n = .int .i64 (j : Int) ∧ j ≤ K.length ∧ Below w6.heap.size w6 wr) (fun n _ => K.length - (intOf n).toNat)
            case atStart => exact ⟨0, by go_num, Nat.zero_le _, Below.refl _ _⟩
            case round =>
              obtain ⟨j, rfl, hj, hb6⟩ := hrel
              by_cases hlt2 : j < K.length
              · have hji : (j : Int) < K.length := by omega
                have hj0 : (0 : Int) ≤ (j : Int) := by omega
                have hjb := List.getElem?_eq_getElem hlt2
                have hB := HBL.out j _ hjb
                have hbl := HKL.out _ _ hjb
                obtain ⟨bK, oK, rfl, cb⟩ := HKK.out.intAt (ni_get hjb)
                have hcb9 := cb
                replace cb := cell_below hb6 cb
                have rb := HR.out _ hbl
                have hbli : ((K[j] : Nat) : Int) < l.length := by omega
                have hN := nH_in HV.out hbl
                have hI : inB l ((K[j] : Nat) : Int) = true := inB_iff.2 ⟨HV.out, by omega, by omega⟩
                have HKB := Lib.hid hjb
                have HNN := Lib.hid hN
                have HII := Lib.hid hI
                have HBB := Lib.hid hB.1
                clear hjb hB hN hI
                generalize K[j] = b at *
                go_wp2_with (fail)
                refine (NaturalSize_any (l := l) (b : Int) _ (HTT.out.below hb6 (Nat.le_refl _))).mono ?_
                rintro e w7 ⟨rfl, hx⟩
                rw [HNN.out, ← HBB.out, HII.out]
                replace hb6 := after hb6 hx (Nat.le_refl _)
                replace cb := cell_below hb6 hcb9
                replace cg := cell_below hb6 cg
                obtain ⟨b0, b1, b2, b3⟩ := (HRR.out.below hb6 (Nat.le_refl _)).cs _ hbl
                clear hx hcb9
                rcases Nat.eq_zero_or_pos j with hj0' | hj0'
                · have hjz : decide ((0 : Int) < (j : Int)) = false := by simp; omega
                  have hjz2 : decide (0 < j) = false := by simp; omega
                  have HZ := Lib.hid hj0'
                  clear hj0'
                  generalize rect l sw sh b = s at *
                  go_upto_region 16 with fail
                  refine wp_region_held_drew (S := fun w' => Below w7.heap.size w7 w') (by kernel_rfl) (Below.refl _ _).drew (fun hS => ?_)
                  change wpAnyH _ _ _ _ _ _ _ _ w7.drew
                  generalize w7.drew = we at *
                  refine hTake (by kernel_rfl) (fun d _ _ _ _ h => by cases d <;> exact h) hS 0 (some 75) _ rfl (v := ?_) (by kernel_rfl) ?_ ?_
                  rotate_left
                  · intro _ _; go_simp; first | done | with_reducible rfl
                  simp only [Act.put, List.setIfInBounds_toArray, List.set_cons_zero, List.set_cons_succ]
                  refine hTake (by kernel_rfl) (fun d _ _ _ _ h => by cases d <;> exact h) hS 1 (some 76) _ rfl (v := ?_) (by kernel_rfl) ?_ ?_
                  rotate_left
                  · intro _ _; go_simp; first | done | with_reducible rfl
                  simp only [Act.put, List.setIfInBounds_toArray, List.set_cons_zero, List.set_cons_succ]
                  refine hTake (by kernel_rfl) (fun d _ _ _ _ h => by cases d <;> exact h) hS 2 (some 77) _ rfl (v := ?_) (by kernel_rfl) ?_ ?_
                  rotate_left
                  · intro _ _; go_simp; first | done | with_reducible rfl
                  simp only [Act.put, List.setIfInBounds_toArray, List.set_cons_zero, List.set_cons_succ]
                  refine hTake (by kernel_rfl) (fun d _ _ _ _ h => by cases d <;> exact h) hS 3 (some 78) _ rfl (v := ?_) (by kernel_rfl) ?_ ?_
                  rotate_left
                  · intro _ _; go_simp; first | done | with_reducible rfl
                  simp only [Act.put, List.setIfInBounds_toArray, List.set_cons_zero, List.set_cons_succ]
                  refine hTake (by kernel_rfl) (fun d _ _ _ _ h => by cases d <;> exact h) hS 4 (some 79) _ rfl (v := ?_) (by kernel_rfl) ?_ ?_
                  rotate_left
                  · intro _ _; go_simp; first | done | with_reducible rfl
                  simp only [Act.put, List.setIfInBounds_toArray, List.set_cons_zero, List.set_cons_succ]
                  refine hTake (by kernel_rfl) (fun d _ _ _ _ h => by cases d <;> exact h) hS 5 (some 80) _ rfl (v := ?_) (by kernel_rfl) ?_ ?_
                  rotate_left
                  · intro _ _; go_simp; first | done | with_reducible rfl
                  simp only [Act.put, List.setIfInBounds_toArray, List.set_cons_zero, List.set_cons_succ]
                  refine hTake (by kernel_rfl) (fun d _ _ _ _ h => by cases d <;> exact h) hS 6 (some 81) _ rfl (v := ?_) (by kernel_rfl) ?_ ?_
                  rotate_left
                  · intro _ _; go_simp; first | done | with_reducible rfl
                  simp only [Act.put, List.setIfInBounds_toArray, List.set_cons_zero, List.set_cons_succ]
                  refine hTake (by kernel_rfl) (fun d _ _ _ _ h => by cases d <;> exact h) hS 7 (some 82) _ rfl (v := ?_) (by kernel_rfl) ?_ ?_
                  rotate_left
                  · intro w9 hS9; have q := cell_below hS9 cb; go_simp; first | done | with_reducible rfl
                  simp only [Act.put, List.setIfInBounds_toArray, List.set_cons_zero, List.set_cons_succ]
                  refine hTake (by kernel_rfl) (fun d _ _ _ _ h => by cases d <;> exact h) hS 8 (some 83) _ rfl (v := ?_) (by kernel_rfl) ?_ ?_
                  rotate_left
                  · intro _ _; go_simp; first | done | with_reducible rfl
                  simp only [Act.put, List.setIfInBounds_toArray, List.set_cons_zero, List.set_cons_succ]
                  refine hTake (by kernel_rfl) (fun d _ _ _ _ h => by cases d <;> exact h) hS 9 (some 84) _ rfl (v := ?_) (by kernel_rfl) ?_ ?_
                  rotate_left
                  · intro _ _; go_simp; first | done | with_reducible rfl
                  simp only [Act.put, List.setIfInBounds_toArray, List.set_cons_zero, List.set_cons_succ]
                  refine hTake (by kernel_rfl) (fun d _ _ _ _ h => by cases d <;> exact h) hS 10 (some 85) _ rfl (v := ?_) (by kernel_rfl) ?_ ?_
                  rotate_left
                  · intro w9 hS9; have q := cell_below hS9 b3; go_simp; first | done | with_reducible rfl
                  simp only [Act.put, List.setIfInBounds_toArray, List.set_cons_zero, List.set_cons_succ]
                  refine hTake (by kernel_rfl) (fun d _ _ _ _ h => by cases d <;> exact h) hS 11 (some 86) _ rfl (v := ?_) (by kernel_rfl) ?_ ?_
                  rotate_left
                  · intro _ _; go_simp; first | done | with_reducible rfl
                  simp only [Act.put, List.setIfInBounds_toArray, List.set_cons_zero, List.set_cons_succ]
                  refine hTake (by kernel_rfl) (fun d _ _ _ _ h => by cases d <;> exact h) hS 12 (some 87) _ rfl (v := ?_) (by kernel_rfl) ?_ ?_
                  rotate_left
                  · intro _ _; go_simp; first | done | with_reducible rfl
                  simp only [Act.put, List.setIfInBounds_toArray, List.set_cons_zero, List.set_cons_succ]
                  refine hTake (by kernel_rfl) (fun d _ _ _ _ h => by cases d <;> exact h) hS 13 (some 88) _ rfl (v := ?_) (by kernel_rfl) ?_ ?_
                  rotate_left
                  · intro _ _; go_simp; first | done | with_reducible rfl
                  simp only [Act.put, List.setIfInBounds_toArray, List.set_cons_zero, List.set_cons_succ]
                  refine hTake (by kernel_rfl) (fun d _ _ _ _ h => by cases d <;> exact h) hS 14 (some 89) _ rfl (v := ?_) (by kernel_rfl) ?_ ?_
                  rotate_left
                  · intro _ _; go_simp; first | done | with_reducible rfl
                  simp only [Act.put, List.setIfInBounds_toArray, List.set_cons_zero, List.set_cons_succ]
                  refine hTake (by kernel_rfl) (fun d _ _ _ _ h => by cases d <;> exact h) hS 15 (some 90) _ rfl (v := ?_) (by kernel_rfl) ?_ ?_
                  rotate_left
                  · intro _ _; go_simp; first | done | with_reducible rfl
                  simp only [Act.put, List.setIfInBounds_toArray, List.set_cons_zero, List.set_cons_succ]
                  refine hTake (by kernel_rfl) (fun d _ _ _ _ h => by cases d <;> exact h) hS 16 (some 91) _ rfl (v := ?_) (by kernel_rfl) ?_ ?_
                  rotate_left
                  · intro _ _; go_simp; first | done | with_reducible rfl
                  simp only [Act.put, List.setIfInBounds_toArray, List.set_cons_zero, List.set_cons_succ]
                  refine hTake (by kernel_rfl) (fun d _ _ _ _ h => by cases d <;> exact h) hS 17 (some 92) _ rfl (v := ?_) (by kernel_rfl) ?_ ?_
                  rotate_left
                  · intro _ _; go_simp; first | done | with_reducible rfl
                  simp only [Act.put, List.setIfInBounds_toArray, List.set_cons_zero, List.set_cons_succ]
                  refine hSkips (by kernel_rfl) (fun d _ _ _ _ h => by cases d <;> exact h) hS [18, 19, 20, 21, 22, 23, 24, 25, 26, 27, 28, 29, 30, 31, 32, 33, 34, 35, 36, 37, 38, 39, 40, 41, 42, 43, 44, 45, 46, 47, 48, 49, 50, 51] [some 93, some 94, some 95, some 96, some 97, some 98, some 99, some 100, some 101, some 102, some 103, some 104, some 105, some 106, some 107, some 108, some 109, some 110, some 111, some 112, some 113, some 114, some 115, some 116, some 117, some 118, some 119, some 120, some 121, some 122, some 123, some 124, some 125, some 126] (by kernel_rfl) ?_
                  simp only [putUndef, listAll, List.foldl_cons, List.foldl_nil, Act.put, List.setIfInBounds_toArray, List.set_cons_zero, List.set_cons_succ]
                  refine hTake (by kernel_rfl) (fun d _ _ _ _ h => by cases d <;> exact h) hS 52 (some 127) _ rfl (v := ?_) (by kernel_rfl) ?_ ?_
                  rotate_left
                  · intro _ _; go_simp; first | done | with_reducible rfl
                  simp only [Act.put, List.setIfInBounds_toArray, List.set_cons_zero, List.set_cons_succ]
                  refine hTake (by kernel_rfl) (fun d _ _ _ _ h => by cases d <;> exact h) hS 53 (some 128) _ rfl (v := ?_) (by kernel_rfl) ?_ ?_
                  rotate_left
                  · intro _ _; go_simp; first | done | with_reducible rfl
                  simp only [Act.put, List.setIfInBounds_toArray, List.set_cons_zero, List.set_cons_succ]
                  clear cb cg b0 b1 b2 b3
                  refine wpAnyH_done (by kernel_rfl) ?_ _
                  have HB6 := Lib.hid (after hb6 hS (Nat.le_refl _))
                  clear hS hb6
                  go_wp2
                  go_roundw
                  case rel => exact ⟨j + 1, by go_num, by omega, HB6.out⟩
                  case measure => simp [intOf]; omega
                · have hjz : decide ((0 : Int) < (j : Int)) = true := by simp; omega
                  have hjz2 : decide (0 < j) = true := by simp; omega
                  have hjw : IntKind.i64.wrap ((j : Int) - 1) = ((j - 1 : Nat) : Int) := by rw [IntKind.wrap_i64]; omega
                  have hj1 : ((j - 1 : Nat) : Int) < K.length := by omega
                  have hj10 : (0 : Int) ≤ ((j - 1 : Nat) : Int) := by omega
                  have hja := List.getElem?_eq_getElem (show j - 1 < K.length by omega)
                  have hA := (HBL.out (j - 1) _ hja).2 b (by rw [show j - 1 + 1 = j by omega]; exact HKB.out)
                  have hal := HKL.out _ _ hja
                  obtain ⟨_, _, e, ca⟩ := HKK.out.intAt (ni_get hja)
                  cases e
                  replace ca := cell_below hb6 ca
                  have ra := HR.out _ hal
                  have hali : ((K[j - 1] : Nat) : Int) < l.length := by omega
                  obtain ⟨a0, a1, a2, a3⟩ := (HRR.out.below hb6 (Nat.le_refl _)).cs _ hal
                  clear hj0' hja
                  generalize K[j - 1] = a at *
                  rw [hA] at b1
                  generalize rect l sw sh a = r at *
                  generalize (rect l sw sh b).h = s at *
                  obtain ⟨r1, r2, r3, r4, r5, r6, r7, r8⟩ := ra
                  have hw1 : IntKind.i64.wrap (r.y + r.h) = r.y + r.h := by rw [IntKind.wrap_i64]; omega
                  have hw2 : IntKind.i64.wrap (r.y + r.h + (bx l p).gap) = r.y + r.h + (bx l p).gap := by rw [IntKind.wrap_i64]; omega
                  clear hA
                  go_upto_region 16 with fail
                  refine wp_region_held_drew (S := fun w' => Below w7.heap.size w7 w') (by kernel_rfl) (Below.refl _ _).drew (fun hS => ?_)
                  change wpAnyH _ _ _ _ _ _ _ _ w7.drew
                  generalize w7.drew = we at *
                  refine hTake (by kernel_rfl) (fun d _ _ _ _ h => by cases d <;> exact h) hS 0 (some 75) _ rfl (v := ?_) (by kernel_rfl) ?_ ?_
                  rotate_left
                  · intro _ _; go_simp; first | done | with_reducible rfl
                  simp only [Act.put, List.setIfInBounds_toArray, List.set_cons_zero, List.set_cons_succ]
                  refine hTake (by kernel_rfl) (fun d _ _ _ _ h => by cases d <;> exact h) hS 1 (some 76) _ rfl (v := ?_) (by kernel_rfl) ?_ ?_
                  rotate_left
                  · intro _ _; go_simp; first | done | with_reducible rfl
                  simp only [Act.put, List.setIfInBounds_toArray, List.set_cons_zero, List.set_cons_succ]
                  refine hTake (by kernel_rfl) (fun d _ _ _ _ h => by cases d <;> exact h) hS 2 (some 77) _ rfl (v := ?_) (by kernel_rfl) ?_ ?_
                  rotate_left
                  · intro _ _; go_simp; first | done | with_reducible rfl
                  simp only [Act.put, List.setIfInBounds_toArray, List.set_cons_zero, List.set_cons_succ]
                  refine hTake (by kernel_rfl) (fun d _ _ _ _ h => by cases d <;> exact h) hS 3 (some 78) _ rfl (v := ?_) (by kernel_rfl) ?_ ?_
                  rotate_left
                  · intro _ _; go_simp; first | done | with_reducible rfl
                  simp only [Act.put, List.setIfInBounds_toArray, List.set_cons_zero, List.set_cons_succ]
                  refine hTake (by kernel_rfl) (fun d _ _ _ _ h => by cases d <;> exact h) hS 4 (some 79) _ rfl (v := ?_) (by kernel_rfl) ?_ ?_
                  rotate_left
                  · intro _ _; go_simp; first | done | with_reducible rfl
                  simp only [Act.put, List.setIfInBounds_toArray, List.set_cons_zero, List.set_cons_succ]
                  refine hTake (by kernel_rfl) (fun d _ _ _ _ h => by cases d <;> exact h) hS 5 (some 80) _ rfl (v := ?_) (by kernel_rfl) ?_ ?_
                  rotate_left
                  · intro _ _; go_simp; first | done | with_reducible rfl
                  simp only [Act.put, List.setIfInBounds_toArray, List.set_cons_zero, List.set_cons_succ]
                  refine hTake (by kernel_rfl) (fun d _ _ _ _ h => by cases d <;> exact h) hS 6 (some 81) _ rfl (v := ?_) (by kernel_rfl) ?_ ?_
                  rotate_left
                  · intro _ _; go_simp; first | done | with_reducible rfl
                  simp only [Act.put, List.setIfInBounds_toArray, List.set_cons_zero, List.set_cons_succ]
                  refine hTake (by kernel_rfl) (fun d _ _ _ _ h => by cases d <;> exact h) hS 7 (some 82) _ rfl (v := ?_) (by kernel_rfl) ?_ ?_
                  rotate_left
                  · intro w9 hS9; have q := cell_below hS9 cb; go_simp; first | done | with_reducible rfl
                  simp only [Act.put, List.setIfInBounds_toArray, List.set_cons_zero, List.set_cons_succ]
                  refine hTake (by kernel_rfl) (fun d _ _ _ _ h => by cases d <;> exact h) hS 8 (some 83) _ rfl (v := ?_) (by kernel_rfl) ?_ ?_
                  rotate_left
                  · intro _ _; go_simp; first | done | with_reducible rfl
                  simp only [Act.put, List.setIfInBounds_toArray, List.set_cons_zero, List.set_cons_succ]
                  refine hTake (by kernel_rfl) (fun d _ _ _ _ h => by cases d <;> exact h) hS 9 (some 84) _ rfl (v := ?_) (by kernel_rfl) ?_ ?_
                  rotate_left
                  · intro _ _; go_simp; first | done | with_reducible rfl
                  simp only [Act.put, List.setIfInBounds_toArray, List.set_cons_zero, List.set_cons_succ]
                  refine hTake (by kernel_rfl) (fun d _ _ _ _ h => by cases d <;> exact h) hS 10 (some 85) _ rfl (v := ?_) (by kernel_rfl) ?_ ?_
                  rotate_left
                  · intro w9 hS9; have q := cell_below hS9 b3; go_simp; first | done | with_reducible rfl
                  simp only [Act.put, List.setIfInBounds_toArray, List.set_cons_zero, List.set_cons_succ]
                  refine hTake (by kernel_rfl) (fun d _ _ _ _ h => by cases d <;> exact h) hS 11 (some 86) _ rfl (v := ?_) (by kernel_rfl) ?_ ?_
                  rotate_left
                  · intro _ _; go_simp; first | done | with_reducible rfl
                  simp only [Act.put, List.setIfInBounds_toArray, List.set_cons_zero, List.set_cons_succ]
                  refine hTake (by kernel_rfl) (fun d _ _ _ _ h => by cases d <;> exact h) hS 12 (some 87) _ rfl (v := ?_) (by kernel_rfl) ?_ ?_
                  rotate_left
                  · intro _ _; go_simp; first | done | with_reducible rfl
                  simp only [Act.put, List.setIfInBounds_toArray, List.set_cons_zero, List.set_cons_succ]
                  refine hTake (by kernel_rfl) (fun d _ _ _ _ h => by cases d <;> exact h) hS 13 (some 88) _ rfl (v := ?_) (by kernel_rfl) ?_ ?_
                  rotate_left
                  · intro _ _; go_simp; first | done | with_reducible rfl
                  simp only [Act.put, List.setIfInBounds_toArray, List.set_cons_zero, List.set_cons_succ]
                  refine hTake (by kernel_rfl) (fun d _ _ _ _ h => by cases d <;> exact h) hS 14 (some 89) _ rfl (v := ?_) (by kernel_rfl) ?_ ?_
                  rotate_left
                  · intro _ _; go_simp; first | done | with_reducible rfl
                  simp only [Act.put, List.setIfInBounds_toArray, List.set_cons_zero, List.set_cons_succ]
                  refine hTake (by kernel_rfl) (fun d _ _ _ _ h => by cases d <;> exact h) hS 15 (some 90) _ rfl (v := ?_) (by kernel_rfl) ?_ ?_
                  rotate_left
                  · intro _ _; go_simp; first | done | with_reducible rfl
                  simp only [Act.put, List.setIfInBounds_toArray, List.set_cons_zero, List.set_cons_succ]
                  refine hTake (by kernel_rfl) (fun d _ _ _ _ h => by cases d <;> exact h) hS 16 (some 91) _ rfl (v := ?_) (by kernel_rfl) ?_ ?_
                  rotate_left
                  · intro _ _; go_simp; first | done | with_reducible rfl
                  simp only [Act.put, List.setIfInBounds_toArray, List.set_cons_zero, List.set_cons_succ]
                  refine hTake (by kernel_rfl) (fun d _ _ _ _ h => by cases d <;> exact h) hS 17 (some 92) _ rfl (v := ?_) (by kernel_rfl) ?_ ?_
                  rotate_left
                  · intro _ _; go_simp; first | done | with_reducible rfl
                  simp only [Act.put, List.setIfInBounds_toArray, List.set_cons_zero, List.set_cons_succ]
                  refine hTake (by kernel_rfl) (fun d _ _ _ _ h => by cases d <;> exact h) hS 18 (some 93) _ rfl (v := ?_) (by kernel_rfl) ?_ ?_
                  rotate_left
                  · intro _ _; go_simp; first | done | with_reducible rfl
                  simp only [Act.put, List.setIfInBounds_toArray, List.set_cons_zero, List.set_cons_succ]
                  refine hTake (by kernel_rfl) (fun d _ _ _ _ h => by cases d <;> exact h) hS 19 (some 94) _ rfl (v := ?_) (by kernel_rfl) ?_ ?_
                  rotate_left
                  · intro _ _; go_simp; first | done | with_reducible rfl
                  simp only [Act.put, List.setIfInBounds_toArray, List.set_cons_zero, List.set_cons_succ]
                  refine hTake (by kernel_rfl) (fun d _ _ _ _ h => by cases d <;> exact h) hS 20 (some 95) _ rfl (v := ?_) (by kernel_rfl) ?_ ?_
                  rotate_left
                  · intro _ _; go_simp; first | done | with_reducible rfl
                  simp only [Act.put, List.setIfInBounds_toArray, List.set_cons_zero, List.set_cons_succ]
                  refine hTake (by kernel_rfl) (fun d _ _ _ _ h => by cases d <;> exact h) hS 21 (some 96) _ rfl (v := ?_) (by kernel_rfl) ?_ ?_
                  rotate_left
                  · intro _ _; go_simp; first | done | with_reducible rfl
                  simp only [Act.put, List.setIfInBounds_toArray, List.set_cons_zero, List.set_cons_succ]
                  refine hTake (by kernel_rfl) (fun d _ _ _ _ h => by cases d <;> exact h) hS 22 (some 97) _ rfl (v := ?_) (by kernel_rfl) ?_ ?_
                  rotate_left
                  · intro w9 hS9; have q := cell_below hS9 cb; go_simp; first | done | with_reducible rfl
                  simp only [Act.put, List.setIfInBounds_toArray, List.set_cons_zero, List.set_cons_succ]
                  refine hTake (by kernel_rfl) (fun d _ _ _ _ h => by cases d <;> exact h) hS 23 (some 98) _ rfl (v := ?_) (by kernel_rfl) ?_ ?_
                  rotate_left
                  · intro _ _; go_simp; first | done | with_reducible rfl
                  simp only [Act.put, List.setIfInBounds_toArray, List.set_cons_zero, List.set_cons_succ]
                  refine hTake (by kernel_rfl) (fun d _ _ _ _ h => by cases d <;> exact h) hS 24 (some 99) _ rfl (v := ?_) (by kernel_rfl) ?_ ?_
                  rotate_left
                  · intro _ _; go_simp; first | done | with_reducible rfl
                  simp only [Act.put, List.setIfInBounds_toArray, List.set_cons_zero, List.set_cons_succ]
                  refine hTake (by kernel_rfl) (fun d _ _ _ _ h => by cases d <;> exact h) hS 25 (some 100) _ rfl (v := ?_) (by kernel_rfl) ?_ ?_
                  rotate_left
                  · intro w9 hS9; have q := cell_below hS9 b1; go_simp; first | done | with_reducible rfl
                  simp only [Act.put, List.setIfInBounds_toArray, List.set_cons_zero, List.set_cons_succ]
                  refine hTake (by kernel_rfl) (fun d _ _ _ _ h => by cases d <;> exact h) hS 26 (some 101) _ rfl (v := ?_) (by kernel_rfl) ?_ ?_
                  rotate_left
                  · intro _ _; go_simp; first | done | with_reducible rfl
                  simp only [Act.put, List.setIfInBounds_toArray, List.set_cons_zero, List.set_cons_succ]
                  refine hTake (by kernel_rfl) (fun d _ _ _ _ h => by cases d <;> exact h) hS 27 (some 102) _ rfl (v := ?_) (by kernel_rfl) ?_ ?_
                  rotate_left
                  · intro _ _; go_simp; first | done | with_reducible rfl
                  simp only [Act.put, List.setIfInBounds_toArray, List.set_cons_zero, List.set_cons_succ]
                  refine hTake (by kernel_rfl) (fun d _ _ _ _ h => by cases d <;> exact h) hS 28 (some 103) _ rfl (v := ?_) (by kernel_rfl) ?_ ?_
                  rotate_left
                  · intro _ _; go_simp; first | done | with_reducible rfl
                  simp only [Act.put, List.setIfInBounds_toArray, List.set_cons_zero, List.set_cons_succ]
                  refine hTake (by kernel_rfl) (fun d _ _ _ _ h => by cases d <;> exact h) hS 29 (some 104) _ rfl (v := ?_) (by kernel_rfl) ?_ ?_
                  rotate_left
                  · intro _ _; go_simp; first | done | with_reducible rfl
                  simp only [Act.put, List.setIfInBounds_toArray, List.set_cons_zero, List.set_cons_succ]
                  refine hTake (by kernel_rfl) (fun d _ _ _ _ h => by cases d <;> exact h) hS 30 (some 105) _ rfl (v := ?_) (by kernel_rfl) ?_ ?_
                  rotate_left
                  · intro _ _; go_simp; first | done | with_reducible rfl
                  simp only [Act.put, List.setIfInBounds_toArray, List.set_cons_zero, List.set_cons_succ]
                  refine hTake (by kernel_rfl) (fun d _ _ _ _ h => by cases d <;> exact h) hS 31 (some 106) _ rfl (v := ?_) (by kernel_rfl) ?_ ?_
                  rotate_left
                  · intro w9 hS9; have q := cell_below hS9 ca; go_simp; first | done | with_reducible rfl
                  simp only [Act.put, List.setIfInBounds_toArray, List.set_cons_zero, List.set_cons_succ]
                  refine hTake (by kernel_rfl) (fun d _ _ _ _ h => by cases d <;> exact h) hS 32 (some 107) _ rfl (v := ?_) (by kernel_rfl) ?_ ?_
                  rotate_left
                  · intro _ _; go_simp; first | done | with_reducible rfl
                  simp only [Act.put, List.setIfInBounds_toArray, List.set_cons_zero, List.set_cons_succ]
                  refine hTake (by kernel_rfl) (fun d _ _ _ _ h => by cases d <;> exact h) hS 33 (some 108) _ rfl (v := ?_) (by kernel_rfl) ?_ ?_
                  rotate_left
                  · intro _ _; go_simp; first | done | with_reducible rfl
                  simp only [Act.put, List.setIfInBounds_toArray, List.set_cons_zero, List.set_cons_succ]
                  refine hTake (by kernel_rfl) (fun d _ _ _ _ h => by cases d <;> exact h) hS 34 (some 109) _ rfl (v := ?_) (by kernel_rfl) ?_ ?_
                  rotate_left
                  · intro w9 hS9; have q := cell_below hS9 a1; go_simp; first | done | with_reducible rfl
                  simp only [Act.put, List.setIfInBounds_toArray, List.set_cons_zero, List.set_cons_succ]
                  refine hTake (by kernel_rfl) (fun d _ _ _ _ h => by cases d <;> exact h) hS 35 (some 110) _ rfl (v := ?_) (by kernel_rfl) ?_ ?_
                  rotate_left
                  · intro _ _; go_simp; first | done | with_reducible rfl
                  simp only [Act.put, List.setIfInBounds_toArray, List.set_cons_zero, List.set_cons_succ]
                  refine hTake (by kernel_rfl) (fun d _ _ _ _ h => by cases d <;> exact h) hS 36 (some 111) _ rfl (v := ?_) (by kernel_rfl) ?_ ?_
                  rotate_left
                  · intro _ _; go_simp; first | done | with_reducible rfl
                  simp only [Act.put, List.setIfInBounds_toArray, List.set_cons_zero, List.set_cons_succ]
                  refine hTake (by kernel_rfl) (fun d _ _ _ _ h => by cases d <;> exact h) hS 37 (some 112) _ rfl (v := ?_) (by kernel_rfl) ?_ ?_
                  rotate_left
                  · intro _ _; go_simp; first | done | with_reducible rfl
                  simp only [Act.put, List.setIfInBounds_toArray, List.set_cons_zero, List.set_cons_succ]
                  refine hTake (by kernel_rfl) (fun d _ _ _ _ h => by cases d <;> exact h) hS 38 (some 113) _ rfl (v := ?_) (by kernel_rfl) ?_ ?_
                  rotate_left
                  · intro _ _; go_simp; first | done | with_reducible rfl
                  simp only [Act.put, List.setIfInBounds_toArray, List.set_cons_zero, List.set_cons_succ]
                  refine hTake (by kernel_rfl) (fun d _ _ _ _ h => by cases d <;> exact h) hS 39 (some 114) _ rfl (v := ?_) (by kernel_rfl) ?_ ?_
                  rotate_left
                  · intro _ _; go_simp; first | done | with_reducible rfl
                  simp only [Act.put, List.setIfInBounds_toArray, List.set_cons_zero, List.set_cons_succ]
                  refine hTake (by kernel_rfl) (fun d _ _ _ _ h => by cases d <;> exact h) hS 40 (some 115) _ rfl (v := ?_) (by kernel_rfl) ?_ ?_
                  rotate_left
                  · intro w9 hS9; have q := cell_below hS9 ca; go_simp; first | done | with_reducible rfl
                  simp only [Act.put, List.setIfInBounds_toArray, List.set_cons_zero, List.set_cons_succ]
                  refine hTake (by kernel_rfl) (fun d _ _ _ _ h => by cases d <;> exact h) hS 41 (some 116) _ rfl (v := ?_) (by kernel_rfl) ?_ ?_
                  rotate_left
                  · intro _ _; go_simp; first | done | with_reducible rfl
                  simp only [Act.put, List.setIfInBounds_toArray, List.set_cons_zero, List.set_cons_succ]
                  refine hTake (by kernel_rfl) (fun d _ _ _ _ h => by cases d <;> exact h) hS 42 (some 117) _ rfl (v := ?_) (by kernel_rfl) ?_ ?_
                  rotate_left
                  · intro _ _; go_simp; first | done | with_reducible rfl
                  simp only [Act.put, List.setIfInBounds_toArray, List.set_cons_zero, List.set_cons_succ]
                  refine hTake (by kernel_rfl) (fun d _ _ _ _ h => by cases d <;> exact h) hS 43 (some 118) _ rfl (v := ?_) (by kernel_rfl) ?_ ?_
                  rotate_left
                  · intro w9 hS9; have q := cell_below hS9 a3; go_simp; first | done | with_reducible rfl
                  simp only [Act.put, List.setIfInBounds_toArray, List.set_cons_zero, List.set_cons_succ]
                  refine hTake (by kernel_rfl) (fun d _ _ _ _ h => by cases d <;> exact h) hS 44 (some 119) _ rfl (v := ?_) (by kernel_rfl) ?_ ?_
                  rotate_left
                  · intro _ _; go_simp; first | done | with_reducible rfl
                  simp only [Act.put, List.setIfInBounds_toArray, List.set_cons_zero, List.set_cons_succ]
                  refine hTake (by kernel_rfl) (fun d _ _ _ _ h => by cases d <;> exact h) hS 45 (some 120) _ rfl (v := ?_) (by kernel_rfl) ?_ ?_
                  rotate_left
                  · intro _ _; go_simp; first | done | with_reducible rfl
                  simp only [Act.put, List.setIfInBounds_toArray, List.set_cons_zero, List.set_cons_succ]
                  refine hTake (by kernel_rfl) (fun d _ _ _ _ h => by cases d <;> exact h) hS 46 (some 121) _ rfl (v := ?_) (by kernel_rfl) ?_ ?_
                  rotate_left
                  · intro _ _; go_simp; first | done | with_reducible rfl
                  simp only [Act.put, List.setIfInBounds_toArray, List.set_cons_zero, List.set_cons_succ]
                  refine hTake (by kernel_rfl) (fun d _ _ _ _ h => by cases d <;> exact h) hS 47 (some 122) _ rfl (v := ?_) (by kernel_rfl) ?_ ?_
                  rotate_left
                  · intro _ _; go_simp; first | done | with_reducible rfl
                  simp only [Act.put, List.setIfInBounds_toArray, List.set_cons_zero, List.set_cons_succ]
                  refine hTake (by kernel_rfl) (fun d _ _ _ _ h => by cases d <;> exact h) hS 48 (some 123) _ rfl (v := ?_) (by kernel_rfl) ?_ ?_
                  rotate_left
                  · intro _ _; go_simp; first | done | with_reducible rfl
                  simp only [Act.put, List.setIfInBounds_toArray, List.set_cons_zero, List.set_cons_succ]
                  refine hTake (by kernel_rfl) (fun d _ _ _ _ h => by cases d <;> exact h) hS 49 (some 124) _ rfl (v := ?_) (by kernel_rfl) ?_ ?_
                  rotate_left
                  · intro w9 hS9; have q := cell_below hS9 cg; go_simp; first | done | with_reducible rfl
                  simp only [Act.put, List.setIfInBounds_toArray, List.set_cons_zero, List.set_cons_succ]
                  refine hTake (by kernel_rfl) (fun d _ _ _ _ h => by cases d <;> exact h) hS 50 (some 125) _ rfl (v := ?_) (by kernel_rfl) ?_ ?_
                  rotate_left
                  · intro _ _; go_simp; first | done | with_reducible rfl
                  simp only [Act.put, List.setIfInBounds_toArray, List.set_cons_zero, List.set_cons_succ]
                  refine hTake (by kernel_rfl) (fun d _ _ _ _ h => by cases d <;> exact h) hS 51 (some 126) _ rfl (v := ?_) (by kernel_rfl) ?_ ?_
                  rotate_left
                  · intro _ _; go_simp; first | done | with_reducible rfl
                  simp only [Act.put, List.setIfInBounds_toArray, List.set_cons_zero, List.set_cons_succ]
                  refine hTake (by kernel_rfl) (fun d _ _ _ _ h => by cases d <;> exact h) hS 52 (some 127) _ rfl (v := ?_) (by kernel_rfl) ?_ ?_
                  rotate_left
                  · intro _ _; go_simp; first | done | with_reducible rfl
                  simp only [Act.put, List.setIfInBounds_toArray, List.set_cons_zero, List.set_cons_succ]
                  refine hTake (by kernel_rfl) (fun d _ _ _ _ h => by cases d <;> exact h) hS 53 (some 128) _ rfl (v := ?_) (by kernel_rfl) ?_ ?_
                  rotate_left
                  · intro _ _; go_simp; first | done | with_reducible rfl
                  simp only [Act.put, List.setIfInBounds_toArray, List.set_cons_zero, List.set_cons_succ]
                  clear cb cg b0 b1 b2 b3 ca a0 a1 a2 a3
                  refine wpAnyH_done (by kernel_rfl) ?_ _
                  have HB6 := Lib.hid (after hb6 hS (Nat.le_refl _))
                  clear hS hb6
                  go_wp2
                  go_roundw
                  case rel => exact ⟨j + 1, by go_num, by omega, HB6.out⟩
                  case measure => simp [intOf]; omega
              · obtain rfl : j = K.length := by omega
                have hB := Lib.hid (hb.trans (hb6.mono hb.size))
                clear cg
                go_wp2
                go_roundw
                case rel => exact ⟨p + 1, by go_num, by omega, HTT.out.below hb6 (Nat.le_refl _), HRR.out.below hb6 (Nat.le_refl _), hB.out⟩
                case measure => simp [intOf]; omega
          · have e2 : ((bx l p).kind != 1) = true := by rw [bne_iff_ne]; exact hk1
            clear hk1
            go_wp2
            go_roundw
            case rel => exact ⟨p + 1, by go_num, by omega, hrT, hR, hb⟩
            case measure => simp [intOf]; omega
        · obtain rfl : p = l.length := by omega
          go_wp2
          go_ret
          exact ⟨rfl, hb⟩
end Go.Proofs.Ytkbgmfapcekakaa
