/-
  The law FnLayoutRootStyle: the walk.
-/
import Derived.Test.YtkbgmfapcekakaaAc
import Derived.Test.YtkbgmfapcekakaaTre
import Derived.Test.YtkbgmfapcekakaaAf
import Derived.Test.YtkbgmfapcekakaaAg
import Derived.Test.YtkbgmfapcekakaaLStyA
namespace Go.Proofs.Ytkbgmfapcekakaa
open Go Go.RowKit

theorem rc_ne {r s : Rc} (h : ¬ r = s) : ¬ (r.x = s.x ∧ r.y = s.y ∧ r.w = s.w ∧ r.h = s.h) := fun ⟨h1, h2, h3, h4⟩ => h (by
  cases r
  cases s
  cases h1
  cases h2
  cases h3
  cases h4
  rfl)
set_option maxRecDepth 100000 in
set_option maxHeartbeats 20000000 in
theorem FnLayoutRootStyle_any {v : Value} (w : World) (hv : RdBytes w v) :
    Calls Try.prog 3 #[v] w fun e w' => e = .returned (.bool true) ∧ Ext w w' := by
  have hv2 := hv
  obtain ⟨ad, n, c, rfl, hn, hc, _⟩ := hv
  unfold maxLen at hc
  by_cases hlen : 1048576 < n
  · have hlen' : (1048576 : Int) < n := by omega
    go_enter Try.func3, Try.ntmps3
    go_wp2
    go_ret
    exact ⟨rfl, Below.refl _ _⟩
  · have hlen' : ¬ ((1048576 : Int) < n) := by omega
    go_enter Try.func3, Try.ntmps3
    go_wp2_with (fail)
    refine (DrawStyleBox_any _ hv2).mono ?_
    rintro e w1 ⟨v1, i, x, rfl, l, hl, hi0, hi1, ho1, hb⟩
    have hrT := ho1.rd.alloc (.cells x.arr 25)
    have hs1 := hb.size
    replace hb := hb.alloc hs1 (.cells x.arr 25)
    have hK := Keep.new w1 (.cells x.arr 25)
    unfold Bx.agg
    clear ho1 hv2
    go_wp2_with (fail)
    change Calls _ _ #[v1, .int .i64 i, x.agg] (w1.alloc (.cells x.arr 25)) _
    generalize hW1 : w1.alloc (.cells x.arr 25) = W1 at *
    generalize w1.heap.size = B at *
    clear hW1
    refine (StyleBox_any (l := l) i x _ hrT).mono ?_
    rintro e w2 ⟨v2, rfl, ho2, hx⟩
    replace hb := after hb hx (Nat.le_refl _)
    replace hrT := hrT.below hx (Nat.le_refl _)
    replace hK := keepE hK hx
    have hrO := ho2.rd
    clear ho2 hx
    obtain ⟨d0, d1, d2, d3, d4, d5, d6, d7, d8⟩ := hK.c9
    go_wp2_with (fail)
    change Calls _ _ #[v1, .int .i64 i, x.agg] w2 _
    clear d0 d1 d2 d3 d4 d5 d6 d7 d8
    refine (sStyleBox_any (l := l) i x _ hrT (by omega)).mono ?_
    rintro e w3 ⟨v3, rfl, ho3, hx⟩
    replace hb := after hb hx (Nat.le_refl _)
    replace hrT := hrT.below hx (Nat.le_refl _)
    replace hrO := hrO.below hx (Nat.le_refl _)
    have hrW := ho3.rd
    clear ho3 hx hK
    by_cases hok : styleOk l i x = true
    · obtain ⟨hB, hvo⟩ := styleOk_in hok
      obtain ⟨hval, h0, hil⟩ := inB_iff.1 hB
      obtain ⟨i, rfl⟩ := Int.eq_ofNat_of_zero_le h0
      have hi : i < l.length := by omega
      have hlen := styleL_length l (i : Int) x
      have hvm := vldB_iff.1 hvo
      have hbx : ∀ j, j ≠ i → bx (styleL l (i : Int) x) j = bx l j := fun j hj => by rw [styleL_bx x hi, if_neg hj]
      have hpar : ∀ j, par (styleL l (i : Int) x) j = par l j := fun j => by
        show (bx (styleL l (i : Int) x) j).parent = (bx l j).parent
        rw [styleL_bx x hi]
        split
        · rename_i e
          subst e
          rfl
        · rfl
      have HSR := Lib.hid (fun (k p : Nat) (hk : k < l.length) (hp : par l k = (p : Int)) (hne : p ∉ anc l i) (he : rect (styleL l (i : Int) x) 300 200 p = rect l 300 200 p) => style_rect hval hvm hi hlen hpar hbx hk hp hne he)
      rw [hok, orNo_t] at hrO hrW
      rw [hok]
      have hi2 : i < (styleL l (i : Int) x).length := by omega
      obtain ⟨b2, off2, c2, rfl, hn4, hc4⟩ := rd_addr hi2 hrO
      generalize styleL l (i : Int) x = m at *
      have hlen1 : m.length ≤ l.length := by omega
      have hlen2 : l.length ≤ m.length := by omega
      have HV := Lib.hid hval
      have HVM := Lib.hid hvm
      have hokl : scrB l 300 200 = true := scrB_iff.2 ⟨hval, by omega, by omega⟩
      have hokm : scrB m 300 200 = true := scrB_iff.2 ⟨hvm, by omega, by omega⟩
      clear hB hval hvm hok hvo hlen hbx hpar
      go_wp2_with (fail)
      refine ((equalBoxes_any _ hrO hrW)).mono ?_
      rintro e w4 ⟨rfl, hx⟩
      replace hb := after hb hx (Nat.le_refl _)
      replace hrT := hrT.below hx (Nat.le_refl _)
      replace hrO := hrO.below hx (Nat.le_refl _)
      clear hx
      clear hrW
      go_wp2_with (fail)
      refine ((LayoutRoot_any (l := l) (i := i) _ hrT HV.out hi)).mono ?_
      rintro e w5 ⟨r, rfl, ⟨hr0, hr1⟩, hx⟩
      replace hb := after hb hx (Nat.le_refl _)
      replace hrT := hrT.below hx (Nat.le_refl _)
      replace hrO := hrO.below hx (Nat.le_refl _)
      clear hx
      go_wp2_with (fail)
      refine ((LayoutTree_any (l := l) 300 200 _ hrT)).mono ?_
      rintro e w6 ⟨v6, rfl, ho6, hx⟩
      replace hb := after hb hx (Nat.le_refl _)
      replace hrT := hrT.below hx (Nat.le_refl _)
      replace hrO := hrO.below hx (Nat.le_refl _)
      clear hx
      have hrL := ho6.rd
      rw [rectsOr_t hokl] at hrL
      obtain ⟨bL, oL, cL, rfl, hnL, hcL, hL⟩ := rectS hrL (by omega)
      clear ho6 hrL
      go_wp2_with (fail)
      refine ((LayoutTree_any (l := m) 300 200 _ hrO)).mono ?_
      rintro e w7 ⟨v7, rfl, ho7, hx⟩
      replace hb := after hb hx (Nat.le_refl _)
      replace hrT := hrT.below hx (Nat.le_refl _)
      replace hL := hL.below hx (Nat.le_refl _)
      clear hx
      have hrM := ho7.rd
      rw [rectsOr_t hokm] at hrM
      obtain ⟨bM, oM, cM, rfl, hnM, hcM, hM⟩ := rectS hrM (by omega)
      clear ho7 hrM hrO hokl hokm
      obtain ⟨bT, oT, cT, rfl, hnT, hcT⟩ := rd_addr hi hrT
      have hrm : r < (m.length : Int) := by omega
      have hrn : ¬ r < 0 := by omega
      go_wp2
      go_loopw [13] (fun n wr => ∃ k : Nat, n = .int .i64 k ∧ k ≤ l.length ∧ Hid (Rd wr 9 (.slice (some ⟨bT, oT, none⟩) l.length cT) (Bs l)) ∧ Hid (RC l 300 200 bL oL wr) ∧ Hid (RC m 300 200 bM oM wr) ∧ Below w.heap.size w wr) (fun n _ => l.length - (intOf n).toNat)
      case atStart => exact ⟨0, rfl, Nat.zero_le _, hrT, hL, hM, hb⟩
      case round =>
        clear hrT hL hM hb
        obtain ⟨k, rfl, hk, hrT, hL, hM, hb⟩ := hrel
        by_cases hlt : k < l.length
        · have hki : (k : Int) < l.length := by omega
          have hkm : k < m.length := by omega
          have hkmi : (k : Int) < m.length := by omega
          have hk0 : (0 : Int) ≤ (k : Int) := by omega
          have cpk : wr.cell? ⟨bT, oT + k * 9, none⟩ = some (.int .i64 (par l k)) := (cells_at hlt hrT.out).c0
          have HTX := Lib.hid (fun w9 (h : Below wr.heap.size wr w9) => (show Hid (Rd w9 9 (.slice (some ⟨bT, oT, none⟩) l.length cT) (Bs l)) from hrT.out.below h (Nat.le_refl _)))
          have HLX := Lib.hid (fun w9 (h : Below wr.heap.size wr w9) => (show Hid (RC l 300 200 bL oL w9) from hL.out.below h (Nat.le_refl _)))
          have HMX := Lib.hid (fun w9 (h : Below wr.heap.size wr w9) => (show Hid (RC m 300 200 bM oM w9) from hM.out.below h (Nat.le_refl _)))
          rcases Nat.eq_zero_or_pos k with hz | hz
          · have hp0 : par l k = -1 := by rw [hz]; exact HV.out.root
            rw [hp0] at cpk
            clear hp0 hz hrT hL hM
            go_upto_region 16 with fail
            refine wp_region_held_drew (S := fun w' => Below wr.heap.size wr w') (by kernel_rfl) (Below.refl _ _).drew (fun hS => ?_)
            change wpAnyH _ _ _ _ _ _ _ _ wr.drew
            generalize wr.drew = wd at *
            refine hTake (by kernel_rfl) (fun d _ _ _ _ h => by cases d <;> exact h) hS 0 (some 91) _ rfl (v := ?_) (by kernel_rfl) ?_ ?_
            rotate_left
            · intro _ _; go_simp; first | done | with_reducible rfl
            simp only [Act.put, List.setIfInBounds_toArray, List.set_cons_zero, List.set_cons_succ]
            refine hTake (by kernel_rfl) (fun d _ _ _ _ h => by cases d <;> exact h) hS 1 (some 92) _ rfl (v := ?_) (by kernel_rfl) ?_ ?_
            rotate_left
            · intro _ _; go_simp; first | done | with_reducible rfl
            simp only [Act.put, List.setIfInBounds_toArray, List.set_cons_zero, List.set_cons_succ]
            refine hTake (by kernel_rfl) (fun d _ _ _ _ h => by cases d <;> exact h) hS 2 (some 93) _ rfl (v := ?_) (by kernel_rfl) ?_ ?_
            rotate_left
            · intro _ _; go_simp; first | done | with_reducible rfl
            simp only [Act.put, List.setIfInBounds_toArray, List.set_cons_zero, List.set_cons_succ]
            refine hTake (by kernel_rfl) (fun d _ _ _ _ h => by cases d <;> exact h) hS 3 (some 94) _ rfl (v := ?_) (by kernel_rfl) ?_ ?_
            rotate_left
            · intro _ _; go_simp; first | done | with_reducible rfl
            simp only [Act.put, List.setIfInBounds_toArray, List.set_cons_zero, List.set_cons_succ]
            refine hTake (by kernel_rfl) (fun d _ _ _ _ h => by cases d <;> exact h) hS 4 (some 95) _ rfl (v := ?_) (by kernel_rfl) ?_ ?_
            rotate_left
            · intro w9 hS9; have q := cell_below hS9 cpk; go_simp; first | done | with_reducible rfl
            simp only [Act.put, List.setIfInBounds_toArray, List.set_cons_zero, List.set_cons_succ]
            refine hTake (by kernel_rfl) (fun d _ _ _ _ h => by cases d <;> exact h) hS 5 (some 96) _ rfl (v := ?_) (by kernel_rfl) ?_ ?_
            rotate_left
            · intro _ _; go_simp; first | done | with_reducible rfl
            simp only [Act.put, List.setIfInBounds_toArray, List.set_cons_zero, List.set_cons_succ]
            refine hTake (by kernel_rfl) (fun d _ _ _ _ h => by cases d <;> exact h) hS 6 (some 97) _ rfl (v := ?_) (by kernel_rfl) ?_ ?_
            rotate_left
            · intro _ _; go_simp; first | done | with_reducible rfl
            simp only [Act.put, List.setIfInBounds_toArray, List.set_cons_zero, List.set_cons_succ]
            refine hSkips (by kernel_rfl) (fun d _ _ _ _ h => by cases d <;> exact h) hS [7, 8, 9, 10, 11, 12, 13, 14, 15, 16, 17, 18, 19, 20, 21, 22, 23] [some 98, some 99, some 100, some 101, some 102, some 103, some 104, some 105, some 106, some 107, some 108, some 109, some 110, some 111, some 112, some 113, some 114] (by kernel_rfl) ?_
            simp only [putUndef, listAll, List.foldl_cons, List.foldl_nil, Act.put, List.setIfInBounds_toArray, List.set_cons_zero, List.set_cons_succ]
            refine hTake (by kernel_rfl) (fun d _ _ _ _ h => by cases d <;> exact h) hS 24 (some 115) _ rfl (v := ?_) (by kernel_rfl) ?_ ?_
            rotate_left
            · intro _ _; go_simp; first | done | with_reducible rfl
            simp only [Act.put, List.setIfInBounds_toArray, List.set_cons_zero, List.set_cons_succ]
            refine hTake (by kernel_rfl) (fun d _ _ _ _ h => by cases d <;> exact h) hS 25 (some 116) _ rfl (v := ?_) (by kernel_rfl) ?_ ?_
            rotate_left
            · intro _ _; go_simp; first | done | with_reducible rfl
            simp only [Act.put, List.setIfInBounds_toArray, List.set_cons_zero, List.set_cons_succ]
            refine hSkips (by kernel_rfl) (fun d _ _ _ _ h => by cases d <;> exact h) hS [26, 27, 28, 29, 30, 31, 32, 33, 34] [some 117, some 118, some 119, some 120, some 121, some 122, some 123, some 124, some 125] (by kernel_rfl) ?_
            simp only [putUndef, listAll, List.foldl_cons, List.foldl_nil, Act.put, List.setIfInBounds_toArray, List.set_cons_zero, List.set_cons_succ]
            refine hTake (by kernel_rfl) (fun d _ _ _ _ h => by cases d <;> exact h) hS 35 (some 126) _ rfl (v := ?_) (by kernel_rfl) ?_ ?_
            rotate_left
            · intro _ _; go_simp; first | done | with_reducible rfl
            simp only [Act.put, List.setIfInBounds_toArray, List.set_cons_zero, List.set_cons_succ]
            refine hTake (by kernel_rfl) (fun d _ _ _ _ h => by cases d <;> exact h) hS 36 (some 127) _ rfl (v := ?_) (by kernel_rfl) ?_ ?_
            rotate_left
            · intro _ _; go_simp; first | done | with_reducible rfl
            simp only [Act.put, List.setIfInBounds_toArray, List.set_cons_zero, List.set_cons_succ]
            refine hSkips (by kernel_rfl) (fun d _ _ _ _ h => by cases d <;> exact h) hS [37, 38, 39, 40, 41, 42, 43, 44, 45] [some 128, some 129, some 130, some 131, some 132, some 133, some 134, some 135, some 136] (by kernel_rfl) ?_
            simp only [putUndef, listAll, List.foldl_cons, List.foldl_nil, Act.put, List.setIfInBounds_toArray, List.set_cons_zero, List.set_cons_succ]
            refine hTake (by kernel_rfl) (fun d _ _ _ _ h => by cases d <;> exact h) hS 46 (some 137) _ rfl (v := ?_) (by kernel_rfl) ?_ ?_
            rotate_left
            · intro _ _; go_simp; first | done | with_reducible rfl
            simp only [Act.put, List.setIfInBounds_toArray, List.set_cons_zero, List.set_cons_succ]
            refine wpAnyH_done (by kernel_rfl) ?_ _
            have HB6 := Lib.hid (after hb hS (Nat.le_refl _))
            have HT6 := HTX.out _ hS
            have HL6 := HLX.out _ hS
            have HM6 := HMX.out _ hS
            clear hS hb cpk HTX HLX HMX
            go_wp2
            go_roundw
            case rel => exact ⟨k + 1, by go_num, by omega, HT6, HL6, HM6, HB6.out⟩
            case measure => simp [intOf]; omega
          · have hpp := HV.out.par k hz hlt
            obtain ⟨p, hp⟩ : ∃ p : Nat, par l k = (p : Int) := ⟨(par l k).toNat, by omega⟩
            have hpl : p < l.length := by omega
            have hpm : p < m.length := by omega
            have hpli : (p : Int) < l.length := by omega
            have hpmi : (p : Int) < m.length := by omega
            have hp0 : (0 : Int) ≤ (p : Int) := by omega
            rw [hp] at cpk
            obtain ⟨l0, l1, l2, l3⟩ := hL.out.cs p hpl
            obtain ⟨m0, m1, m2, m3⟩ := hM.out.cs p hpm
            by_cases he : rect m 300 200 p = rect l 300 200 p
            · rw [he] at m0 m1 m2 m3
              obtain ⟨a0, a1, a2, a3⟩ := hL.out.cs k hlt
              obtain ⟨b0, b1, b2, b3⟩ := hM.out.cs k hkm
              have HSK := Lib.hid (fun hne => HSR.out k p hlt hp hne he)
              clear he hpp hz hrT hL hM hp
              generalize rect l 300 200 p = s at *
              cases har : isAr l (p : Int) (i : Int) with
              | false =>
                have hne : p ∉ anc l i := fun hm => by
                  have : isAr l (p : Int) (i : Int) = true := by
                    unfold isAr arB
                    rw [inB_iff.2 ⟨HV.out, by omega, by omega⟩, inB_iff.2 ⟨HV.out, by omega, by omega⟩, Int.toNat_natCast, Int.toNat_natCast, decide_eq_true hm]
                    rfl
                  rw [har] at this
                  cases this
                rw [HSK.out hne] at b0 b1 b2 b3
                have HAR := Lib.hid har
                clear hne har HSK
                generalize rect l 300 200 k = r at *
                go_upto_region 16 with fail
                refine wp_region_held_drew (S := fun w' => Below wr.heap.size wr w') (by kernel_rfl) (Below.refl _ _).drew (fun hS => ?_)
                change wpAnyH _ _ _ _ _ _ _ _ wr.drew
                generalize wr.drew = wd at *
                refine hTake (by kernel_rfl) (fun d _ _ _ _ h => by cases d <;> exact h) hS 0 (some 91) _ rfl (v := ?_) (by kernel_rfl) ?_ ?_
                rotate_left
                · intro _ _; go_simp; first | done | with_reducible rfl
                simp only [Act.put, List.setIfInBounds_toArray, List.set_cons_zero, List.set_cons_succ]
                refine hTake (by kernel_rfl) (fun d _ _ _ _ h => by cases d <;> exact h) hS 1 (some 92) _ rfl (v := ?_) (by kernel_rfl) ?_ ?_
                rotate_left
                · intro _ _; go_simp; first | done | with_reducible rfl
                simp only [Act.put, List.setIfInBounds_toArray, List.set_cons_zero, List.set_cons_succ]
                refine hTake (by kernel_rfl) (fun d _ _ _ _ h => by cases d <;> exact h) hS 2 (some 93) _ rfl (v := ?_) (by kernel_rfl) ?_ ?_
                rotate_left
                · intro _ _; go_simp; first | done | with_reducible rfl
                simp only [Act.put, List.setIfInBounds_toArray, List.set_cons_zero, List.set_cons_succ]
                refine hTake (by kernel_rfl) (fun d _ _ _ _ h => by cases d <;> exact h) hS 3 (some 94) _ rfl (v := ?_) (by kernel_rfl) ?_ ?_
                rotate_left
                · intro _ _; go_simp; first | done | with_reducible rfl
                simp only [Act.put, List.setIfInBounds_toArray, List.set_cons_zero, List.set_cons_succ]
                refine hTake (by kernel_rfl) (fun d _ _ _ _ h => by cases d <;> exact h) hS 4 (some 95) _ rfl (v := ?_) (by kernel_rfl) ?_ ?_
                rotate_left
                · intro w9 hS9; have q := cell_below hS9 cpk; go_simp; first | done | with_reducible rfl
                simp only [Act.put, List.setIfInBounds_toArray, List.set_cons_zero, List.set_cons_succ]
                refine hTake (by kernel_rfl) (fun d _ _ _ _ h => by cases d <;> exact h) hS 5 (some 96) _ rfl (v := ?_) (by kernel_rfl) ?_ ?_
                rotate_left
                · intro _ _; go_simp; first | done | with_reducible rfl
                simp only [Act.put, List.setIfInBounds_toArray, List.set_cons_zero, List.set_cons_succ]
                refine hTake (by kernel_rfl) (fun d _ _ _ _ h => by cases d <;> exact h) hS 6 (some 97) _ rfl (v := ?_) (by kernel_rfl) ?_ ?_
                rotate_left
                · intro _ _; go_simp; first | done | with_reducible rfl
                simp only [Act.put, List.setIfInBounds_toArray, List.set_cons_zero, List.set_cons_succ]
                refine hTake (by kernel_rfl) (fun d _ _ _ _ h => by cases d <;> exact h) hS 7 (some 98) _ rfl (v := ?_) (by kernel_rfl) ?_ ?_
                rotate_left
                · intro _ _; go_simp; first | done | with_reducible rfl
                simp only [Act.put, List.setIfInBounds_toArray, List.set_cons_zero, List.set_cons_succ]
                refine hTake (by kernel_rfl) (fun d _ _ _ _ h => by cases d <;> exact h) hS 8 (some 99) _ rfl (v := ?_) (by kernel_rfl) ?_ ?_
                rotate_left
                · intro _ _; go_simp; first | done | with_reducible rfl
                simp only [Act.put, List.setIfInBounds_toArray, List.set_cons_zero, List.set_cons_succ]
                refine hTake (by kernel_rfl) (fun d _ _ _ _ h => by cases d <;> exact h) hS 9 (some 100) _ rfl (v := ?_) (by kernel_rfl) ?_ ?_
                rotate_left
                · intro _ _; go_simp; first | done | with_reducible rfl
                simp only [Act.put, List.setIfInBounds_toArray, List.set_cons_zero, List.set_cons_succ]
                refine hTake (by kernel_rfl) (fun d _ _ _ _ h => by cases d <;> exact h) hS 10 (some 101) _ rfl (v := ?_) (by kernel_rfl) ?_ ?_
                rotate_left
                · intro _ _; go_simp; first | done | with_reducible rfl
                simp only [Act.put, List.setIfInBounds_toArray, List.set_cons_zero, List.set_cons_succ]
                refine hTake (by kernel_rfl) (fun d _ _ _ _ h => by cases d <;> exact h) hS 11 (some 102) _ rfl (v := ?_) (by kernel_rfl) ?_ ?_
                rotate_left
                · intro _ _; go_simp; first | done | with_reducible rfl
                simp only [Act.put, List.setIfInBounds_toArray, List.set_cons_zero, List.set_cons_succ]
                refine hTake (by kernel_rfl) (fun d _ _ _ _ h => by cases d <;> exact h) hS 12 (some 103) _ rfl (v := ?_) (by kernel_rfl) ?_ ?_
                rotate_left
                · intro w9 hS9; have q := cell_below hS9 cpk; go_simp; first | done | with_reducible rfl
                simp only [Act.put, List.setIfInBounds_toArray, List.set_cons_zero, List.set_cons_succ]
                refine hTake (by kernel_rfl) (fun d _ _ _ _ h => by cases d <;> exact h) hS 13 (some 104) _ rfl (v := ?_) (by kernel_rfl) ?_ ?_
                rotate_left
                · intro _ _; go_simp; first | done | with_reducible rfl
                simp only [Act.put, List.setIfInBounds_toArray, List.set_cons_zero, List.set_cons_succ]
                refine hTake (by kernel_rfl) (fun d _ _ _ _ h => by cases d <;> exact h) hS 14 (some 105) _ rfl (v := ?_) (by kernel_rfl) ?_ ?_
                rotate_left
                · intro w9 hS9; have x0 := cell_below hS9 m0; have x1 := cell_below hS9 m1; have x2 := cell_below hS9 m2; have x3 := cell_below hS9 m3; go_simp; first | done | with_reducible rfl
                simp only [Act.put, List.setIfInBounds_toArray, List.set_cons_zero, List.set_cons_succ]
                refine hTake (by kernel_rfl) (fun d _ _ _ _ h => by cases d <;> exact h) hS 15 (some 106) _ rfl (v := ?_) (by kernel_rfl) ?_ ?_
                rotate_left
                · intro _ _; go_simp; first | done | with_reducible rfl
                simp only [Act.put, List.setIfInBounds_toArray, List.set_cons_zero, List.set_cons_succ]
                refine hTake (by kernel_rfl) (fun d _ _ _ _ h => by cases d <;> exact h) hS 16 (some 107) _ rfl (v := ?_) (by kernel_rfl) ?_ ?_
                rotate_left
                · intro _ _; go_simp; first | done | with_reducible rfl
                simp only [Act.put, List.setIfInBounds_toArray, List.set_cons_zero, List.set_cons_succ]
                refine hTake (by kernel_rfl) (fun d _ _ _ _ h => by cases d <;> exact h) hS 17 (some 108) _ rfl (v := ?_) (by kernel_rfl) ?_ ?_
                rotate_left
                · intro _ _; go_simp; first | done | with_reducible rfl
                simp only [Act.put, List.setIfInBounds_toArray, List.set_cons_zero, List.set_cons_succ]
                refine hTake (by kernel_rfl) (fun d _ _ _ _ h => by cases d <;> exact h) hS 18 (some 109) _ rfl (v := ?_) (by kernel_rfl) ?_ ?_
                rotate_left
                · intro _ _; go_simp; first | done | with_reducible rfl
                simp only [Act.put, List.setIfInBounds_toArray, List.set_cons_zero, List.set_cons_succ]
                refine hTake (by kernel_rfl) (fun d _ _ _ _ h => by cases d <;> exact h) hS 19 (some 110) _ rfl (v := ?_) (by kernel_rfl) ?_ ?_
                rotate_left
                · intro _ _; go_simp; first | done | with_reducible rfl
                simp only [Act.put, List.setIfInBounds_toArray, List.set_cons_zero, List.set_cons_succ]
                refine hTake (by kernel_rfl) (fun d _ _ _ _ h => by cases d <;> exact h) hS 20 (some 111) _ rfl (v := ?_) (by kernel_rfl) ?_ ?_
                rotate_left
                · intro w9 hS9; have q := cell_below hS9 cpk; go_simp; first | done | with_reducible rfl
                simp only [Act.put, List.setIfInBounds_toArray, List.set_cons_zero, List.set_cons_succ]
                refine hTake (by kernel_rfl) (fun d _ _ _ _ h => by cases d <;> exact h) hS 21 (some 112) _ rfl (v := ?_) (by kernel_rfl) ?_ ?_
                rotate_left
                · intro _ _; go_simp; first | done | with_reducible rfl
                simp only [Act.put, List.setIfInBounds_toArray, List.set_cons_zero, List.set_cons_succ]
                refine hTake (by kernel_rfl) (fun d _ _ _ _ h => by cases d <;> exact h) hS 22 (some 113) _ rfl (v := ?_) (by kernel_rfl) ?_ ?_
                rotate_left
                · intro w9 hS9; have x0 := cell_below hS9 l0; have x1 := cell_below hS9 l1; have x2 := cell_below hS9 l2; have x3 := cell_below hS9 l3; go_simp; first | done | with_reducible rfl
                simp only [Act.put, List.setIfInBounds_toArray, List.set_cons_zero, List.set_cons_succ]
                refine hTake (by kernel_rfl) (fun d _ _ _ _ h => by cases d <;> exact h) hS 23 (some 114) _ rfl (v := ?_) (by kernel_rfl) ?_ ?_
                rotate_left
                · intro _ _; go_simp; first | done | with_reducible rfl
                simp only [Act.put, List.setIfInBounds_toArray, List.set_cons_zero, List.set_cons_succ]
                refine hTake (by kernel_rfl) (fun d _ _ _ _ h => by cases d <;> exact h) hS 24 (some 115) _ rfl (v := ?_) (by kernel_rfl) ?_ ?_
                rotate_left
                · intro _ _; go_simp; first | done | with_reducible rfl
                simp only [Act.put, List.setIfInBounds_toArray, List.set_cons_zero, List.set_cons_succ]
                refine hTake (by kernel_rfl) (fun d _ _ _ _ h => by cases d <;> exact h) hS 25 (some 116) _ rfl (v := ?_) (by kernel_rfl) ?_ ?_
                rotate_left
                · intro _ _; go_simp; first | done | with_reducible rfl
                simp only [Act.put, List.setIfInBounds_toArray, List.set_cons_zero, List.set_cons_succ]
                refine hTake (by kernel_rfl) (fun d _ _ _ _ h => by cases d <;> exact h) hS 26 (some 117) _ rfl (v := ?_) (by kernel_rfl) ?_ ?_
                rotate_left
                · intro _ _; go_simp; first | done | with_reducible rfl
                simp only [Act.put, List.setIfInBounds_toArray, List.set_cons_zero, List.set_cons_succ]
                refine hTake (by kernel_rfl) (fun d _ _ _ _ h => by cases d <;> exact h) hS 27 (some 118) _ rfl (v := ?_) (by kernel_rfl) ?_ ?_
                rotate_left
                · intro _ _; go_simp; first | done | with_reducible rfl
                simp only [Act.put, List.setIfInBounds_toArray, List.set_cons_zero, List.set_cons_succ]
                refine hTake (by kernel_rfl) (fun d _ _ _ _ h => by cases d <;> exact h) hS 28 (some 119) _ rfl (v := ?_) (by kernel_rfl) ?_ ?_
                rotate_left
                · intro _ _; go_simp; first | done | with_reducible rfl
                simp only [Act.put, List.setIfInBounds_toArray, List.set_cons_zero, List.set_cons_succ]
                refine hTake (by kernel_rfl) (fun d _ _ _ _ h => by cases d <;> exact h) hS 29 (some 120) _ rfl (v := ?_) (by kernel_rfl) ?_ ?_
                rotate_left
                · intro _ _; go_simp; first | done | with_reducible rfl
                simp only [Act.put, List.setIfInBounds_toArray, List.set_cons_zero, List.set_cons_succ]
                refine hTake (by kernel_rfl) (fun d _ _ _ _ h => by cases d <;> exact h) hS 30 (some 121) _ rfl (v := ?_) (by kernel_rfl) ?_ ?_
                rotate_left
                · intro _ _; go_simp; first | done | with_reducible rfl
                simp only [Act.put, List.setIfInBounds_toArray, List.set_cons_zero, List.set_cons_succ]
                refine hTake (by kernel_rfl) (fun d _ _ _ _ h => by cases d <;> exact h) hS 31 (some 122) _ rfl (v := ?_) (by kernel_rfl) ?_ ?_
                rotate_left
                · intro w9 hS9; have q := cell_below hS9 cpk; go_simp; first | done | with_reducible rfl
                simp only [Act.put, List.setIfInBounds_toArray, List.set_cons_zero, List.set_cons_succ]
                refine hTake (by kernel_rfl) (fun d _ _ _ _ h => by cases d <;> exact h) hS 32 (some 123) _ rfl (v := ?_) (by kernel_rfl) ?_ ?_
                rotate_left
                · intro _ _; go_simp; first | done | with_reducible rfl
                simp only [Act.put, List.setIfInBounds_toArray, List.set_cons_zero, List.set_cons_succ]
                refine wpAnyH_ready (rs := [33]) (by kernel_rfl) (by simp) ?_
                refine AllReadyH.cons (o := _) rfl (fun K9 hK9 => ?_) AllReadyH.nil
                go_simp
                refine (IsAround_any (l := l) (p : Int) (i : Int) _ (HTX.out _ hS).out).mono ?_
                rintro e w9 ⟨he, hx9⟩
                rw [HAR.out] at he
                subst he
                try go_wp2_with fail
                refine hK9.out _ _ (after hS hx9 (Nat.le_refl _)) (fun hS => ?_)
                clear hK9 K9
                try simp only [Act.put, List.setIfInBounds_toArray, List.set_cons_zero, List.set_cons_succ]
                clear hx9
                refine hTake (by kernel_rfl) (fun d _ _ _ _ h => by cases d <;> exact h) hS 34 (some 125) _ rfl (v := ?_) (by kernel_rfl) ?_ ?_
                rotate_left
                · intro _ _; go_simp; first | done | with_reducible rfl
                simp only [Act.put, List.setIfInBounds_toArray, List.set_cons_zero, List.set_cons_succ]
                refine hTake (by kernel_rfl) (fun d _ _ _ _ h => by cases d <;> exact h) hS 35 (some 126) _ rfl (v := ?_) (by kernel_rfl) ?_ ?_
                rotate_left
                · intro _ _; go_simp; first | done | with_reducible rfl
                simp only [Act.put, List.setIfInBounds_toArray, List.set_cons_zero, List.set_cons_succ]
                refine hTake (by kernel_rfl) (fun d _ _ _ _ h => by cases d <;> exact h) hS 36 (some 127) _ rfl (v := ?_) (by kernel_rfl) ?_ ?_
                rotate_left
                · intro _ _; go_simp; first | done | with_reducible rfl
                simp only [Act.put, List.setIfInBounds_toArray, List.set_cons_zero, List.set_cons_succ]
                refine hTake (by kernel_rfl) (fun d _ _ _ _ h => by cases d <;> exact h) hS 37 (some 128) _ rfl (v := ?_) (by kernel_rfl) ?_ ?_
                rotate_left
                · intro _ _; go_simp; first | done | with_reducible rfl
                simp only [Act.put, List.setIfInBounds_toArray, List.set_cons_zero, List.set_cons_succ]
                refine hTake (by kernel_rfl) (fun d _ _ _ _ h => by cases d <;> exact h) hS 38 (some 129) _ rfl (v := ?_) (by kernel_rfl) ?_ ?_
                rotate_left
                · intro _ _; go_simp; first | done | with_reducible rfl
                simp only [Act.put, List.setIfInBounds_toArray, List.set_cons_zero, List.set_cons_succ]
                refine hTake (by kernel_rfl) (fun d _ _ _ _ h => by cases d <;> exact h) hS 39 (some 130) _ rfl (v := ?_) (by kernel_rfl) ?_ ?_
                rotate_left
                · intro _ _; go_simp; first | done | with_reducible rfl
                simp only [Act.put, List.setIfInBounds_toArray, List.set_cons_zero, List.set_cons_succ]
                refine hTake (by kernel_rfl) (fun d _ _ _ _ h => by cases d <;> exact h) hS 40 (some 131) _ rfl (v := ?_) (by kernel_rfl) ?_ ?_
                rotate_left
                · intro w9 hS9; have x0 := cell_below hS9 b0; have x1 := cell_below hS9 b1; have x2 := cell_below hS9 b2; have x3 := cell_below hS9 b3; go_simp; first | done | with_reducible rfl
                simp only [Act.put, List.setIfInBounds_toArray, List.set_cons_zero, List.set_cons_succ]
                refine hTake (by kernel_rfl) (fun d _ _ _ _ h => by cases d <;> exact h) hS 41 (some 132) _ rfl (v := ?_) (by kernel_rfl) ?_ ?_
                rotate_left
                · intro _ _; go_simp; first | done | with_reducible rfl
                simp only [Act.put, List.setIfInBounds_toArray, List.set_cons_zero, List.set_cons_succ]
                refine hTake (by kernel_rfl) (fun d _ _ _ _ h => by cases d <;> exact h) hS 42 (some 133) _ rfl (v := ?_) (by kernel_rfl) ?_ ?_
                rotate_left
                · intro _ _; go_simp; first | done | with_reducible rfl
                simp only [Act.put, List.setIfInBounds_toArray, List.set_cons_zero, List.set_cons_succ]
                refine hTake (by kernel_rfl) (fun d _ _ _ _ h => by cases d <;> exact h) hS 43 (some 134) _ rfl (v := ?_) (by kernel_rfl) ?_ ?_
                rotate_left
                · intro _ _; go_simp; first | done | with_reducible rfl
                simp only [Act.put, List.setIfInBounds_toArray, List.set_cons_zero, List.set_cons_succ]
                refine hTake (by kernel_rfl) (fun d _ _ _ _ h => by cases d <;> exact h) hS 44 (some 135) _ rfl (v := ?_) (by kernel_rfl) ?_ ?_
                rotate_left
                · intro w9 hS9; have x0 := cell_below hS9 a0; have x1 := cell_below hS9 a1; have x2 := cell_below hS9 a2; have x3 := cell_below hS9 a3; go_simp; first | done | with_reducible rfl
                simp only [Act.put, List.setIfInBounds_toArray, List.set_cons_zero, List.set_cons_succ]
                refine hTake (by kernel_rfl) (fun d _ _ _ _ h => by cases d <;> exact h) hS 45 (some 136) _ rfl (v := ?_) (by kernel_rfl) ?_ ?_
                rotate_left
                · intro _ _; go_simp; first | done | with_reducible rfl
                simp only [Act.put, List.setIfInBounds_toArray, List.set_cons_zero, List.set_cons_succ]
                refine hTake (by kernel_rfl) (fun d _ _ _ _ h => by cases d <;> exact h) hS 46 (some 137) _ rfl (v := ?_) (by kernel_rfl) ?_ ?_
                rotate_left
                · intro _ _; go_simp; first | done | with_reducible rfl
                simp only [Act.put, List.setIfInBounds_toArray, List.set_cons_zero, List.set_cons_succ]
                clear l0 l1 l2 l3 m0 m1 m2 m3 a0 a1 a2 a3 b0 b1 b2 b3
                refine wpAnyH_done (by kernel_rfl) ?_ _
                have HB6 := Lib.hid (after hb hS (Nat.le_refl _))
                have HT6 := HTX.out _ hS
                have HL6 := HLX.out _ hS
                have HM6 := HMX.out _ hS
                clear hS hb cpk HTX HLX HMX
                go_wp2
                go_roundw
                case rel => exact ⟨k + 1, by go_num, by omega, HT6, HL6, HM6, HB6.out⟩
                case measure => simp [intOf]; omega
              | true =>
                have HAR := Lib.hid har
                clear har HSK a0 a1 a2 a3 b0 b1 b2 b3
                go_upto_region 16 with fail
                refine wp_region_held_drew (S := fun w' => Below wr.heap.size wr w') (by kernel_rfl) (Below.refl _ _).drew (fun hS => ?_)
                change wpAnyH _ _ _ _ _ _ _ _ wr.drew
                generalize wr.drew = wd at *
                refine hTake (by kernel_rfl) (fun d _ _ _ _ h => by cases d <;> exact h) hS 0 (some 91) _ rfl (v := ?_) (by kernel_rfl) ?_ ?_
                rotate_left
                · intro _ _; go_simp; first | done | with_reducible rfl
                simp only [Act.put, List.setIfInBounds_toArray, List.set_cons_zero, List.set_cons_succ]
                refine hTake (by kernel_rfl) (fun d _ _ _ _ h => by cases d <;> exact h) hS 1 (some 92) _ rfl (v := ?_) (by kernel_rfl) ?_ ?_
                rotate_left
                · intro _ _; go_simp; first | done | with_reducible rfl
                simp only [Act.put, List.setIfInBounds_toArray, List.set_cons_zero, List.set_cons_succ]
                refine hTake (by kernel_rfl) (fun d _ _ _ _ h => by cases d <;> exact h) hS 2 (some 93) _ rfl (v := ?_) (by kernel_rfl) ?_ ?_
                rotate_left
                · intro _ _; go_simp; first | done | with_reducible rfl
                simp only [Act.put, List.setIfInBounds_toArray, List.set_cons_zero, List.set_cons_succ]
                refine hTake (by kernel_rfl) (fun d _ _ _ _ h => by cases d <;> exact h) hS 3 (some 94) _ rfl (v := ?_) (by kernel_rfl) ?_ ?_
                rotate_left
                · intro _ _; go_simp; first | done | with_reducible rfl
                simp only [Act.put, List.setIfInBounds_toArray, List.set_cons_zero, List.set_cons_succ]
                refine hTake (by kernel_rfl) (fun d _ _ _ _ h => by cases d <;> exact h) hS 4 (some 95) _ rfl (v := ?_) (by kernel_rfl) ?_ ?_
                rotate_left
                · intro w9 hS9; have q := cell_below hS9 cpk; go_simp; first | done | with_reducible rfl
                simp only [Act.put, List.setIfInBounds_toArray, List.set_cons_zero, List.set_cons_succ]
                refine hTake (by kernel_rfl) (fun d _ _ _ _ h => by cases d <;> exact h) hS 5 (some 96) _ rfl (v := ?_) (by kernel_rfl) ?_ ?_
                rotate_left
                · intro _ _; go_simp; first | done | with_reducible rfl
                simp only [Act.put, List.setIfInBounds_toArray, List.set_cons_zero, List.set_cons_succ]
                refine hTake (by kernel_rfl) (fun d _ _ _ _ h => by cases d <;> exact h) hS 6 (some 97) _ rfl (v := ?_) (by kernel_rfl) ?_ ?_
                rotate_left
                · intro _ _; go_simp; first | done | with_reducible rfl
                simp only [Act.put, List.setIfInBounds_toArray, List.set_cons_zero, List.set_cons_succ]
                refine hTake (by kernel_rfl) (fun d _ _ _ _ h => by cases d <;> exact h) hS 7 (some 98) _ rfl (v := ?_) (by kernel_rfl) ?_ ?_
                rotate_left
                · intro _ _; go_simp; first | done | with_reducible rfl
                simp only [Act.put, List.setIfInBounds_toArray, List.set_cons_zero, List.set_cons_succ]
                refine hTake (by kernel_rfl) (fun d _ _ _ _ h => by cases d <;> exact h) hS 8 (some 99) _ rfl (v := ?_) (by kernel_rfl) ?_ ?_
                rotate_left
                · intro _ _; go_simp; first | done | with_reducible rfl
                simp only [Act.put, List.setIfInBounds_toArray, List.set_cons_zero, List.set_cons_succ]
                refine hTake (by kernel_rfl) (fun d _ _ _ _ h => by cases d <;> exact h) hS 9 (some 100) _ rfl (v := ?_) (by kernel_rfl) ?_ ?_
                rotate_left
                · intro _ _; go_simp; first | done | with_reducible rfl
                simp only [Act.put, List.setIfInBounds_toArray, List.set_cons_zero, List.set_cons_succ]
                refine hTake (by kernel_rfl) (fun d _ _ _ _ h => by cases d <;> exact h) hS 10 (some 101) _ rfl (v := ?_) (by kernel_rfl) ?_ ?_
                rotate_left
                · intro _ _; go_simp; first | done | with_reducible rfl
                simp only [Act.put, List.setIfInBounds_toArray, List.set_cons_zero, List.set_cons_succ]
                refine hTake (by kernel_rfl) (fun d _ _ _ _ h => by cases d <;> exact h) hS 11 (some 102) _ rfl (v := ?_) (by kernel_rfl) ?_ ?_
                rotate_left
                · intro _ _; go_simp; first | done | with_reducible rfl
                simp only [Act.put, List.setIfInBounds_toArray, List.set_cons_zero, List.set_cons_succ]
                refine hTake (by kernel_rfl) (fun d _ _ _ _ h => by cases d <;> exact h) hS 12 (some 103) _ rfl (v := ?_) (by kernel_rfl) ?_ ?_
                rotate_left
                · intro w9 hS9; have q := cell_below hS9 cpk; go_simp; first | done | with_reducible rfl
                simp only [Act.put, List.setIfInBounds_toArray, List.set_cons_zero, List.set_cons_succ]
                refine hTake (by kernel_rfl) (fun d _ _ _ _ h => by cases d <;> exact h) hS 13 (some 104) _ rfl (v := ?_) (by kernel_rfl) ?_ ?_
                rotate_left
                · intro _ _; go_simp; first | done | with_reducible rfl
                simp only [Act.put, List.setIfInBounds_toArray, List.set_cons_zero, List.set_cons_succ]
                refine hTake (by kernel_rfl) (fun d _ _ _ _ h => by cases d <;> exact h) hS 14 (some 105) _ rfl (v := ?_) (by kernel_rfl) ?_ ?_
                rotate_left
                · intro w9 hS9; have x0 := cell_below hS9 m0; have x1 := cell_below hS9 m1; have x2 := cell_below hS9 m2; have x3 := cell_below hS9 m3; go_simp; first | done | with_reducible rfl
                simp only [Act.put, List.setIfInBounds_toArray, List.set_cons_zero, List.set_cons_succ]
                refine hTake (by kernel_rfl) (fun d _ _ _ _ h => by cases d <;> exact h) hS 15 (some 106) _ rfl (v := ?_) (by kernel_rfl) ?_ ?_
                rotate_left
                · intro _ _; go_simp; first | done | with_reducible rfl
                simp only [Act.put, List.setIfInBounds_toArray, List.set_cons_zero, List.set_cons_succ]
                refine hTake (by kernel_rfl) (fun d _ _ _ _ h => by cases d <;> exact h) hS 16 (some 107) _ rfl (v := ?_) (by kernel_rfl) ?_ ?_
                rotate_left
                · intro _ _; go_simp; first | done | with_reducible rfl
                simp only [Act.put, List.setIfInBounds_toArray, List.set_cons_zero, List.set_cons_succ]
                refine hTake (by kernel_rfl) (fun d _ _ _ _ h => by cases d <;> exact h) hS 17 (some 108) _ rfl (v := ?_) (by kernel_rfl) ?_ ?_
                rotate_left
                · intro _ _; go_simp; first | done | with_reducible rfl
                simp only [Act.put, List.setIfInBounds_toArray, List.set_cons_zero, List.set_cons_succ]
                refine hTake (by kernel_rfl) (fun d _ _ _ _ h => by cases d <;> exact h) hS 18 (some 109) _ rfl (v := ?_) (by kernel_rfl) ?_ ?_
                rotate_left
                · intro _ _; go_simp; first | done | with_reducible rfl
                simp only [Act.put, List.setIfInBounds_toArray, List.set_cons_zero, List.set_cons_succ]
                refine hTake (by kernel_rfl) (fun d _ _ _ _ h => by cases d <;> exact h) hS 19 (some 110) _ rfl (v := ?_) (by kernel_rfl) ?_ ?_
                rotate_left
                · intro _ _; go_simp; first | done | with_reducible rfl
                simp only [Act.put, List.setIfInBounds_toArray, List.set_cons_zero, List.set_cons_succ]
                refine hTake (by kernel_rfl) (fun d _ _ _ _ h => by cases d <;> exact h) hS 20 (some 111) _ rfl (v := ?_) (by kernel_rfl) ?_ ?_
                rotate_left
                · intro w9 hS9; have q := cell_below hS9 cpk; go_simp; first | done | with_reducible rfl
                simp only [Act.put, List.setIfInBounds_toArray, List.set_cons_zero, List.set_cons_succ]
                refine hTake (by kernel_rfl) (fun d _ _ _ _ h => by cases d <;> exact h) hS 21 (some 112) _ rfl (v := ?_) (by kernel_rfl) ?_ ?_
                rotate_left
                · intro _ _; go_simp; first | done | with_reducible rfl
                simp only [Act.put, List.setIfInBounds_toArray, List.set_cons_zero, List.set_cons_succ]
                refine hTake (by kernel_rfl) (fun d _ _ _ _ h => by cases d <;> exact h) hS 22 (some 113) _ rfl (v := ?_) (by kernel_rfl) ?_ ?_
                rotate_left
                · intro w9 hS9; have x0 := cell_below hS9 l0; have x1 := cell_below hS9 l1; have x2 := cell_below hS9 l2; have x3 := cell_below hS9 l3; go_simp; first | done | with_reducible rfl
                simp only [Act.put, List.setIfInBounds_toArray, List.set_cons_zero, List.set_cons_succ]
                refine hTake (by kernel_rfl) (fun d _ _ _ _ h => by cases d <;> exact h) hS 23 (some 114) _ rfl (v := ?_) (by kernel_rfl) ?_ ?_
                rotate_left
                · intro _ _; go_simp; first | done | with_reducible rfl
                simp only [Act.put, List.setIfInBounds_toArray, List.set_cons_zero, List.set_cons_succ]
                refine hTake (by kernel_rfl) (fun d _ _ _ _ h => by cases d <;> exact h) hS 24 (some 115) _ rfl (v := ?_) (by kernel_rfl) ?_ ?_
                rotate_left
                · intro _ _; go_simp; first | done | with_reducible rfl
                simp only [Act.put, List.setIfInBounds_toArray, List.set_cons_zero, List.set_cons_succ]
                refine hTake (by kernel_rfl) (fun d _ _ _ _ h => by cases d <;> exact h) hS 25 (some 116) _ rfl (v := ?_) (by kernel_rfl) ?_ ?_
                rotate_left
                · intro _ _; go_simp; first | done | with_reducible rfl
                simp only [Act.put, List.setIfInBounds_toArray, List.set_cons_zero, List.set_cons_succ]
                refine hTake (by kernel_rfl) (fun d _ _ _ _ h => by cases d <;> exact h) hS 26 (some 117) _ rfl (v := ?_) (by kernel_rfl) ?_ ?_
                rotate_left
                · intro _ _; go_simp; first | done | with_reducible rfl
                simp only [Act.put, List.setIfInBounds_toArray, List.set_cons_zero, List.set_cons_succ]
                refine hTake (by kernel_rfl) (fun d _ _ _ _ h => by cases d <;> exact h) hS 27 (some 118) _ rfl (v := ?_) (by kernel_rfl) ?_ ?_
                rotate_left
                · intro _ _; go_simp; first | done | with_reducible rfl
                simp only [Act.put, List.setIfInBounds_toArray, List.set_cons_zero, List.set_cons_succ]
                refine hTake (by kernel_rfl) (fun d _ _ _ _ h => by cases d <;> exact h) hS 28 (some 119) _ rfl (v := ?_) (by kernel_rfl) ?_ ?_
                rotate_left
                · intro _ _; go_simp; first | done | with_reducible rfl
                simp only [Act.put, List.setIfInBounds_toArray, List.set_cons_zero, List.set_cons_succ]
                refine hTake (by kernel_rfl) (fun d _ _ _ _ h => by cases d <;> exact h) hS 29 (some 120) _ rfl (v := ?_) (by kernel_rfl) ?_ ?_
                rotate_left
                · intro _ _; go_simp; first | done | with_reducible rfl
                simp only [Act.put, List.setIfInBounds_toArray, List.set_cons_zero, List.set_cons_succ]
                refine hTake (by kernel_rfl) (fun d _ _ _ _ h => by cases d <;> exact h) hS 30 (some 121) _ rfl (v := ?_) (by kernel_rfl) ?_ ?_
                rotate_left
                · intro _ _; go_simp; first | done | with_reducible rfl
                simp only [Act.put, List.setIfInBounds_toArray, List.set_cons_zero, List.set_cons_succ]
                refine hTake (by kernel_rfl) (fun d _ _ _ _ h => by cases d <;> exact h) hS 31 (some 122) _ rfl (v := ?_) (by kernel_rfl) ?_ ?_
                rotate_left
                · intro w9 hS9; have q := cell_below hS9 cpk; go_simp; first | done | with_reducible rfl
                simp only [Act.put, List.setIfInBounds_toArray, List.set_cons_zero, List.set_cons_succ]
                refine hTake (by kernel_rfl) (fun d _ _ _ _ h => by cases d <;> exact h) hS 32 (some 123) _ rfl (v := ?_) (by kernel_rfl) ?_ ?_
                rotate_left
                · intro _ _; go_simp; first | done | with_reducible rfl
                simp only [Act.put, List.setIfInBounds_toArray, List.set_cons_zero, List.set_cons_succ]
                refine wpAnyH_ready (rs := [33]) (by kernel_rfl) (by simp) ?_
                refine AllReadyH.cons (o := _) rfl (fun K9 hK9 => ?_) AllReadyH.nil
                go_simp
                refine (IsAround_any (l := l) (p : Int) (i : Int) _ (HTX.out _ hS).out).mono ?_
                rintro e w9 ⟨he, hx9⟩
                rw [HAR.out] at he
                subst he
                try go_wp2_with fail
                refine hK9.out _ _ (after hS hx9 (Nat.le_refl _)) (fun hS => ?_)
                clear hK9 K9
                try simp only [Act.put, List.setIfInBounds_toArray, List.set_cons_zero, List.set_cons_succ]
                clear hx9
                refine hTake (by kernel_rfl) (fun d _ _ _ _ h => by cases d <;> exact h) hS 34 (some 125) _ rfl (v := ?_) (by kernel_rfl) ?_ ?_
                rotate_left
                · intro _ _; go_simp; first | done | with_reducible rfl
                simp only [Act.put, List.setIfInBounds_toArray, List.set_cons_zero, List.set_cons_succ]
                refine hTake (by kernel_rfl) (fun d _ _ _ _ h => by cases d <;> exact h) hS 35 (some 126) _ rfl (v := ?_) (by kernel_rfl) ?_ ?_
                rotate_left
                · intro _ _; go_simp; first | done | with_reducible rfl
                simp only [Act.put, List.setIfInBounds_toArray, List.set_cons_zero, List.set_cons_succ]
                refine hTake (by kernel_rfl) (fun d _ _ _ _ h => by cases d <;> exact h) hS 36 (some 127) _ rfl (v := ?_) (by kernel_rfl) ?_ ?_
                rotate_left
                · intro _ _; go_simp; first | done | with_reducible rfl
                simp only [Act.put, List.setIfInBounds_toArray, List.set_cons_zero, List.set_cons_succ]
                refine hSkips (by kernel_rfl) (fun d _ _ _ _ h => by cases d <;> exact h) hS [37, 38, 39, 40, 41, 42, 43, 44, 45] [some 128, some 129, some 130, some 131, some 132, some 133, some 134, some 135, some 136] (by kernel_rfl) ?_
                simp only [putUndef, listAll, List.foldl_cons, List.foldl_nil, Act.put, List.setIfInBounds_toArray, List.set_cons_zero, List.set_cons_succ]
                refine hTake (by kernel_rfl) (fun d _ _ _ _ h => by cases d <;> exact h) hS 46 (some 137) _ rfl (v := ?_) (by kernel_rfl) ?_ ?_
                rotate_left
                · intro _ _; go_simp; first | done | with_reducible rfl
                simp only [Act.put, List.setIfInBounds_toArray, List.set_cons_zero, List.set_cons_succ]
                clear l0 l1 l2 l3 m0 m1 m2 m3
                refine wpAnyH_done (by kernel_rfl) ?_ _
                have HB6 := Lib.hid (after hb hS (Nat.le_refl _))
                have HT6 := HTX.out _ hS
                have HL6 := HLX.out _ hS
                have HM6 := HMX.out _ hS
                clear hS hb cpk HTX HLX HMX
                go_wp2
                go_roundw
                case rel => exact ⟨k + 1, by go_num, by omega, HT6, HL6, HM6, HB6.out⟩
                case measure => simp [intOf]; omega
            · have hne := rc_ne he
              clear he hpp hz hrT hL hM hp
              generalize rect l 300 200 p = s at *
              generalize rect m 300 200 p = r at *
              go_upto_region 16 with fail
              refine wp_region_held_drew (S := fun w' => Below wr.heap.size wr w') (by kernel_rfl) (Below.refl _ _).drew (fun hS => ?_)
              change wpAnyH _ _ _ _ _ _ _ _ wr.drew
              generalize wr.drew = wd at *
              refine hTake (by kernel_rfl) (fun d _ _ _ _ h => by cases d <;> exact h) hS 0 (some 91) _ rfl (v := ?_) (by kernel_rfl) ?_ ?_
              rotate_left
              · intro _ _; go_simp; first | done | with_reducible rfl
              simp only [Act.put, List.setIfInBounds_toArray, List.set_cons_zero, List.set_cons_succ]
              refine hTake (by kernel_rfl) (fun d _ _ _ _ h => by cases d <;> exact h) hS 1 (some 92) _ rfl (v := ?_) (by kernel_rfl) ?_ ?_
              rotate_left
              · intro _ _; go_simp; first | done | with_reducible rfl
              simp only [Act.put, List.setIfInBounds_toArray, List.set_cons_zero, List.set_cons_succ]
              refine hTake (by kernel_rfl) (fun d _ _ _ _ h => by cases d <;> exact h) hS 2 (some 93) _ rfl (v := ?_) (by kernel_rfl) ?_ ?_
              rotate_left
              · intro _ _; go_simp; first | done | with_reducible rfl
              simp only [Act.put, List.setIfInBounds_toArray, List.set_cons_zero, List.set_cons_succ]
              refine hTake (by kernel_rfl) (fun d _ _ _ _ h => by cases d <;> exact h) hS 3 (some 94) _ rfl (v := ?_) (by kernel_rfl) ?_ ?_
              rotate_left
              · intro _ _; go_simp; first | done | with_reducible rfl
              simp only [Act.put, List.setIfInBounds_toArray, List.set_cons_zero, List.set_cons_succ]
              refine hTake (by kernel_rfl) (fun d _ _ _ _ h => by cases d <;> exact h) hS 4 (some 95) _ rfl (v := ?_) (by kernel_rfl) ?_ ?_
              rotate_left
              · intro w9 hS9; have q := cell_below hS9 cpk; go_simp; first | done | with_reducible rfl
              simp only [Act.put, List.setIfInBounds_toArray, List.set_cons_zero, List.set_cons_succ]
              refine hTake (by kernel_rfl) (fun d _ _ _ _ h => by cases d <;> exact h) hS 5 (some 96) _ rfl (v := ?_) (by kernel_rfl) ?_ ?_
              rotate_left
              · intro _ _; go_simp; first | done | with_reducible rfl
              simp only [Act.put, List.setIfInBounds_toArray, List.set_cons_zero, List.set_cons_succ]
              refine hTake (by kernel_rfl) (fun d _ _ _ _ h => by cases d <;> exact h) hS 6 (some 97) _ rfl (v := ?_) (by kernel_rfl) ?_ ?_
              rotate_left
              · intro _ _; go_simp; first | done | with_reducible rfl
              simp only [Act.put, List.setIfInBounds_toArray, List.set_cons_zero, List.set_cons_succ]
              refine hTake (by kernel_rfl) (fun d _ _ _ _ h => by cases d <;> exact h) hS 7 (some 98) _ rfl (v := ?_) (by kernel_rfl) ?_ ?_
              rotate_left
              · intro _ _; go_simp; first | done | with_reducible rfl
              simp only [Act.put, List.setIfInBounds_toArray, List.set_cons_zero, List.set_cons_succ]
              refine hTake (by kernel_rfl) (fun d _ _ _ _ h => by cases d <;> exact h) hS 8 (some 99) _ rfl (v := ?_) (by kernel_rfl) ?_ ?_
              rotate_left
              · intro _ _; go_simp; first | done | with_reducible rfl
              simp only [Act.put, List.setIfInBounds_toArray, List.set_cons_zero, List.set_cons_succ]
              refine hTake (by kernel_rfl) (fun d _ _ _ _ h => by cases d <;> exact h) hS 9 (some 100) _ rfl (v := ?_) (by kernel_rfl) ?_ ?_
              rotate_left
              · intro _ _; go_simp; first | done | with_reducible rfl
              simp only [Act.put, List.setIfInBounds_toArray, List.set_cons_zero, List.set_cons_succ]
              refine hTake (by kernel_rfl) (fun d _ _ _ _ h => by cases d <;> exact h) hS 10 (some 101) _ rfl (v := ?_) (by kernel_rfl) ?_ ?_
              rotate_left
              · intro _ _; go_simp; first | done | with_reducible rfl
              simp only [Act.put, List.setIfInBounds_toArray, List.set_cons_zero, List.set_cons_succ]
              refine hTake (by kernel_rfl) (fun d _ _ _ _ h => by cases d <;> exact h) hS 11 (some 102) _ rfl (v := ?_) (by kernel_rfl) ?_ ?_
              rotate_left
              · intro _ _; go_simp; first | done | with_reducible rfl
              simp only [Act.put, List.setIfInBounds_toArray, List.set_cons_zero, List.set_cons_succ]
              refine hTake (by kernel_rfl) (fun d _ _ _ _ h => by cases d <;> exact h) hS 12 (some 103) _ rfl (v := ?_) (by kernel_rfl) ?_ ?_
              rotate_left
              · intro w9 hS9; have q := cell_below hS9 cpk; go_simp; first | done | with_reducible rfl
              simp only [Act.put, List.setIfInBounds_toArray, List.set_cons_zero, List.set_cons_succ]
              refine hTake (by kernel_rfl) (fun d _ _ _ _ h => by cases d <;> exact h) hS 13 (some 104) _ rfl (v := ?_) (by kernel_rfl) ?_ ?_
              rotate_left
              · intro _ _; go_simp; first | done | with_reducible rfl
              simp only [Act.put, List.setIfInBounds_toArray, List.set_cons_zero, List.set_cons_succ]
              refine hTake (by kernel_rfl) (fun d _ _ _ _ h => by cases d <;> exact h) hS 14 (some 105) _ rfl (v := ?_) (by kernel_rfl) ?_ ?_
              rotate_left
              · intro w9 hS9; have x0 := cell_below hS9 m0; have x1 := cell_below hS9 m1; have x2 := cell_below hS9 m2; have x3 := cell_below hS9 m3; go_simp; first | done | with_reducible rfl
              simp only [Act.put, List.setIfInBounds_toArray, List.set_cons_zero, List.set_cons_succ]
              refine hTake (by kernel_rfl) (fun d _ _ _ _ h => by cases d <;> exact h) hS 15 (some 106) _ rfl (v := ?_) (by kernel_rfl) ?_ ?_
              rotate_left
              · intro _ _; go_simp; first | done | with_reducible rfl
              simp only [Act.put, List.setIfInBounds_toArray, List.set_cons_zero, List.set_cons_succ]
              refine hTake (by kernel_rfl) (fun d _ _ _ _ h => by cases d <;> exact h) hS 16 (some 107) _ rfl (v := ?_) (by kernel_rfl) ?_ ?_
              rotate_left
              · intro _ _; go_simp; first | done | with_reducible rfl
              simp only [Act.put, List.setIfInBounds_toArray, List.set_cons_zero, List.set_cons_succ]
              refine hTake (by kernel_rfl) (fun d _ _ _ _ h => by cases d <;> exact h) hS 17 (some 108) _ rfl (v := ?_) (by kernel_rfl) ?_ ?_
              rotate_left
              · intro _ _; go_simp; first | done | with_reducible rfl
              simp only [Act.put, List.setIfInBounds_toArray, List.set_cons_zero, List.set_cons_succ]
              refine hTake (by kernel_rfl) (fun d _ _ _ _ h => by cases d <;> exact h) hS 18 (some 109) _ rfl (v := ?_) (by kernel_rfl) ?_ ?_
              rotate_left
              · intro _ _; go_simp; first | done | with_reducible rfl
              simp only [Act.put, List.setIfInBounds_toArray, List.set_cons_zero, List.set_cons_succ]
              refine hTake (by kernel_rfl) (fun d _ _ _ _ h => by cases d <;> exact h) hS 19 (some 110) _ rfl (v := ?_) (by kernel_rfl) ?_ ?_
              rotate_left
              · intro _ _; go_simp; first | done | with_reducible rfl
              simp only [Act.put, List.setIfInBounds_toArray, List.set_cons_zero, List.set_cons_succ]
              refine hTake (by kernel_rfl) (fun d _ _ _ _ h => by cases d <;> exact h) hS 20 (some 111) _ rfl (v := ?_) (by kernel_rfl) ?_ ?_
              rotate_left
              · intro w9 hS9; have q := cell_below hS9 cpk; go_simp; first | done | with_reducible rfl
              simp only [Act.put, List.setIfInBounds_toArray, List.set_cons_zero, List.set_cons_succ]
              refine hTake (by kernel_rfl) (fun d _ _ _ _ h => by cases d <;> exact h) hS 21 (some 112) _ rfl (v := ?_) (by kernel_rfl) ?_ ?_
              rotate_left
              · intro _ _; go_simp; first | done | with_reducible rfl
              simp only [Act.put, List.setIfInBounds_toArray, List.set_cons_zero, List.set_cons_succ]
              refine hTake (by kernel_rfl) (fun d _ _ _ _ h => by cases d <;> exact h) hS 22 (some 113) _ rfl (v := ?_) (by kernel_rfl) ?_ ?_
              rotate_left
              · intro w9 hS9; have x0 := cell_below hS9 l0; have x1 := cell_below hS9 l1; have x2 := cell_below hS9 l2; have x3 := cell_below hS9 l3; go_simp; first | done | with_reducible rfl
              simp only [Act.put, List.setIfInBounds_toArray, List.set_cons_zero, List.set_cons_succ]
              refine hTake (by kernel_rfl) (fun d _ _ _ _ h => by cases d <;> exact h) hS 23 (some 114) _ rfl (v := .bool false) (by kernel_rfl) ?_ ?_
              · intro w9 hS9
                go_simp
                intro h1 h2 h3 h4
                exact hne ⟨h1, h2, h3, h4⟩
              simp only [Act.put, List.setIfInBounds_toArray, List.set_cons_zero, List.set_cons_succ]
              refine hTake (by kernel_rfl) (fun d _ _ _ _ h => by cases d <;> exact h) hS 24 (some 115) _ rfl (v := ?_) (by kernel_rfl) ?_ ?_
              rotate_left
              · intro _ _; go_simp; first | done | with_reducible rfl
              simp only [Act.put, List.setIfInBounds_toArray, List.set_cons_zero, List.set_cons_succ]
              refine hTake (by kernel_rfl) (fun d _ _ _ _ h => by cases d <;> exact h) hS 25 (some 116) _ rfl (v := ?_) (by kernel_rfl) ?_ ?_
              rotate_left
              · intro _ _; go_simp; first | done | with_reducible rfl
              simp only [Act.put, List.setIfInBounds_toArray, List.set_cons_zero, List.set_cons_succ]
              refine hSkips (by kernel_rfl) (fun d _ _ _ _ h => by cases d <;> exact h) hS [26, 27, 28, 29, 30, 31, 32, 33, 34] [some 117, some 118, some 119, some 120, some 121, some 122, some 123, some 124, some 125] (by kernel_rfl) ?_
              simp only [putUndef, listAll, List.foldl_cons, List.foldl_nil, Act.put, List.setIfInBounds_toArray, List.set_cons_zero, List.set_cons_succ]
              refine hTake (by kernel_rfl) (fun d _ _ _ _ h => by cases d <;> exact h) hS 35 (some 126) _ rfl (v := ?_) (by kernel_rfl) ?_ ?_
              rotate_left
              · intro _ _; go_simp; first | done | with_reducible rfl
              simp only [Act.put, List.setIfInBounds_toArray, List.set_cons_zero, List.set_cons_succ]
              refine hTake (by kernel_rfl) (fun d _ _ _ _ h => by cases d <;> exact h) hS 36 (some 127) _ rfl (v := ?_) (by kernel_rfl) ?_ ?_
              rotate_left
              · intro _ _; go_simp; first | done | with_reducible rfl
              simp only [Act.put, List.setIfInBounds_toArray, List.set_cons_zero, List.set_cons_succ]
              refine hSkips (by kernel_rfl) (fun d _ _ _ _ h => by cases d <;> exact h) hS [37, 38, 39, 40, 41, 42, 43, 44, 45] [some 128, some 129, some 130, some 131, some 132, some 133, some 134, some 135, some 136] (by kernel_rfl) ?_
              simp only [putUndef, listAll, List.foldl_cons, List.foldl_nil, Act.put, List.setIfInBounds_toArray, List.set_cons_zero, List.set_cons_succ]
              refine hTake (by kernel_rfl) (fun d _ _ _ _ h => by cases d <;> exact h) hS 46 (some 137) _ rfl (v := ?_) (by kernel_rfl) ?_ ?_
              rotate_left
              · intro _ _; go_simp; first | done | with_reducible rfl
              simp only [Act.put, List.setIfInBounds_toArray, List.set_cons_zero, List.set_cons_succ]
              clear l0 l1 l2 l3 m0 m1 m2 m3
              refine wpAnyH_done (by kernel_rfl) ?_ _
              have HB6 := Lib.hid (after hb hS (Nat.le_refl _))
              have HT6 := HTX.out _ hS
              have HL6 := HLX.out _ hS
              have HM6 := HMX.out _ hS
              clear hS hb cpk HTX HLX HMX
              go_wp2
              go_roundw
              case rel => exact ⟨k + 1, by go_num, by omega, HT6, HL6, HM6, HB6.out⟩
              case measure => simp [intOf]; omega
        · obtain rfl : k = l.length := by omega
          go_wp2
          go_ret
          exact ⟨by simp; omega, hb⟩
    · have hok' : styleOk l i x = false := by simpa using hok
      rw [hok', orNo_f] at hrO hrW
      rw [hok']
      go_wp2_with (fail)
      refine ((equalBoxes_any _ hrO hrW)).mono ?_
      rintro e w4 ⟨rfl, hx⟩
      replace hb := after hb hx (Nat.le_refl _)
      replace hrO := hrO.below hx (Nat.le_refl _)
      replace hrW := hrW.below hx (Nat.le_refl _)
      clear hx
      go_wp2_with (fail)
      refine ((equalBoxes_any _ hrO hrW)).mono ?_
      rintro e w5 ⟨rfl, hx⟩
      replace hb := after hb hx (Nat.le_refl _)
      clear hx
      go_wp2
      go_ret
      exact ⟨rfl, hb⟩
end Go.Proofs.Ytkbgmfapcekakaa
