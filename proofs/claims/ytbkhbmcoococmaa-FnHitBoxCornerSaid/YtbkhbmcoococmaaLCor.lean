/-
  The law FnHitBoxCorner: the walk.
-/
import Derived.Test.YtbkhbmcoococmaaSpl
import Derived.Test.YtbkhbmcoococmaaSSpl
import Derived.Test.YtbkhbmcoococmaaAg
import Derived.Test.YtbkhbmcoococmaaTre
import Derived.Test.YtbkhbmcoococmaaHitI
import Derived.Test.YtbkhbmcoococmaaAb
namespace Go.Proofs.Ytbkhbmcoococmaa
open Go Go.RowKit

theorem spl_in {l : List Bx} {sw sh : Int} {k : Nat} (h : scrB l sw sh = true) (hk : k < l.length) (h0 : 0 < k) (hn : decide (((k : Nat) : Int) ∈ splL l sw sh) = false) : spillB l sw sh k = false := by
  cases hs : spillB l sw sh k with
  | false => rfl
  | true =>
    rw [splL_t h] at hn
    have := of_decide_eq_false hn
    exact absurd (mem_ni.2 ⟨k, spillTo_mem.2 ⟨hk, h0, hs⟩, rfl⟩) this
theorem any_stepN {P : List Nat} {f : Int → Bool} {q m : Nat} (hm : P[q]? = some m) : (ni (P.take (q + 1))).any f = ((ni (P.take q)).any f || f (m : Int)) := by
  rw [List.take_add_one, hm, ni_append, List.any_append]
  simp [ni]
/-- the corner of a box with points that is inside all boxes around it is in this box -/
theorem corner_law {l : List Bx} {sw sh : Int} (h : scrB l sw sh = true) {k : Nat} (hk : k < l.length) (hn : ((ni (anc l k).reverse).any fun p => decide (p ∈ splL l sw sh)) = false) (hw : (rect l sw sh k).w ≠ 0) (hh : (rect l sw sh k).h ≠ 0) :
    ∃ m : Nat, hitI l sw sh (rect l sw sh k).x (rect l sw sh k).y = (m : Int) ∧ isAr l (k : Int) (m : Int) = true := by
  obtain ⟨hval, hsw, hsh⟩ := scrB_iff.1 h
  have hp := rect_pos hval hsw hsh hk
  obtain ⟨m, h1, h2, h3⟩ := corner_around hval hsw hsh hk (fun p hpm h0 => spl_in h (by have := anc_le k (hval.down hk) p hpm; omega) h0 (by
    have h9 := List.any_eq_false.1 hn (p : Int) (mem_ni.2 ⟨p, List.mem_reverse.2 hpm, rfl⟩)
    simpa using h9)) (by omega) (by omega)
  refine ⟨m, by rw [hitI_t h]; exact h1, ?_⟩
  unfold isAr
  rw [inB_iff.2 ⟨hval, by omega, by omega⟩, inB_iff.2 ⟨hval, by omega, by omega⟩]
  simp only [Bool.true_and, Int.toNat_natCast]
  unfold arB
  exact decide_eq_true h3
set_option maxRecDepth 100000 in
set_option maxHeartbeats 20000000 in
theorem FnHitBoxCorner_any {v : Value} (w : World) (hv : RdBytes w v) :
    Calls Try.prog 13 #[v] w fun e w' => e = .returned (.bool true) ∧ Ext w w' := by
  have hv2 := hv
  obtain ⟨ad, n, c, rfl, hn, hc, _⟩ := hv
  unfold maxLen at hc
  by_cases hlen : 1048576 < n
  · have hlen' : (1048576 : Int) < n := by omega
    go_enter Try.func13, Try.ntmps13
    go_wp2
    go_ret
    exact ⟨rfl, Below.refl _ _⟩
  · have hlen' : ¬ ((1048576 : Int) < n) := by omega
    go_enter Try.func13, Try.ntmps13
    go_wp2_with (fail)
    refine (DrawSpilling_any _ hv2).mono ?_
    rintro e w1 ⟨v1, sw, sh, rfl, l, hl, hsw, hsh, ho1, hb⟩
    have hrT := ho1.rd
    clear ho1 hv2
    go_wp2_with (fail)
    refine ((Spilling_any (l := l) sw sh _ hrT)).mono ?_
    rintro e w2 ⟨v2, rfl, ho2, hx⟩
    replace hb := after hb hx (Nat.le_refl _)
    replace hrT := hrT.below hx (Nat.le_refl _)
    clear hx
    have hrO := ho2.rd
    clear ho2
    go_wp2_with (fail)
    refine ((LayoutTree_any (l := l) sw sh _ hrT)).mono ?_
    rintro e w3 ⟨v3, rfl, ho3, hx⟩
    replace hb := after hb hx (Nat.le_refl _)
    replace hrT := hrT.below hx (Nat.le_refl _)
    replace hrO := hrO.below hx (Nat.le_refl _)
    clear hx
    have hrL := ho3.rd
    clear ho3
    go_wp2_with (fail)
    refine ((sSpilling_any (l := l) sw sh _ hrT (by omega))).mono ?_
    rintro e w4 ⟨v4, rfl, ho4, hx⟩
    replace hb := after hb hx (Nat.le_refl _)
    replace hrT := hrT.below hx (Nat.le_refl _)
    replace hrO := hrO.below hx (Nat.le_refl _)
    replace hrL := hrL.below hx (Nat.le_refl _)
    clear hx
    have hrW := ho4.rd
    clear ho4
    cases hok : scrB l sw sh with
    | false =>
      rw [rectsOr_f hok] at hrL
      obtain ⟨aL, cL, rfl, hnL, hcL, _⟩ := hrL.rects
      rw [List.length_nil] at hrL ⊢
      clear hok hrL
      go_wp2_with (fail)
      refine ((equalInts_any _ hrO hrW)).mono ?_
      rintro e w5 ⟨rfl, hx⟩
      replace hb := after hb hx (Nat.le_refl _)
      replace hrT := hrT.below hx (Nat.le_refl _)
      replace hrO := hrO.below hx (Nat.le_refl _)
      clear hx
      rw [show decide (splL l sw sh = splL l sw sh) = true by simp]
      clear hrW
      go_wp2_with (fail)
      refine ((sSpilling_any (l := l) sw sh _ hrT (by omega))).mono ?_
      rintro e w6 ⟨v6, rfl, ho6, hx⟩
      replace hb := after hb hx (Nat.le_refl _)
      replace hrO := hrO.below hx (Nat.le_refl _)
      clear hx
      have hrW := ho6.rd
      clear ho6
      go_wp2_with (fail)
      refine ((equalInts_any _ hrO hrW)).mono ?_
      rintro e w7 ⟨rfl, hx⟩
      replace hb := after hb hx (Nat.le_refl _)
      clear hx
      rw [show decide (splL l sw sh = splL l sw sh) = true by simp]
      go_wp2
      go_ret
      exact ⟨rfl, hb⟩
    | true =>
      rw [rectsOr_t hok] at hrL
      obtain ⟨hval, hsw2, hsh2⟩ := scrB_iff.1 hok
      have HCL := Lib.hid (fun k (hk : k < l.length) hn hw hh => corner_law hok (k := k) hk hn hw hh)
      have HV := Lib.hid hval
      have hlo := hval.lo
      have hz : ((l.length : Int) == 0) = false := beq_eq_false_iff_ne.2 (by omega)
      obtain ⟨bO, oO, cO, rfl, hnO, hcO, hR⟩ := rectS hrL hlo
      clear hval hrL hok hsw hsh hsw2 hsh2
      go_wp2_with (fail)
      refine ((equalInts_any _ hrO hrW)).mono ?_
      rintro e w5 ⟨rfl, hx⟩
      replace hb := after hb hx (Nat.le_refl _)
      replace hrT := hrT.below hx (Nat.le_refl _)
      replace hrO := hrO.below hx (Nat.le_refl _)
      replace hR := hR.below hx (Nat.le_refl _)
      clear hx
      rw [show decide (splL l sw sh = splL l sw sh) = true by simp]
      clear hrW
      have HTT := Lib.hid hrT
      have HOO := Lib.hid hrO
      have HRR := Lib.hid hR
      clear hrT hrO hR
      go_wp2
      go_loopw [8] (fun n wr => ∃ k : Nat, n = .int .i64 k ∧ k ≤ l.length ∧ Below w5.heap.size w5 wr) (fun n _ => l.length - (intOf n).toNat)
      case atStart => exact ⟨0, by go_num, Nat.zero_le _, Below.refl _ _⟩
      case round =>
        obtain ⟨k, rfl, hk, hb6⟩ := hrel
        by_cases hlt : k < l.length
        · have hki : (k : Int) < l.length := by omega
          have hT := HTT.out.below hb6 (Nat.le_refl _)
          have HP : Hid (pathL l (k : Int) = (anc l k).reverse) := by
            show _ = _
            unfold pathL
            rw [if_pos (inB_iff.2 ⟨HV.out, by omega, by omega⟩), Int.toNat_natCast]
          go_wp2_with (fail)
          refine (PathTo_any (l := l) (k : Int) _ hT).mono ?_
          rintro e w7 ⟨v7, rfl, ho7, hx⟩
          rw [HP.out] at ho7
          replace hb6 := after hb6 hx (Nat.le_refl _)
          replace hT := hT.below hx (Nat.le_refl _)
          have hrP := ho7.rd
          have hO := HOO.out.below hb6 (Nat.le_refl _)
          obtain ⟨c0, c1, c2, c3⟩ := (HRR.out.below hb6 (Nat.le_refl _)).cs k hlt
          have hbO := World.block_lt_of_cell? _ _ c0
          have HC := Lib.hid (HCL.out k hlt)
          clear ho7 hx HP
          generalize (anc l k).reverse = P at *
          obtain ⟨aP, cP, rfl, hnP, hcP, _⟩ := hrP.ints
          rw [ni_length] at hnP hrP ⊢
          unfold maxLen at hcP
          have HX := Lib.hid hrP
          generalize rect l sw sh k = r at *
          clear hrP
          by_cases h1 : r.w = 0
          · have h1' : (r.w == 0) = true := by simp [h1]
            clear h1
            go_wp2
            clear c0 c1 c2 c3 hT HC HX
            go_loop [10, 11] (fun t j => ∃ q : Nat, j = .int .i64 q ∧ q ≤ P.length ∧ t = .bool true) (fun _ j => P.length - (intOf j).toNat)
            case atStart => exact ⟨0, rfl, Nat.zero_le _, rfl⟩
            case round =>
              obtain ⟨q, rfl, hq, rfl⟩ := hrel
              by_cases hqt : q < P.length
              · have hqti : (q : Int) < P.length := by omega
                go_wp2
                go_round
                case rel => exact ⟨q + 1, by go_num, by omega, rfl⟩
                case measure => simp [intOf]; omega
              · obtain rfl : q = P.length := by omega
                go_upto_region 17 with fail
                refine wp_region_held_drew (S := fun w' => Below w7.heap.size w7 w') (by kernel_rfl) (Below.refl _ _).drew (fun hS => ?_)
                change wpAnyH _ _ _ _ _ _ _ _ w7.drew
                generalize w7.drew = wd at *
                refine hTake (by kernel_rfl) (fun d _ _ _ _ h => by cases d <;> exact h) hS 0 (some 85) _ rfl (v := ?_) (by kernel_rfl) ?_ ?_
                rotate_left
                · intro _ _; go_simp; first | done | with_reducible rfl
                simp only [Act.put, List.setIfInBounds_toArray, List.set_cons_zero, List.set_cons_succ]
                refine hTake (by kernel_rfl) (fun d _ _ _ _ h => by cases d <;> exact h) hS 1 (some 86) _ rfl (v := ?_) (by kernel_rfl) ?_ ?_
                rotate_left
                · intro _ _; go_simp; first | done | with_reducible rfl
                simp only [Act.put, List.setIfInBounds_toArray, List.set_cons_zero, List.set_cons_succ]
                refine hTake (by kernel_rfl) (fun d _ _ _ _ h => by cases d <;> exact h) hS 2 (some 87) _ rfl (v := ?_) (by kernel_rfl) ?_ ?_
                rotate_left
                · intro _ _; go_simp; first | done | with_reducible rfl
                simp only [Act.put, List.setIfInBounds_toArray, List.set_cons_zero, List.set_cons_succ]
                refine hSkips (by kernel_rfl) (fun d _ _ _ _ h => by cases d <;> exact h) hS [3, 4, 5, 6, 7, 8, 9, 10, 11, 12, 13, 14, 15, 16, 17, 18, 19, 20] [some 88, some 89, some 90, some 91, some 92, some 93, some 94, some 95, some 96, some 97, some 98, some 99, some 100, some 101, some 102, some 103, some 104, some 105] (by kernel_rfl) ?_
                simp only [putUndef, listAll, List.foldl_cons, List.foldl_nil, Act.put, List.setIfInBounds_toArray, List.set_cons_zero, List.set_cons_succ]
                refine hTake (by kernel_rfl) (fun d _ _ _ _ h => by cases d <;> exact h) hS 21 (some 106) _ rfl (v := ?_) (by kernel_rfl) ?_ ?_
                rotate_left
                · intro _ _; go_simp; first | done | with_reducible rfl
                simp only [Act.put, List.setIfInBounds_toArray, List.set_cons_zero, List.set_cons_succ]
                refine wpAnyH_done (by kernel_rfl) ?_ _
                have HB9 := Lib.hid (after hb6 hS (Nat.le_refl _))
                clear hS hb6
                go_wp2
                go_roundw
                case rel => exact ⟨k + 1, by go_num, by omega, HB9.out⟩
                case measure => simp [intOf]; omega
          · have h1' : (r.w == 0) = false := by simp [h1]
            by_cases h2 : r.h = 0
            · have h2' : (r.h == 0) = true := by simp [h2]
              clear h2 h1
              go_wp2
              clear c0 c1 c2 c3 hT HC HX
              go_loop [10, 11] (fun t j => ∃ q : Nat, j = .int .i64 q ∧ q ≤ P.length ∧ t = .bool true) (fun _ j => P.length - (intOf j).toNat)
              case atStart => exact ⟨0, rfl, Nat.zero_le _, rfl⟩
              case round =>
                obtain ⟨q, rfl, hq, rfl⟩ := hrel
                by_cases hqt : q < P.length
                · have hqti : (q : Int) < P.length := by omega
                  go_wp2
                  go_round
                  case rel => exact ⟨q + 1, by go_num, by omega, rfl⟩
                  case measure => simp [intOf]; omega
                · obtain rfl : q = P.length := by omega
                  go_upto_region 17 with fail
                  refine wp_region_held_drew (S := fun w' => Below w7.heap.size w7 w') (by kernel_rfl) (Below.refl _ _).drew (fun hS => ?_)
                  change wpAnyH _ _ _ _ _ _ _ _ w7.drew
                  generalize w7.drew = wd at *
                  refine hTake (by kernel_rfl) (fun d _ _ _ _ h => by cases d <;> exact h) hS 0 (some 85) _ rfl (v := ?_) (by kernel_rfl) ?_ ?_
                  rotate_left
                  · intro _ _; go_simp; first | done | with_reducible rfl
                  simp only [Act.put, List.setIfInBounds_toArray, List.set_cons_zero, List.set_cons_succ]
                  refine hTake (by kernel_rfl) (fun d _ _ _ _ h => by cases d <;> exact h) hS 1 (some 86) _ rfl (v := ?_) (by kernel_rfl) ?_ ?_
                  rotate_left
                  · intro _ _; go_simp; first | done | with_reducible rfl
                  simp only [Act.put, List.setIfInBounds_toArray, List.set_cons_zero, List.set_cons_succ]
                  refine hTake (by kernel_rfl) (fun d _ _ _ _ h => by cases d <;> exact h) hS 2 (some 87) _ rfl (v := ?_) (by kernel_rfl) ?_ ?_
                  rotate_left
                  · intro _ _; go_simp; first | done | with_reducible rfl
                  simp only [Act.put, List.setIfInBounds_toArray, List.set_cons_zero, List.set_cons_succ]
                  refine hSkips (by kernel_rfl) (fun d _ _ _ _ h => by cases d <;> exact h) hS [3, 4, 5, 6, 7, 8, 9, 10, 11, 12, 13, 14, 15, 16, 17, 18, 19, 20] [some 88, some 89, some 90, some 91, some 92, some 93, some 94, some 95, some 96, some 97, some 98, some 99, some 100, some 101, some 102, some 103, some 104, some 105] (by kernel_rfl) ?_
                  simp only [putUndef, listAll, List.foldl_cons, List.foldl_nil, Act.put, List.setIfInBounds_toArray, List.set_cons_zero, List.set_cons_succ]
                  refine hTake (by kernel_rfl) (fun d _ _ _ _ h => by cases d <;> exact h) hS 21 (some 106) _ rfl (v := ?_) (by kernel_rfl) ?_ ?_
                  rotate_left
                  · intro _ _; go_simp; first | done | with_reducible rfl
                  simp only [Act.put, List.setIfInBounds_toArray, List.set_cons_zero, List.set_cons_succ]
                  refine wpAnyH_done (by kernel_rfl) ?_ _
                  have HB9 := Lib.hid (after hb6 hS (Nat.le_refl _))
                  clear hS hb6
                  go_wp2
                  go_roundw
                  case rel => exact ⟨k + 1, by go_num, by omega, HB9.out⟩
                  case measure => simp [intOf]; omega
            · have h2' : (r.h == 0) = false := by simp [h2]
              have HC2 := Lib.hid (fun hn => HC.out hn h1 h2)
              clear h1 h2 HC
              go_wp2
              go_loop [10, 11] (fun t j => ∃ (q : Nat) (T : Bool), j = .int .i64 q ∧ q ≤ P.length ∧ t = .bool T ∧ Hid (T = (ni (P.take q)).any fun p => decide (p ∈ splL l sw sh))) (fun _ j => P.length - (intOf j).toNat)
              case atStart => exact ⟨0, false, rfl, Nat.zero_le _, rfl, by show _ = _; simp [ni]⟩
              case round =>
                obtain ⟨q, T, rfl, hq, rfl, HTQ⟩ := hrel
                by_cases hqt : q < P.length
                · have hqti : (q : Int) < P.length := by omega
                  have hm := List.getElem?_eq_getElem hqt
                  have HS := Lib.hid (any_stepN (f := fun p => decide (p ∈ splL l sw sh)) hm)
                  cases T with
                  | true =>
                    clear hm
                    go_wp2
                    go_round
                    case rel => exact ⟨q + 1, true, by go_num, by omega, rfl, by show _ = _; rw [HS.out, ← HTQ.out]; rfl⟩
                    case measure => simp [intOf]; omega
                  | false =>
                    obtain ⟨bK, oK, rfl, cb⟩ := HX.out.intAt (ni_get hm)
                    clear hm
                    generalize P[q] = m at *
                    go_wp2_with (fail)
                    refine (isIn_any (m : Int) _ hO).mono ?_
                    rintro e wq ⟨rfl, rfl⟩
                    have HE : Hid (decide ((m : Int) ∈ splL l sw sh) = (ni (P.take (q + 1))).any fun p => decide (p ∈ splL l sw sh)) := by
                      show _ = _
                      rw [HS.out, ← HTQ.out]
                      rfl
                    clear HS HTQ
                    generalize decide ((m : Int) ∈ splL l sw sh) = T at *
                    clear cb
                    go_wp2
                    go_round
                    case rel => exact ⟨q + 1, T, by go_num, by omega, rfl, HE.out⟩
                    case measure => simp [intOf]; omega
                · obtain rfl : q = P.length := by omega
                  cases T with
                  | true =>
                    clear c0 c1 c2 c3 hT HC2 HX HTQ
                    go_upto_region 17 with fail
                    refine wp_region_held_drew (S := fun w' => Below w7.heap.size w7 w') (by kernel_rfl) (Below.refl _ _).drew (fun hS => ?_)
                    change wpAnyH _ _ _ _ _ _ _ _ w7.drew
                    generalize w7.drew = wd at *
                    refine hTake (by kernel_rfl) (fun d _ _ _ _ h => by cases d <;> exact h) hS 0 (some 85) _ rfl (v := ?_) (by kernel_rfl) ?_ ?_
                    rotate_left
                    · intro _ _; go_simp; first | done | with_reducible rfl
                    simp only [Act.put, List.setIfInBounds_toArray, List.set_cons_zero, List.set_cons_succ]
                    refine hTake (by kernel_rfl) (fun d _ _ _ _ h => by cases d <;> exact h) hS 1 (some 86) _ rfl (v := ?_) (by kernel_rfl) ?_ ?_
                    rotate_left
                    · intro _ _; go_simp; first | done | with_reducible rfl
                    simp only [Act.put, List.setIfInBounds_toArray, List.set_cons_zero, List.set_cons_succ]
                    refine hTake (by kernel_rfl) (fun d _ _ _ _ h => by cases d <;> exact h) hS 2 (some 87) _ rfl (v := ?_) (by kernel_rfl) ?_ ?_
                    rotate_left
                    · intro _ _; go_simp; first | done | with_reducible rfl
                    simp only [Act.put, List.setIfInBounds_toArray, List.set_cons_zero, List.set_cons_succ]
                    refine hSkips (by kernel_rfl) (fun d _ _ _ _ h => by cases d <;> exact h) hS [3, 4, 5, 6, 7, 8, 9, 10, 11, 12, 13, 14, 15, 16, 17, 18, 19, 20] [some 88, some 89, some 90, some 91, some 92, some 93, some 94, some 95, some 96, some 97, some 98, some 99, some 100, some 101, some 102, some 103, some 104, some 105] (by kernel_rfl) ?_
                    simp only [putUndef, listAll, List.foldl_cons, List.foldl_nil, Act.put, List.setIfInBounds_toArray, List.set_cons_zero, List.set_cons_succ]
                    refine hTake (by kernel_rfl) (fun d _ _ _ _ h => by cases d <;> exact h) hS 21 (some 106) _ rfl (v := ?_) (by kernel_rfl) ?_ ?_
                    rotate_left
                    · intro _ _; go_simp; first | done | with_reducible rfl
                    simp only [Act.put, List.setIfInBounds_toArray, List.set_cons_zero, List.set_cons_succ]
                    refine wpAnyH_done (by kernel_rfl) ?_ _
                    have HB9 := Lib.hid (after hb6 hS (Nat.le_refl _))
                    clear hS hb6
                    go_wp2
                    go_roundw
                    case rel => exact ⟨k + 1, by go_num, by omega, HB9.out⟩
                    case measure => simp [intOf]; omega
                  | false =>
                    obtain ⟨m, hm1, hm2⟩ := HC2.out (by rw [HTQ.out, List.take_length])
                    have HM1 := Lib.hid hm1
                    have HM2 := Lib.hid hm2
                    have HTX := Lib.hid (fun w9 (h : Below w7.heap.size w7 w9) => hT.below h (Nat.le_refl _))
                    clear hm1 hm2 HC2 HTQ HX hT hO
                    go_upto_region 17 with fail
                    refine wp_region_held_drew (S := fun w' => Below w7.heap.size w7 w') (by kernel_rfl) (Below.refl _ _).drew (fun hS => ?_)
                    change wpAnyH _ _ _ _ _ _ _ _ w7.drew
                    generalize w7.drew = wd at *
                    refine hTake (by kernel_rfl) (fun d _ _ _ _ h => by cases d <;> exact h) hS 0 (some 85) _ rfl (v := ?_) (by kernel_rfl) ?_ ?_
                    rotate_left
                    · intro _ _; go_simp; first | done | with_reducible rfl
                    simp only [Act.put, List.setIfInBounds_toArray, List.set_cons_zero, List.set_cons_succ]
                    refine hTake (by kernel_rfl) (fun d _ _ _ _ h => by cases d <;> exact h) hS 1 (some 86) _ rfl (v := ?_) (by kernel_rfl) ?_ ?_
                    rotate_left
                    · intro _ _; go_simp; first | done | with_reducible rfl
                    simp only [Act.put, List.setIfInBounds_toArray, List.set_cons_zero, List.set_cons_succ]
                    refine hTake (by kernel_rfl) (fun d _ _ _ _ h => by cases d <;> exact h) hS 2 (some 87) _ rfl (v := ?_) (by kernel_rfl) ?_ ?_
                    rotate_left
                    · intro _ _; go_simp; first | done | with_reducible rfl
                    simp only [Act.put, List.setIfInBounds_toArray, List.set_cons_zero, List.set_cons_succ]
                    refine hTake (by kernel_rfl) (fun d _ _ _ _ h => by cases d <;> exact h) hS 3 (some 88) _ rfl (v := ?_) (by kernel_rfl) ?_ ?_
                    rotate_left
                    · intro _ _; go_simp; first | done | with_reducible rfl
                    simp only [Act.put, List.setIfInBounds_toArray, List.set_cons_zero, List.set_cons_succ]
                    refine hTake (by kernel_rfl) (fun d _ _ _ _ h => by cases d <;> exact h) hS 4 (some 89) _ rfl (v := ?_) (by kernel_rfl) ?_ ?_
                    rotate_left
                    · intro _ _; go_simp; first | done | with_reducible rfl
                    simp only [Act.put, List.setIfInBounds_toArray, List.set_cons_zero, List.set_cons_succ]
                    refine hTake (by kernel_rfl) (fun d _ _ _ _ h => by cases d <;> exact h) hS 5 (some 90) _ rfl (v := ?_) (by kernel_rfl) ?_ ?_
                    rotate_left
                    · intro _ _; go_simp; first | done | with_reducible rfl
                    simp only [Act.put, List.setIfInBounds_toArray, List.set_cons_zero, List.set_cons_succ]
                    refine hTake (by kernel_rfl) (fun d _ _ _ _ h => by cases d <;> exact h) hS 6 (some 91) _ rfl (v := ?_) (by kernel_rfl) ?_ ?_
                    rotate_left
                    · intro _ _; go_simp; first | done | with_reducible rfl
                    simp only [Act.put, List.setIfInBounds_toArray, List.set_cons_zero, List.set_cons_succ]
                    refine hTake (by kernel_rfl) (fun d _ _ _ _ h => by cases d <;> exact h) hS 7 (some 92) _ rfl (v := ?_) (by kernel_rfl) ?_ ?_
                    rotate_left
                    · intro _ _; go_simp; first | done | with_reducible rfl
                    simp only [Act.put, List.setIfInBounds_toArray, List.set_cons_zero, List.set_cons_succ]
                    refine hTake (by kernel_rfl) (fun d _ _ _ _ h => by cases d <;> exact h) hS 8 (some 93) _ rfl (v := ?_) (by kernel_rfl) ?_ ?_
                    rotate_left
                    · intro _ _; go_simp; first | done | with_reducible rfl
                    simp only [Act.put, List.setIfInBounds_toArray, List.set_cons_zero, List.set_cons_succ]
                    refine hTake (by kernel_rfl) (fun d _ _ _ _ h => by cases d <;> exact h) hS 9 (some 94) _ rfl (v := ?_) (by kernel_rfl) ?_ ?_
                    rotate_left
                    · intro _ _; go_simp; first | done | with_reducible rfl
                    simp only [Act.put, List.setIfInBounds_toArray, List.set_cons_zero, List.set_cons_succ]
                    refine hTake (by kernel_rfl) (fun d _ _ _ _ h => by cases d <;> exact h) hS 10 (some 95) _ rfl (v := ?_) (by kernel_rfl) ?_ ?_
                    rotate_left
                    · intro _ _; go_simp; first | done | with_reducible rfl
                    simp only [Act.put, List.setIfInBounds_toArray, List.set_cons_zero, List.set_cons_succ]
                    refine hTake (by kernel_rfl) (fun d _ _ _ _ h => by cases d <;> exact h) hS 11 (some 96) _ rfl (v := ?_) (by kernel_rfl) ?_ ?_
                    rotate_left
                    · intro _ _; go_simp; first | done | with_reducible rfl
                    simp only [Act.put, List.setIfInBounds_toArray, List.set_cons_zero, List.set_cons_succ]
                    refine hTake (by kernel_rfl) (fun d _ _ _ _ h => by cases d <;> exact h) hS 12 (some 97) _ rfl (v := ?_) (by kernel_rfl) ?_ ?_
                    rotate_left
                    · intro w9 hS9; have y := cell_below hS9 c0; go_simp; first | done | with_reducible rfl
                    simp only [Act.put, List.setIfInBounds_toArray, List.set_cons_zero, List.set_cons_succ]
                    refine hTake (by kernel_rfl) (fun d _ _ _ _ h => by cases d <;> exact h) hS 13 (some 98) _ rfl (v := ?_) (by kernel_rfl) ?_ ?_
                    rotate_left
                    · intro _ _; go_simp; first | done | with_reducible rfl
                    simp only [Act.put, List.setIfInBounds_toArray, List.set_cons_zero, List.set_cons_succ]
                    refine hTake (by kernel_rfl) (fun d _ _ _ _ h => by cases d <;> exact h) hS 14 (some 99) _ rfl (v := ?_) (by kernel_rfl) ?_ ?_
                    rotate_left
                    · intro _ _; go_simp; first | done | with_reducible rfl
                    simp only [Act.put, List.setIfInBounds_toArray, List.set_cons_zero, List.set_cons_succ]
                    refine hTake (by kernel_rfl) (fun d _ _ _ _ h => by cases d <;> exact h) hS 15 (some 100) _ rfl (v := ?_) (by kernel_rfl) ?_ ?_
                    rotate_left
                    · intro _ _; go_simp; first | done | with_reducible rfl
                    simp only [Act.put, List.setIfInBounds_toArray, List.set_cons_zero, List.set_cons_succ]
                    refine hTake (by kernel_rfl) (fun d _ _ _ _ h => by cases d <;> exact h) hS 16 (some 101) _ rfl (v := ?_) (by kernel_rfl) ?_ ?_
                    rotate_left
                    · intro _ _; go_simp; first | done | with_reducible rfl
                    simp only [Act.put, List.setIfInBounds_toArray, List.set_cons_zero, List.set_cons_succ]
                    refine hTake (by kernel_rfl) (fun d _ _ _ _ h => by cases d <;> exact h) hS 17 (some 102) _ rfl (v := ?_) (by kernel_rfl) ?_ ?_
                    rotate_left
                    · intro w9 hS9; have y := cell_below hS9 c1; go_simp; first | done | with_reducible rfl
                    simp only [Act.put, List.setIfInBounds_toArray, List.set_cons_zero, List.set_cons_succ]
                    clear c0 c1 c2 c3
                    refine wpAnyH_ready (rs := [18]) (by kernel_rfl) (by simp) ?_
                    refine AllReadyH.cons (o := _) rfl (fun K9 hK9 => ?_) AllReadyH.nil
                    go_simp
                    refine (HitBox_any (l := l) sw sh r.x r.y _ (HTX.out _ hS)).mono ?_
                    rintro e w8 ⟨rfl, hx8⟩
                    rw [HM1.out]
                    try go_wp2_with fail
                    refine hK9.out _ _ (after hS hx8 (Nat.le_refl _)) (fun hS => ?_)
                    clear hK9 K9
                    try simp only [Act.put, List.setIfInBounds_toArray, List.set_cons_zero, List.set_cons_succ]
                    clear hx8
                    refine wpAnyH_ready (rs := [19]) (by kernel_rfl) (by simp) ?_
                    refine AllReadyH.cons (o := _) rfl (fun K9 hK9 => ?_) AllReadyH.nil
                    go_simp
                    refine (IsAround_any (l := l) (k : Int) (m : Int) _ (HTX.out _ hS)).mono ?_
                    rintro e w9 ⟨rfl, hx9⟩
                    rw [HM2.out]
                    try go_wp2_with fail
                    refine hK9.out _ _ (after hS hx9 (Nat.le_refl _)) (fun hS => ?_)
                    clear hK9 K9
                    try simp only [Act.put, List.setIfInBounds_toArray, List.set_cons_zero, List.set_cons_succ]
                    clear hx9
                    refine hTake (by kernel_rfl) (fun d _ _ _ _ h => by cases d <;> exact h) hS 20 (some 105) _ rfl (v := ?_) (by kernel_rfl) ?_ ?_
                    rotate_left
                    · intro _ _; go_simp; first | done | with_reducible rfl
                    simp only [Act.put, List.setIfInBounds_toArray, List.set_cons_zero, List.set_cons_succ]
                    refine hTake (by kernel_rfl) (fun d _ _ _ _ h => by cases d <;> exact h) hS 21 (some 106) _ rfl (v := ?_) (by kernel_rfl) ?_ ?_
                    rotate_left
                    · intro _ _; go_simp; first | done | with_reducible rfl
                    simp only [Act.put, List.setIfInBounds_toArray, List.set_cons_zero, List.set_cons_succ]
                    refine wpAnyH_done (by kernel_rfl) ?_ _
                    have HB9 := Lib.hid (after hb6 hS (Nat.le_refl _))
                    clear hS hb6 HTX
                    go_wp2
                    go_roundw
                    case rel => exact ⟨k + 1, by go_num, by omega, HB9.out⟩
                    case measure => simp [intOf]; omega
        · obtain rfl : k = l.length := by omega
          have HBE := Lib.hid (hb.trans (hb6.mono hb.size))
          go_wp2
          go_ret
          exact ⟨rfl, HBE.out⟩
end Go.Proofs.Ytbkhbmcoococmaa
