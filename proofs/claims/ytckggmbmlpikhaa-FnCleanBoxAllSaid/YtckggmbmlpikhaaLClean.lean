/-
  The laws FnCleanBox and FnCleanBoxAll: the walks.
-/
import Derived.Test.YtckggmbmlpikhaaClean2
import Derived.Test.YtckggmbmlpikhaaLDirty3
namespace Go.Proofs.Ytckggmbmlpikhaa
open Go Go.RowKit

set_option maxRecDepth 100000 in
set_option maxHeartbeats 4000000 in
theorem FnCleanBox_any {v : Value} (w : World) (hv : RdBytes w v) :
    Calls Try.prog 12 #[v] w fun e w' => e = .returned (.bool true) ∧ Ext w w' := by
  have hv2 := hv
  obtain ⟨ad, n, c, rfl, hn, hc, _⟩ := hv
  unfold maxLen at hc
  by_cases hlen : 1048576 < n
  · have hlen' : (1048576 : Int) < n := by omega
    go_enter Try.func12, Try.ntmps12
    go_wp2
    go_ret
    exact ⟨rfl, Below.refl _ _⟩
  · have hlen' : ¬ ((1048576 : Int) < n) := by omega
    go_enter Try.func12, Try.ntmps12
    go_wp2_with (fail)
    refine (DrawCleanBox_any _ hv2).mono ?_
    rintro e w1 ⟨v1, u1, a, rfl, l, ms, hl, hms, ha0, ha1, ho1, hu1, hb⟩
    have hrT := ho1.rd
    have hrM := hu1.rd
    clear ho1 hu1 hv2
    go_wp2_with (fail)
    refine (CleanBox_any (l := l) (ms := ms) a _ hrT hrM).mono ?_
    rintro e w2 ⟨v2, rfl, ho2, hx⟩
    replace hb := after hb hx (Nat.le_refl _)
    replace hrT := hrT.below hx (Nat.le_refl _)
    replace hrM := hrM.below hx (Nat.le_refl _)
    have hrO := ho2.rd
    clear ho2 hx
    go_wp2_with (fail)
    refine (sCleanBox_any (l := l) (ms := ms) a _ hrT hrM (by omega)).mono ?_
    rintro e w3 ⟨v3, rfl, ho3, hx⟩
    replace hb := after hb hx (Nat.le_refl _)
    replace hrT := hrT.below hx (Nat.le_refl _)
    replace hrM := hrM.below hx (Nat.le_refl _)
    replace hrO := hrO.below hx (Nat.le_refl _)
    have hrW := ho3.rd
    clear ho3 hx
    obtain ⟨aO, cO, rfl, hnO, hcO⟩ := hrO.len
    have hcO' : cO ≤ maxLen := hcO
    unfold maxLen at hcO'
    obtain ⟨aM, cM, rfl, hnM, hcM⟩ := hrM.len
    have hcM' : cM ≤ maxLen := hcM
    unfold maxLen at hcM'
    clear hcO hcM
    go_wp2_with (fail)
    refine (equalInts_any _ hrO hrW).mono ?_
    rintro e w4 ⟨rfl, hx⟩
    rw [show decide (ni (clnL l ms a) = ni (clnL l ms a)) = true by simp]
    replace hb := after hb hx (Nat.le_refl _)
    replace hrT := hrT.below hx (Nat.le_refl _)
    replace hrM := hrM.below hx (Nat.le_refl _)
    replace hrO := hrO.below hx (Nat.le_refl _)
    replace hrW := hrW.below hx (Nat.le_refl _)
    clear hx
    by_cases hok : clnOk l ms a = true
    · obtain ⟨hmk, ha0', hal⟩ := clnOk_iff.1 hok
      obtain ⟨hval, hm16, hin⟩ := mkB_iff.1 hmk
      obtain ⟨a, rfl⟩ := Int.eq_ofNat_of_zero_le ha0'
      rw [hok]
      obtain ⟨r, hr⟩ : ∃ r, rootsL l ms = r := ⟨_, rfl⟩
      have HDR : Hid (drtL l ms = r) := by
        show _ = _
        rw [drt_roots hmk, hr]
      have hcl : clnL l ms (a : Int) = r.filter fun i => !arB l a i := by
        unfold clnL
        rw [if_pos hok, Int.toNat_natCast]
        unfold cleanL
        rw [hr]
      have HB : Hid (∀ (j : Nat) (y : Int), (ni r)[j]? = some y → ∃ A : Bool, decide (y ∈ ni (clnL l ms (a : Int))) = !A ∧ isAr l (a : Int) y = A) := fun j y hj => by
        obtain ⟨x, hx, rfl⟩ := mem_ni.1 (List.mem_of_getElem? hj)
        refine ⟨arB l a x, ?_, ?_⟩
        · rw [hcl, Bool.eq_iff_iff, decide_eq_true_eq, mem_ni_nat, List.mem_filter]
          exact ⟨fun h => h.2, fun h => ⟨hx, h⟩⟩
        · rw [← hr] at hx
          have hxl := (mem_roots.1 hx).1
          unfold isAr
          rw [inB_iff.2 ⟨hval, by omega, by omega⟩, inB_iff.2 ⟨hval, by omega, by omega⟩, Int.toNat_natCast, Int.toNat_natCast]
          rfl
      have h0ok : clnOk l ms 0 = true := clnOk_iff.2 ⟨hmk, Int.le_refl _, by omega⟩
      have HOK0 := Lib.hid h0ok
      have HCL0 : Hid (ni (clnL l ms 0) = []) := by
        show _ = _
        unfold clnL
        rw [if_pos h0ok, Int.toNat_zero, clean_first hval]
        rfl
      have hOR : (ni (clnL l ms (a : Int))).length ≤ (ni r).length := by
        rw [ni_length, ni_length, hcl]
        exact List.length_filter_le _ _
      clear hmk hval hin hr hok h0ok hcl hrW
      go_wp2_with (fail)
      refine (DirtyRoots_any (l := l) (ms := ms) _ hrT hrM).mono ?_
      rintro e w6 ⟨v6, rfl, ho6, hx⟩
      rw [HDR.out] at ho6
      replace hb := after hb hx (Nat.le_refl _)
      replace hrT := hrT.below hx (Nat.le_refl _)
      replace hrM := hrM.below hx (Nat.le_refl _)
      replace hrO := hrO.below hx (Nat.le_refl _)
      have hrR := ho6.rd
      clear ho6 hx
      generalize ni r = R at *
      generalize ni (clnL l ms (a : Int)) = O at *
      obtain ⟨aR, cR, rfl, hnR, hcR⟩ := hrR.len
      have hcR' : cR ≤ maxLen := hcR
      unfold maxLen at hcR'
      clear hcR
      go_wp2
      go_loopw [11] (fun i wr => ∃ j : Nat, i = .int .i64 j ∧ j ≤ R.length ∧ Rd wr 9 v1 (Bs l) ∧ Rd wr 1 (.slice aM ms.length cM) (Is ms) ∧ Rd wr 1 (.slice aO O.length cO) (Is O) ∧ Rd wr 1 (.slice aR R.length cR) (Is R) ∧ Below w.heap.size w wr) (fun i _ => R.length - (intOf i).toNat)
      case atStart => exact ⟨0, rfl, Nat.zero_le _, hrT, hrM, hrO, hrR, hb⟩
      case round =>
        clear hrT hrM hrO hrR hb
        obtain ⟨j, rfl, hj, hrT, hrM, hrO, hrR, hb⟩ := hrel
        by_cases hlt : j < R.length
        · have hlti : (j : Int) < R.length := by omega
          have hj0 : (0 : Int) ≤ (j : Int) := by omega
          obtain ⟨y, hy⟩ : ∃ y, R[j]? = some y := ⟨_, List.getElem?_eq_getElem hlt⟩
          obtain ⟨A, hA1, hA2⟩ := HB.out j y hy
          obtain ⟨aR', cR', eR, _, _, hcell⟩ := hrR.ints
          cases eR
          obtain ⟨bR, offR, rfl, hcc⟩ := hcell j _ hy
          have ck := hcc j _ hy
          have HA1 := Lib.hid hA1
          have HA2 := Lib.hid hA2
          clear hcell hcc hy hA1 hA2
          go_upto_region 12 with fail
          refine wp_region_held_drew (S := SB wr) (by kernel_rfl) (Below.refl _ _).drew (fun hS => ?_)
          refine hTake (by kernel_rfl) (fun d _ _ _ _ h => by cases d <;> exact h) hS 0 (some 67) _ rfl (v := ?_) (by kernel_rfl) ?_ ?_
          rotate_left
          · intro _ _; go_simp; first | done | with_reducible rfl
          simp only [Act.put, List.setIfInBounds_toArray, List.set_cons_zero, List.set_cons_succ]
          refine hTake (by kernel_rfl) (fun d _ _ _ _ h => by cases d <;> exact h) hS 1 (some 68) _ rfl (v := ?_) (by kernel_rfl) ?_ ?_
          rotate_left
          · intro _ _; go_simp; first | done | with_reducible rfl
          simp only [Act.put, List.setIfInBounds_toArray, List.set_cons_zero, List.set_cons_succ]
          refine hTake (by kernel_rfl) (fun d _ _ _ _ h => by cases d <;> exact h) hS 2 (some 69) _ rfl (v := ?_) (by kernel_rfl) ?_ ?_
          rotate_left
          · intro _ _; go_simp; first | done | with_reducible rfl
          simp only [Act.put, List.setIfInBounds_toArray, List.set_cons_zero, List.set_cons_succ]
          refine hTake (by kernel_rfl) (fun d _ _ _ _ h => by cases d <;> exact h) hS 3 (some 70) _ rfl (v := ?_) (by kernel_rfl) ?_ ?_
          rotate_left
          · intro _ _; go_simp; first | done | with_reducible rfl
          simp only [Act.put, List.setIfInBounds_toArray, List.set_cons_zero, List.set_cons_succ]
          refine hTake (by kernel_rfl) (fun d _ _ _ _ h => by cases d <;> exact h) hS 4 (some 71) _ rfl (v := ?_) (by kernel_rfl) ?_ ?_
          rotate_left
          · intro w9 hS9; have q := cell_below hS9 ck; go_simp; first | done | with_reducible rfl
          simp only [Act.put, List.setIfInBounds_toArray, List.set_cons_zero, List.set_cons_succ]
          refine hTake (by kernel_rfl) (fun d _ _ _ _ h => by cases d <;> exact h) hS 6 (some 73) _ rfl (v := ?_) (by kernel_rfl) ?_ ?_
          rotate_left
          · intro _ _; go_simp; first | done | with_reducible rfl
          simp only [Act.put, List.setIfInBounds_toArray, List.set_cons_zero, List.set_cons_succ]
          refine hTake (by kernel_rfl) (fun d _ _ _ _ h => by cases d <;> exact h) hS 7 (some 74) _ rfl (v := ?_) (by kernel_rfl) ?_ ?_
          rotate_left
          · intro _ _; go_simp; first | done | with_reducible rfl
          simp only [Act.put, List.setIfInBounds_toArray, List.set_cons_zero, List.set_cons_succ]
          refine hTake (by kernel_rfl) (fun d _ _ _ _ h => by cases d <;> exact h) hS 8 (some 75) _ rfl (v := ?_) (by kernel_rfl) ?_ ?_
          rotate_left
          · intro _ _; go_simp; first | done | with_reducible rfl
          simp only [Act.put, List.setIfInBounds_toArray, List.set_cons_zero, List.set_cons_succ]
          refine hTake (by kernel_rfl) (fun d _ _ _ _ h => by cases d <;> exact h) hS 9 (some 76) _ rfl (v := ?_) (by kernel_rfl) ?_ ?_
          rotate_left
          · intro _ _; go_simp; first | done | with_reducible rfl
          simp only [Act.put, List.setIfInBounds_toArray, List.set_cons_zero, List.set_cons_succ]
          refine hTake (by kernel_rfl) (fun d _ _ _ _ h => by cases d <;> exact h) hS 10 (some 77) _ rfl (v := ?_) (by kernel_rfl) ?_ ?_
          rotate_left
          · intro _ _; go_simp; first | done | with_reducible rfl
          simp only [Act.put, List.setIfInBounds_toArray, List.set_cons_zero, List.set_cons_succ]
          refine hTake (by kernel_rfl) (fun d _ _ _ _ h => by cases d <;> exact h) hS 11 (some 78) _ rfl (v := ?_) (by kernel_rfl) ?_ ?_
          rotate_left
          · intro w9 hS9; have q := cell_below hS9 ck; go_simp; first | done | with_reducible rfl
          simp only [Act.put, List.setIfInBounds_toArray, List.set_cons_zero, List.set_cons_succ]
          refine wpAnyH_ready (rs := [5]) (by kernel_rfl) (by simp) ?_
          refine AllReadyH.cons (o := _) rfl (fun K9 hK9 => ?_) AllReadyH.nil
          go_simp
          refine (isIn_any (l := O) y _ (hrO.below (show Below wr.heap.size wr _ from hS) (Nat.le_refl _))).mono ?_
          rintro e w7 ⟨rfl, rfl⟩
          rw [HA1.out]
          try go_wp2_with fail
          refine hK9.out _ _ hS (fun hS => ?_)
          clear hK9 K9
          try simp only [Act.put, List.setIfInBounds_toArray, List.set_cons_zero, List.set_cons_succ]
          refine wpAnyH_ready (rs := [12]) (by kernel_rfl) (by simp) ?_
          refine AllReadyH.cons (o := _) rfl (fun K9 hK9 => ?_) AllReadyH.nil
          go_simp
          refine (IsAround_any (l := l) (a : Int) y _ (hrT.below (show Below wr.heap.size wr _ from hS) (Nat.le_refl _))).mono ?_
          rintro e w8 ⟨rfl, hx⟩
          rw [HA2.out]
          try go_wp2_with fail
          refine hK9.out _ _ (hS.ext hx) (fun hS => ?_)
          clear hK9 K9
          try simp only [Act.put, List.setIfInBounds_toArray, List.set_cons_zero, List.set_cons_succ]
          clear hx
          refine hTake (by kernel_rfl) (fun d _ _ _ _ h => by cases d <;> exact h) hS 13 (some 80) _ rfl (v := ?_) (by kernel_rfl) ?_ ?_
          rotate_left
          · intro _ _; go_simp; first | done | with_reducible rfl
          simp only [Act.put, List.setIfInBounds_toArray, List.set_cons_zero, List.set_cons_succ]
          refine wpAnyH_done (by kernel_rfl) ?_ _
          replace hrT := hrT.below (show Below wr.heap.size wr _ from hS) (Nat.le_refl _)
          replace hrM := hrM.below (show Below wr.heap.size wr _ from hS) (Nat.le_refl _)
          replace hrO := hrO.below (show Below wr.heap.size wr _ from hS) (Nat.le_refl _)
          replace hrR := hrR.below (show Below wr.heap.size wr _ from hS) (Nat.le_refl _)
          replace hb := after hb hS (Nat.le_refl _)
          clear hS ck
          cases A with
          | true =>
            go_wp2
            go_roundw
            case rel => exact ⟨j + 1, by go_num, by omega, hrT, hrM, hrO, hrR, hb⟩
            case measure => simp [intOf]; omega
          | false =>
            go_wp2
            go_roundw
            case rel => exact ⟨j + 1, by go_num, by omega, hrT, hrM, hrO, hrR, hb⟩
            case measure => simp [intOf]; omega
        · obtain rfl : j = R.length := by omega
          go_wp2_with (fail)
          refine (CleanBox_any (l := l) (ms := ms) 0 _ hrT hrM).mono ?_
          rintro e w7 ⟨v7, rfl, ho7, hx⟩
          rw [HCL0.out] at ho7
          rw [HOK0.out]
          replace hb := after hb hx (Nat.le_refl _)
          obtain ⟨a7, c7, rfl, hn7, hc7⟩ := ho7.rd.len
          have hc7' : c7 ≤ maxLen := hc7
          unfold maxLen at hc7'
          simp only [List.length_nil] at hn7
          have hOR2 : decide (O.length ≤ R.length) = true := by simp [hOR]
          clear ho7 hx hc7
          go_wp2
          go_ret
          exact ⟨by simp, hb⟩
    · have hok' : clnOk l ms a = false := by simpa using hok
      rw [hok']
      clear hok hok'
      go_wp2_with (fail)
      refine (equalInts_any _ hrO hrW).mono ?_
      rintro e w5 ⟨rfl, hx⟩
      rw [show decide (ni (clnL l ms a) = ni (clnL l ms a)) = true by simp]
      replace hb := after hb hx (Nat.le_refl _)
      go_wp2
      go_ret
      exact ⟨rfl, hb⟩
set_option maxRecDepth 100000 in
set_option maxHeartbeats 4000000 in
theorem FnCleanBoxAll_any {v : Value} (w : World) (hv : RdBytes w v) :
    Calls Try.prog 11 #[v] w fun e w' => e = .returned (.bool true) ∧ Ext w w' := by
  have hv2 := hv
  obtain ⟨ad, n, c, rfl, hn, hc, _⟩ := hv
  unfold maxLen at hc
  by_cases hlen : 1048576 < n
  · have hlen' : (1048576 : Int) < n := by omega
    go_enter Try.func11, Try.ntmps11
    go_wp2
    go_ret
    exact ⟨rfl, Below.refl _ _⟩
  · have hlen' : ¬ ((1048576 : Int) < n) := by omega
    go_enter Try.func11, Try.ntmps11
    go_wp2_with (fail)
    refine (DrawCleanBox_any _ hv2).mono ?_
    rintro e w1 ⟨v1, u1, a, rfl, l, ms, hl, hms, ha0, ha1, ho1, hu1, hb⟩
    have hrT := ho1.rd
    have hrM := hu1.rd
    clear ho1 hu1 hv2
    go_wp2_with (fail)
    refine (CleanBox_any (l := l) (ms := ms) a _ hrT hrM).mono ?_
    rintro e w2 ⟨v2, rfl, ho2, hx⟩
    replace hb := after hb hx (Nat.le_refl _)
    replace hrT := hrT.below hx (Nat.le_refl _)
    replace hrM := hrM.below hx (Nat.le_refl _)
    have hrO := ho2.rd
    clear ho2 hx
    go_wp2_with (fail)
    refine (sCleanBox_any (l := l) (ms := ms) a _ hrT hrM (by omega)).mono ?_
    rintro e w3 ⟨v3, rfl, ho3, hx⟩
    replace hb := after hb hx (Nat.le_refl _)
    replace hrT := hrT.below hx (Nat.le_refl _)
    replace hrM := hrM.below hx (Nat.le_refl _)
    replace hrO := hrO.below hx (Nat.le_refl _)
    have hrW := ho3.rd
    clear ho3 hx
    obtain ⟨aO, cO, rfl, hnO, hcO⟩ := hrO.len
    have hcO' : cO ≤ maxLen := hcO
    unfold maxLen at hcO'
    obtain ⟨aM, cM, rfl, hnM, hcM⟩ := hrM.len
    have hcM' : cM ≤ maxLen := hcM
    unfold maxLen at hcM'
    clear hcO hcM
    go_wp2_with (fail)
    refine (equalInts_any _ hrO hrW).mono ?_
    rintro e w4 ⟨rfl, hx⟩
    rw [show decide (ni (clnL l ms a) = ni (clnL l ms a)) = true by simp]
    replace hb := after hb hx (Nat.le_refl _)
    replace hrT := hrT.below hx (Nat.le_refl _)
    replace hrM := hrM.below hx (Nat.le_refl _)
    replace hrO := hrO.below hx (Nat.le_refl _)
    replace hrW := hrW.below hx (Nat.le_refl _)
    clear hx
    by_cases hok : clnOk l ms a = true
    · obtain ⟨hmk, ha0', hal⟩ := clnOk_iff.1 hok
      obtain ⟨hval, hm16, hin⟩ := mkB_iff.1 hmk
      rw [hok]
      have HDR : Hid (drtL l ms = rootsL l ms) := drt_roots hmk
      have HV := Lib.hid hval
      have HSRT : Hid ((rootsL l ms).Pairwise (· < ·)) := roots_sorted _ _
      have HRIN : Hid (∀ x, x ∈ rootsL l ms → x < l.length) := fun x hx => (mem_roots.1 hx).1
      have HLEN : Hid ((rootsL l ms).length ≤ 16) := roots_len hval
      clear hmk hval hin hok hrW hrO
      go_wp2_with (fail)
      refine (DirtyRoots_any (l := l) (ms := ms) _ hrT hrM).mono ?_
      rintro e w6 ⟨v6, rfl, ho6, hx⟩
      rw [HDR.out] at ho6
      replace hb := after hb hx (Nat.le_refl _)
      replace hrT := hrT.below hx (Nat.le_refl _)
      have hrR := ho6.rd
      clear ho6 hx hrM
      obtain ⟨aR, cR, rfl, hnR, hcR⟩ := hrR.len
      have hcR' : cR ≤ maxLen := hcR
      unfold maxLen at hcR'
      clear hcR
      go_wp2
      go_loopw [10, 11] (fun s i wr => ∃ (q : Nat) (r : List Nat), i = .int .i64 q ∧ (ni r).length = q ∧ r.Pairwise (· < ·) ∧ (∀ x, x ∈ r → x ∈ rootsL l ms) ∧ r.length ≤ 16 ∧ Rd wr 9 v1 (Bs l) ∧ Rd wr 1 s (Is (ni r)) ∧ Below w.heap.size w wr) (fun _ i _ => (intOf i).toNat)
      case atStart => exact ⟨_, rootsL l ms, rfl, rfl, HSRT.out, fun _ h => h, HLEN.out, hrT, hrR, hb⟩
      case round =>
        clear hrT hrR hb hnR hcR'
        obtain ⟨q, r, rfl, hqr, hsr, hsub, hr16, hrT, hrR, hb⟩ := hrel
        obtain ⟨aS, cS, rfl, hnS, hcS⟩ := hrR.len
        have hcS' : cS ≤ maxLen := hcS
        unfold maxLen at hcS'
        cases r with
        | nil =>
          have hq0 : q = 0 := by rw [← hqr]; rfl
          subst hq0
          simp only [show ni [] = ([] : List Int) from rfl, List.length_nil] at hnS hrR ⊢
          clear hcS hsr hsub hqr
          go_wp2
          go_ret
          exact ⟨rfl, hb⟩
        | cons x r =>
          have hxr := hsub x List.mem_cons_self
          have hxl := HRIN.out x hxr
          have hlr : (ni (x :: r)).length = r.length + 1 := by rw [ni_length]; rfl
          obtain ⟨q, rfl⟩ : ∃ q', q = q' + 1 := ⟨q - 1, by omega⟩
          have hqq : q = r.length := by omega
          have hmk2 : mkB l (ni (x :: r)) = true := mkB_iff.2 ⟨HV.out, by rw [ni_length]; exact hr16, fun m hm => by
            obtain ⟨k, hk, rfl⟩ := mem_ni.1 hm
            have := HRIN.out k (hsub k hk)
            exact ⟨by omega, by omega⟩⟩
          have hok2 : clnOk l (ni (x :: r)) (x : Int) = true := clnOk_iff.2 ⟨hmk2, by omega, by omega⟩
          have HOK2 := Lib.hid hok2
          have HCL2 : Hid (clnL l (ni (x :: r)) (x : Int) = r) := by
            show _ = _
            unfold clnL
            rw [if_pos hok2, Int.toNat_natCast, clean_head HV.out hsr hsub]
          have HSUB := Lib.hid (fun y (hy : y ∈ r) => hsub y (List.mem_cons_of_mem _ hy))
          have HSR := Lib.hid (List.Pairwise.of_cons hsr)
          have hg : (ni (x :: r))[0]? = some (x : Int) := rfl
          obtain ⟨aS', cS', eS, _, _, hcell⟩ := hrR.ints
          cases eS
          obtain ⟨bS, offS, rfl, hcc⟩ := hcell 0 _ hg
          have ck := hcc 0 _ hg
          simp only [Nat.add_zero] at ck
          have hr16' : r.length ≤ 16 := by rw [List.length_cons] at hr16; omega
          have hpos : 0 < (ni (x :: r)).length := by omega
          have hposi : (0 : Int) < ((ni (x :: r)).length : Int) := by omega
          have hnz : (((ni (x :: r)).length : Int) == 0) = false := beq_eq_false_iff_ne.2 (by omega)
          have hq1 : (0 : Int) < ((q + 1 : Nat) : Int) := by omega
          have HQ := Lib.hid hqq
          have hqb : q ≤ 16 := by omega
          clear hcell hcc hg hsr hsub hmk2 hok2 hxr hlr hr16 hcS hqr hqq
          go_wp2_with (fail)
          refine (CleanBox_any (l := l) (ms := ni (x :: r)) (x : Int) _ hrT hrR).mono ?_
          rintro e w7 ⟨v7, rfl, ho7, hx⟩
          rw [HCL2.out] at ho7
          rw [HOK2.out]
          replace hb := after hb hx (Nat.le_refl _)
          replace hrT := hrT.below hx (Nat.le_refl _)
          have hr7 := ho7.rd
          clear ho7 hx hrR ck
          go_wp2
          go_roundw
          case rel => exact ⟨q, r, by go_num, by rw [ni_length]; exact HQ.out.symm, HSR.out, HSUB.out, hr16', hrT, hr7, hb⟩
          case measure => simp [intOf]
    · have hok' : clnOk l ms a = false := by simpa using hok
      rw [hok']
      clear hok hok'
      go_wp2_with (fail)
      refine (equalInts_any _ hrO hrW).mono ?_
      rintro e w5 ⟨rfl, hx⟩
      rw [show decide (ni (clnL l ms a) = ni (clnL l ms a)) = true by simp]
      replace hb := after hb hx (Nat.le_refl _)
      go_wp2
      go_ret
      exact ⟨rfl, hb⟩
end Go.Proofs.Ytckggmbmlpikhaa
