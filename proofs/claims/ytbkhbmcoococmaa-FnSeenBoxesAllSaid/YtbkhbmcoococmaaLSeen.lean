/-
  The laws over SeenBoxes: FnSeenBoxes and FnSeenBoxesAll: the walks.
-/
import Derived.Test.YtbkhbmcoococmaaSeen
import Derived.Test.YtbkhbmcoococmaaDHit
import Derived.Test.YtbkhbmcoococmaaTre
import Derived.Test.YtbkhbmcoococmaaAb
import Derived.Test.YtbkhbmcoococmaaAe
namespace Go.Proofs.Ytbkhbmcoococmaa
open Go Go.RowKit

theorem seenL_ne {l : List Bx} {sw sh : Int} {q : Rc} (h : seenL l sw sh q ≠ []) : scrB l sw sh = true ∧ vrB q = true := by
  cases h1 : scrB l sw sh with
  | false => exact absurd (seenL_f h1) h
  | true =>
    cases h2 : vrB q with
    | false => exact absurd (seenL_v h2) h
    | true => exact ⟨rfl, rfl⟩
theorem seenL_mem {l : List Bx} {sw sh : Int} {q : Rc} {k : Nat} (h1 : scrB l sw sh = true) (h2 : vrB q = true) (hk : k < l.length) : decide ((k : Int) ∈ seenL l sw sh q) = meetB (rect l sw sh k) q := by
  rw [seenL_t h1 h2]
  cases hm : meetB (rect l sw sh k) q with
  | true => exact decide_eq_true (mem_ni_nat.2 (seenTo_mem.2 ⟨hk, hm⟩))
  | false =>
    apply decide_eq_false
    intro h
    have := (seenTo_mem.1 (mem_ni_nat.1 h)).2
    rw [hm] at this
    cases this
set_option maxHeartbeats 400000 in
theorem MeetRectsA_any {r s : Rc} (w : World) (vr : VR r) (vs : VR s) :
    Calls Try.prog 39 #[r.agg, s.agg] w fun x w' => (∃ t : Rc, x = .returned (.tuple #[t.agg, .bool (meetB r s)])) ∧ Ext w w' := by
  cases hm : meetB r s with
  | true => exact MeetRectsT_any w vr.rs vs.rs vr vs hm
  | false => exact (MeetRects_any w vr.rs vs.rs vr vs hm).mono fun e w' ⟨he, hx⟩ => ⟨⟨zr, he⟩, hx⟩
set_option maxRecDepth 100000 in
set_option maxHeartbeats 20000000 in
theorem FnSeenBoxes_any {v : Value} (w : World) (hv : RdBytes w v) :
    Calls Try.prog 11 #[v] w fun e w' => e = .returned (.bool true) ∧ Ext w w' := by
  have hv2 := hv
  obtain ⟨ad, n, c, rfl, hn, hc, _⟩ := hv
  unfold maxLen at hc
  by_cases hlen : 1048576 < n
  · have hlen' : (1048576 : Int) < n := by omega
    go_enter Try.func11, Try.ntmps11
    go_wp2
    go_ret
    exact ⟨rfl, Below.refl _ _⟩
  · have hlen' : ¬ ((1048576 : Int) < n) := by omega
    go_enter Try.func11, Try.ntmps11
    go_wp2_with (fail)
    refine (DrawSeenBoxes_any _ hv2).mono ?_
    rintro e w1 ⟨v1, sw, sh, q, rfl, l, hl, ho1, hb⟩
    have hrT := ho1.rd
    clear ho1 hv2
    unfold Rc.agg
    go_upto_region 4 with fail
    have kq := Keep.new w1 (.cells #[.int .i64 q.x, .int .i64 q.y, .int .i64 q.w, .int .i64 q.h] 39)
    replace hb := hb.alloc hb.size (.cells #[.int .i64 q.x, .int .i64 q.y, .int .i64 q.w, .int .i64 q.h] 39)
    replace hrT := hrT.alloc (.cells #[.int .i64 q.x, .int .i64 q.y, .int .i64 q.w, .int .i64 q.h] 39)
    generalize w1.alloc (.cells #[.int .i64 q.x, .int .i64 q.y, .int .i64 q.w, .int .i64 q.h] 39) = W1 at *
    generalize w1.heap.size = gq at *
    have q0 := kq.cell 0
    have q1 := kq.cell 1
    have q2 := kq.cell 2
    have q3 := kq.cell 3
    go_wp2_with (fail)
    refine ((SeenBoxes_any (l := l) (q := q) sw sh _ hrT)).mono ?_
    rintro e w2 ⟨v2, rfl, ho2, hx⟩
    replace hb := after hb hx (Nat.le_refl _)
    replace hrT := hrT.below hx (Nat.le_refl _)
    replace kq := keepE kq hx
    clear hx
    have hrO := ho2.rd
    clear ho2 q0 q1 q2 q3
    have q0 := kq.cell 0
    have q1 := kq.cell 1
    have q2 := kq.cell 2
    have q3 := kq.cell 3
    go_wp2_with (fail)
    refine ((sSeenBoxes_any (l := l) (q := q) sw sh _ hrT (by omega))).mono ?_
    rintro e w3 ⟨v3, rfl, ho3, hx⟩
    replace hb := after hb hx (Nat.le_refl _)
    replace hrT := hrT.below hx (Nat.le_refl _)
    replace hrO := hrO.below hx (Nat.le_refl _)
    replace kq := keepE kq hx
    clear hx
    have hrW := ho3.rd
    clear ho3 q0 q1 q2 q3
    go_wp2_with (fail)
    refine ((equalInts_any _ hrO hrW)).mono ?_
    rintro e w4 ⟨rfl, hx⟩
    replace hb := after hb hx (Nat.le_refl _)
    replace hrT := hrT.below hx (Nat.le_refl _)
    replace hrO := hrO.below hx (Nat.le_refl _)
    replace kq := keepE kq hx
    clear hx
    rw [show decide (seenL l sw sh q = seenL l sw sh q) = true by simp]
    clear hrW
    by_cases hE : seenL l sw sh q = []
    · have HS := Lib.hid (fun W (h : Rd W 9 v1 (Bs l)) => sSeenBoxes_any (l := l) (q := q) sw sh W h (by omega))
      have HQ := Lib.hid hE
      rw [hE] at hrO
      obtain ⟨aO, cO, rfl, hnO, hcO, _⟩ := hrO.ints
      rw [List.length_nil] at hrO ⊢
      have q0 := kq.cell 0
      have q1 := kq.cell 1
      have q2 := kq.cell 2
      have q3 := kq.cell 3
      clear hE
      go_wp2_with (fail)
      refine ((HS.out _ hrT)).mono ?_
      rintro e w5 ⟨v5, rfl, ho5, hx⟩
      replace hb := after hb hx (Nat.le_refl _)
      replace hrO := hrO.below hx (Nat.le_refl _)
      clear hx
      rw [HQ.out] at ho5
      have hrW := ho5.rd
      clear ho5 q0 q1 q2 q3
      go_wp2_with (fail)
      refine ((equalInts_any _ hrO hrW)).mono ?_
      rintro e w6 ⟨rfl, hx⟩
      replace hb := after hb hx (Nat.le_refl _)
      clear hx
      rw [show decide (([] : List Int) = []) = true by simp]
      go_wp2
      go_ret
      exact ⟨rfl, hb⟩
    · obtain ⟨hok, hvq⟩ := seenL_ne hE
      obtain ⟨hval, hsw2, hsh2⟩ := scrB_iff.1 hok
      have hvr := vrB_iff.1 hvq
      have hlo := hval.lo
      have HR := Lib.hid (fun k (hk : k < l.length) => rect_ok hval hsw2 hsh2 hk)
      have HOK := Lib.hid hok
      have HSE := Lib.hid (fun k (hk : k < l.length) => seenL_mem hok hvq hk)
      have hle : (seenL l sw sh q).length ≤ l.length := by
        rw [seenL_t hok hvq, ni_length]
        exact seenTo_length l sw sh q l.length
      have hpos : 0 < (seenL l sw sh q).length := List.length_pos_iff.2 hE
      have hne : (((seenL l sw sh q).length : Int) == 0) = false := by
        have : ((seenL l sw sh q).length : Int) ≠ 0 := by omega
        simpa using this
      clear hE hok hvq hval hsw2 hsh2
      generalize seenL l sw sh q = sl at *
      obtain ⟨aS, cS, rfl, hnS, hcS, _⟩ := hrO.ints
      unfold maxLen at hcS
      go_wp2_with (fail)
      refine ((LayoutTree_any (l := l) sw sh _ hrT)).mono ?_
      rintro e w5 ⟨v5, rfl, ho5, hx⟩
      replace hb := after hb hx (Nat.le_refl _)
      replace hrO := hrO.below hx (Nat.le_refl _)
      replace kq := keepE kq hx
      clear hx
      have hrL := ho5.rd
      rw [rectsOr_t HOK.out] at hrL
      obtain ⟨bO, oO, cO, rfl, hnO, hcO, hR⟩ := rectS hrL hlo
      clear ho5 hrL hrT
      have HOO := Lib.hid hrO
      have HRR := Lib.hid hR
      have HKK := Lib.hid kq
      clear hrO hR kq
      go_wp2
      go_loopw [9] (fun n wr => ∃ k : Nat, n = .int .i64 (k : Int) ∧ k ≤ l.length ∧ Below w5.heap.size w5 wr) (fun n _ => l.length - (intOf n).toNat)
      case atStart => exact ⟨0, by go_num, Nat.zero_le _, Below.refl _ _⟩
      case round =>
        obtain ⟨k, rfl, hk, hb6⟩ := hrel
        by_cases hlt : k < l.length
        · have hki : (k : Int) < l.length := by omega
          have kq := keepE HKK.out hb6
          obtain ⟨c0, c1, c2, c3⟩ := (HRR.out.below hb6 (Nat.le_refl _)).cs k hlt
          have hrk := HR.out k hlt
          have hvk := hrk.vr
          have q0 := kq.cell 0
          have q1 := kq.cell 1
          have q2 := kq.cell 2
          have q3 := kq.cell 3
          have HSM := Lib.hid (HSE.out k hlt)
          obtain ⟨r, hr⟩ : ∃ r, rect l sw sh k = r := ⟨_, rfl⟩
          rw [hr] at c0 c1 c2 c3 hvk HSM
          clear hr hrk kq
          have HIN := Lib.hid (fun W => MeetRectsA_any (r := r) (s := q) W hvk hvr)
          go_upto_region 11 with fail
          refine wp_region_held_drew (S := fun w' => Below wr.heap.size wr w') (by kernel_rfl) (Below.refl _ _).drew (fun hS => ?_)
          change wpAnyH _ _ _ _ _ _ _ _ wr.drew
          generalize wr.drew = wd at *
          refine hTake (by kernel_rfl) (fun d _ _ _ _ h => by cases d <;> exact h) hS 0 (some 58) _ rfl (v := ?_) (by kernel_rfl) ?_ ?_
          rotate_left
          · intro _ _; go_simp; first | done | with_reducible rfl
          simp only [Act.put, List.setIfInBounds_toArray, List.set_cons_zero, List.set_cons_succ]
          refine hTake (by kernel_rfl) (fun d _ _ _ _ h => by cases d <;> exact h) hS 1 (some 59) _ rfl (v := ?_) (by kernel_rfl) ?_ ?_
          rotate_left
          · intro _ _; go_simp; first | done | with_reducible rfl
          simp only [Act.put, List.setIfInBounds_toArray, List.set_cons_zero, List.set_cons_succ]
          refine hTake (by kernel_rfl) (fun d _ _ _ _ h => by cases d <;> exact h) hS 2 (some 60) _ rfl (v := ?_) (by kernel_rfl) ?_ ?_
          rotate_left
          · intro _ _; go_simp; first | done | with_reducible rfl
          simp only [Act.put, List.setIfInBounds_toArray, List.set_cons_zero, List.set_cons_succ]
          refine hTake (by kernel_rfl) (fun d _ _ _ _ h => by cases d <;> exact h) hS 3 (some 61) _ rfl (v := ?_) (by kernel_rfl) ?_ ?_
          rotate_left
          · intro w9 hS9; have x0 := cell_below hS9 c0; have x1 := cell_below hS9 c1; have x2 := cell_below hS9 c2; have x3 := cell_below hS9 c3; go_simp; first | done | with_reducible rfl
          simp only [Act.put, List.setIfInBounds_toArray, List.set_cons_zero, List.set_cons_succ]
          refine hTake (by kernel_rfl) (fun d _ _ _ _ h => by cases d <;> exact h) hS 4 (some 62) _ rfl (v := ?_) (by kernel_rfl) ?_ ?_
          rotate_left
          · intro w9 hS9; have x0 := cell_below hS9 q0; have x1 := cell_below hS9 q1; have x2 := cell_below hS9 q2; have x3 := cell_below hS9 q3; go_simp; first | done | with_reducible rfl
          simp only [Act.put, List.setIfInBounds_toArray, List.set_cons_zero, List.set_cons_succ]
          clear c0 c1 c2 c3 q0 q1 q2 q3
          refine wpAnyH_ready (rs := [5, 9]) (by kernel_rfl) (by simp) ?_
          refine AllReadyH.cons (o := _) rfl (fun K9 hK9 => ?_) (AllReadyH.cons (o := _) rfl (fun K9 hK9 => ?_) AllReadyH.nil)
          · go_simp
            refine ((HIN.out _)).mono ?_
            rintro e w7 ⟨⟨t, rfl⟩, hx7⟩
            unfold Rc.agg
            try go_wp2_with fail
            refine hK9.out _ _ (after hS hx7 (Nat.le_refl _)) (fun hS => ?_)
            clear hK9 K9
            try simp only [Act.put, List.setIfInBounds_toArray, List.set_cons_zero, List.set_cons_succ]
            clear hx7
            refine hTake (by kernel_rfl) (fun d _ _ _ _ h => by cases d <;> exact h) hS 6 (some 57) _ rfl (v := ?_) (by kernel_rfl) ?_ ?_
            rotate_left
            · intro _ _; go_simp; first | done | with_reducible rfl
            simp only [Act.put, List.setIfInBounds_toArray, List.set_cons_zero, List.set_cons_succ]
            refine hTake (by kernel_rfl) (fun d _ _ _ _ h => by cases d <;> exact h) hS 7 (some 64) _ rfl (v := ?_) (by kernel_rfl) ?_ ?_
            rotate_left
            · intro _ _; go_simp; first | done | with_reducible rfl
            simp only [Act.put, List.setIfInBounds_toArray, List.set_cons_zero, List.set_cons_succ]
            refine hTake (by kernel_rfl) (fun d _ _ _ _ h => by cases d <;> exact h) hS 8 (some 65) _ rfl (v := ?_) (by kernel_rfl) ?_ ?_
            rotate_left
            · intro _ _; go_simp; first | done | with_reducible rfl
            simp only [Act.put, List.setIfInBounds_toArray, List.set_cons_zero, List.set_cons_succ]
            refine wpAnyH_ready (rs := [9]) (by kernel_rfl) (by simp) ?_
            refine AllReadyH.cons (o := _) rfl (fun K9 hK9 => ?_) AllReadyH.nil
            go_simp
            have hS0 := hS
            refine hK9.out _ _ (hS.alloc hS.size _) (fun hS => ?_)
            clear hK9 K9
            try simp only [Act.put, List.setIfInBounds_toArray, List.set_cons_zero, List.set_cons_succ]
            clear hS
            refine wpAnyH_ready (rs := [10]) (by kernel_rfl) (by simp) ?_
            refine AllReadyH.cons (o := _) rfl (fun K9 hK9 => ?_) AllReadyH.nil
            go_simp
            refine hK9.out _ _ (hS0.alloc hS0.size _) (fun hS => ?_)
            clear hK9 K9
            try simp only [Act.put, List.setIfInBounds_toArray, List.set_cons_zero, List.set_cons_succ]
            refine hTake (by kernel_rfl) (fun d _ _ _ _ h => by cases d <;> exact h) hS 11 (some 11) _ rfl (v := ?_) (by kernel_rfl) ?_ ?_
            rotate_left
            · intro _ _; go_simp; first | done | with_reducible rfl
            simp only [Act.put, List.setIfInBounds_toArray, List.set_cons_zero, List.set_cons_succ]
            refine wpAnyH_done (by kernel_rfl) ?_ _
            have kQ := Keep.new w7 (.cells #[.int .i64 t.x, .int .i64 t.y, .int .i64 t.w, .int .i64 t.h] 39)
            clear hS0
            generalize w7.alloc (.cells #[.int .i64 t.x, .int .i64 t.y, .int .i64 t.w, .int .i64 t.h] 39) = W7 at *
            generalize w7.heap.size = gQ at *
            replace hb6 := after hb6 hS (Nat.le_refl _)
            have hO9 := HOO.out.below hb6 (Nat.le_refl _)
            clear hS
            go_wp2_with (fail)
            refine (isIn_any (k : Int) _ hO9).mono ?_
            rintro e wq ⟨rfl, rfl⟩
            rw [HSM.out]
            clear hO9
            cases meetB r q with
            | _ =>
              go_wp2
              go_roundw
              case rel => exact ⟨k + 1, by go_num, by omega, hb6⟩
              case measure => simp [intOf]; omega
          · go_simp
            have kZ := Keep.new wd (.cells #[.int .i64 0, .int .i64 0, .int .i64 0, .int .i64 0] 39)
            have hgw := hS.size
            refine hK9.out _ _ (hS.alloc hS.size _) (fun hS => ?_)
            clear hK9 K9
            try simp only [Act.put, List.setIfInBounds_toArray, List.set_cons_zero, List.set_cons_succ]
            generalize wd.alloc (.cells #[.int .i64 0, .int .i64 0, .int .i64 0, .int .i64 0] 39) = we at *
            generalize wd.heap.size = gQ at *
            refine wpAnyH_ready (rs := [5]) (by kernel_rfl) (by simp) ?_
            refine AllReadyH.cons (o := _) rfl (fun K9 hK9 => ?_) AllReadyH.nil
            go_simp
            refine ((HIN.out _)).mono ?_
            rintro e w7 ⟨⟨t, rfl⟩, hx7⟩
            unfold Rc.agg
            try go_wp2_with fail
            replace kZ := keepE kZ hx7
            refine hK9.out _ _ (after hS hx7 (Nat.le_refl _)) (fun hS => ?_)
            clear hK9 K9
            try simp only [Act.put, List.setIfInBounds_toArray, List.set_cons_zero, List.set_cons_succ]
            clear hx7
            refine hTake (by kernel_rfl) (fun d _ _ _ _ h => by cases d <;> exact h) hS 6 (some 57) _ rfl (v := ?_) (by kernel_rfl) ?_ ?_
            rotate_left
            · intro _ _; go_simp; first | done | with_reducible rfl
            simp only [Act.put, List.setIfInBounds_toArray, List.set_cons_zero, List.set_cons_succ]
            refine hTake (by kernel_rfl) (fun d _ _ _ _ h => by cases d <;> exact h) hS 7 (some 64) _ rfl (v := ?_) (by kernel_rfl) ?_ ?_
            rotate_left
            · intro _ _; go_simp; first | done | with_reducible rfl
            simp only [Act.put, List.setIfInBounds_toArray, List.set_cons_zero, List.set_cons_succ]
            refine hTake (by kernel_rfl) (fun d _ _ _ _ h => by cases d <;> exact h) hS 8 (some 65) _ rfl (v := ?_) (by kernel_rfl) ?_ ?_
            rotate_left
            · intro _ _; go_simp; first | done | with_reducible rfl
            simp only [Act.put, List.setIfInBounds_toArray, List.set_cons_zero, List.set_cons_succ]
            have z0 := kZ.cell 0
            have z1 := kZ.cell 1
            have z2 := kZ.cell 2
            have z3 := kZ.cell 3
            have f0 := kZ.frozen 0
            have f1 := kZ.frozen 1
            have f2 := kZ.frozen 2
            have f3 := kZ.frozen 3
            have kQ := keep_rect kZ rfl (.int .i64 t.x) (.int .i64 t.y) (.int .i64 t.w) (.int .i64 t.h)
            refine wpAnyH_ready (rs := [10]) (by kernel_rfl) (by simp) ?_
            refine AllReadyH.cons (o := _) rfl (fun K9 hK9 => ?_) AllReadyH.nil
            go_simp
            refine hK9.out _ _ (below_set4' hS hgw _ _ _ _) (fun hS => ?_)
            clear hK9 K9
            try simp only [Act.put, List.setIfInBounds_toArray, List.set_cons_zero, List.set_cons_succ]
            clear z0 z1 z2 z3 f0 f1 f2 f3 kZ hgw
            generalize (((w7.setCell ⟨gQ, 0, none⟩ (.int .i64 t.x)).setCell ⟨gQ, 1, none⟩ (.int .i64 t.y)).setCell ⟨gQ, 2, none⟩ (.int .i64 t.w)).setCell ⟨gQ, 3, none⟩ (.int .i64 t.h) = W7 at *
            refine hTake (by kernel_rfl) (fun d _ _ _ _ h => by cases d <;> exact h) hS 11 (some 11) _ rfl (v := ?_) (by kernel_rfl) ?_ ?_
            rotate_left
            · intro _ _; go_simp; first | done | with_reducible rfl
            simp only [Act.put, List.setIfInBounds_toArray, List.set_cons_zero, List.set_cons_succ]
            refine wpAnyH_done (by kernel_rfl) ?_ _
            replace hb6 := after hb6 hS (Nat.le_refl _)
            have hO9 := HOO.out.below hb6 (Nat.le_refl _)
            clear hS
            go_wp2_with (fail)
            refine (isIn_any (k : Int) _ hO9).mono ?_
            rintro e wq ⟨rfl, rfl⟩
            rw [HSM.out]
            clear hO9
            cases meetB r q with
            | _ =>
              go_wp2
              go_roundw
              case rel => exact ⟨k + 1, by go_num, by omega, hb6⟩
              case measure => simp [intOf]; omega
        · obtain rfl : k = l.length := by omega
          have HBE := Lib.hid (hb.trans (hb6.mono hb.size))
          have hlei : (sl.length : Int) ≤ l.length := by omega
          go_wp2
          go_ret
          exact ⟨by first | (simp; done) | (simp; omega), HBE.out⟩
set_option maxRecDepth 100000 in
set_option maxHeartbeats 20000000 in
theorem FnSeenBoxesAll_any {v : Value} (w : World) (hv : RdBytes w v) :
    Calls Try.prog 12 #[v] w fun e w' => e = .returned (.bool true) ∧ Ext w w' := by
  have hv2 := hv
  obtain ⟨ad, n, c, rfl, hn, hc, _⟩ := hv
  unfold maxLen at hc
  by_cases hlen : 1048576 < n
  · have hlen' : (1048576 : Int) < n := by omega
    go_enter Try.func12, Try.ntmps12
    go_wp2
    go_ret
    exact ⟨rfl, Below.refl _ _⟩
  · have hlen' : ¬ ((1048576 : Int) < n) := by omega
    go_enter Try.func12, Try.ntmps12
    go_wp2_with (fail)
    refine (DrawSeenBoxes_any _ hv2).mono ?_
    rintro e w1 ⟨v1, sw, sh, q, rfl, l, hl, ho1, hb⟩
    have hrT := ho1.rd
    clear ho1 hv2
    unfold Rc.agg
    go_upto_region 4 with fail
    have kq := Keep.new w1 (.cells #[.int .i64 q.x, .int .i64 q.y, .int .i64 q.w, .int .i64 q.h] 39)
    replace hb := hb.alloc hb.size (.cells #[.int .i64 q.x, .int .i64 q.y, .int .i64 q.w, .int .i64 q.h] 39)
    replace hrT := hrT.alloc (.cells #[.int .i64 q.x, .int .i64 q.y, .int .i64 q.w, .int .i64 q.h] 39)
    generalize w1.alloc (.cells #[.int .i64 q.x, .int .i64 q.y, .int .i64 q.w, .int .i64 q.h] 39) = W1 at *
    generalize w1.heap.size = gq at *
    have q0 := kq.cell 0
    have q1 := kq.cell 1
    have q2 := kq.cell 2
    have q3 := kq.cell 3
    go_wp2_with (fail)
    refine ((SeenBoxes_any (l := l) (q := q) sw sh _ hrT)).mono ?_
    rintro e w2 ⟨v2, rfl, ho2, hx⟩
    replace hb := after hb hx (Nat.le_refl _)
    replace hrT := hrT.below hx (Nat.le_refl _)
    replace kq := keepE kq hx
    clear hx
    have hrO := ho2.rd
    clear ho2 q0 q1 q2 q3
    have q0 := kq.cell 0
    have q1 := kq.cell 1
    have q2 := kq.cell 2
    have q3 := kq.cell 3
    go_wp2_with (fail)
    refine ((sSeenBoxes_any (l := l) (q := q) sw sh _ hrT (by omega))).mono ?_
    rintro e w3 ⟨v3, rfl, ho3, hx⟩
    replace hb := after hb hx (Nat.le_refl _)
    replace hrT := hrT.below hx (Nat.le_refl _)
    replace hrO := hrO.below hx (Nat.le_refl _)
    replace kq := keepE kq hx
    clear hx
    have hrW := ho3.rd
    clear ho3 q0 q1 q2 q3
    go_wp2_with (fail)
    refine ((equalInts_any _ hrO hrW)).mono ?_
    rintro e w4 ⟨rfl, hx⟩
    replace hb := after hb hx (Nat.le_refl _)
    replace hrT := hrT.below hx (Nat.le_refl _)
    replace hrO := hrO.below hx (Nat.le_refl _)
    replace kq := keepE kq hx
    clear hx
    rw [show decide (seenL l sw sh q = seenL l sw sh q) = true by simp]
    clear hrW
    clear hrO
    cases hok : scrB l sw sh with
    | false =>
      have HO := Lib.hid (rectsOr_f hok)
      clear hok
      go_wp2_with (fail)
      refine ((LayoutTree_any (l := l) sw sh _ hrT)).mono ?_
      rintro e w5 ⟨v5, rfl, ho5, hx⟩
      replace hb := after hb hx (Nat.le_refl _)
      clear hx
      have hrL := ho5.rd
      rw [HO.out] at hrL
      obtain ⟨aO, cO, rfl, hnO, hcO, _⟩ := hrL.rects
      rw [List.length_nil] at hrL ⊢
      clear ho5 hrL
      go_wp2
      go_loopw [9] (fun n wr => n = .int .i64 0 ∧ Below w5.heap.size w5 wr) (fun _ _ => 0)
      case atStart => exact ⟨rfl, Below.refl _ _⟩
      case round =>
        obtain ⟨rfl, hb6⟩ := hrel
        have HBE := Lib.hid (hb.trans (hb6.mono hb.size))
        go_wp2
        go_ret
        exact ⟨rfl, HBE.out⟩
    | true =>
      obtain ⟨hval, hsw2, hsh2⟩ := scrB_iff.1 hok
      have hlo := hval.lo
      have HR := Lib.hid (fun k (hk : k < l.length) => rect_ok hval hsw2 hsh2 hk)
      have HOK := Lib.hid hok
      have HSE := Lib.hid (fun k (hk : k < l.length) (h1 : 0 < (rect l sw sh k).w) (h2 : 0 < (rect l sw sh k).h) => show decide ((k : Int) ∈ seenL l sw sh (rect l sw sh k)) = true by
        rw [seenL_mem hok (vrB_iff.2 (rect_ok hval hsw2 hsh2 hk).vr) hk]
        exact meet_self h1 h2)
      clear hok hval hsw2 hsh2 kq
      go_wp2_with (fail)
      refine ((LayoutTree_any (l := l) sw sh _ hrT)).mono ?_
      rintro e w5 ⟨v5, rfl, ho5, hx⟩
      replace hb := after hb hx (Nat.le_refl _)
      replace hrT := hrT.below hx (Nat.le_refl _)
      clear hx
      have hrL := ho5.rd
      rw [rectsOr_t HOK.out] at hrL
      obtain ⟨bO, oO, cO, rfl, hnO, hcO, hR⟩ := rectS hrL hlo
      clear ho5 hrL
      have HRR := Lib.hid hR
      have HTT := Lib.hid hrT
      clear hR hrT
      go_wp2
      go_loopw [9] (fun n wr => ∃ k : Nat, n = .int .i64 (k : Int) ∧ k ≤ l.length ∧ Below w5.heap.size w5 wr) (fun n _ => l.length - (intOf n).toNat)
      case atStart => exact ⟨0, by go_num, Nat.zero_le _, Below.refl _ _⟩
      case round =>
        obtain ⟨k, rfl, hk, hb6⟩ := hrel
        by_cases hlt : k < l.length
        · have hki : (k : Int) < l.length := by omega
          obtain ⟨c0, c1, c2, c3⟩ := (HRR.out.below hb6 (Nat.le_refl _)).cs k hlt
          have hT := HTT.out.below hb6 (Nat.le_refl _)
          have HSM := Lib.hid (HSE.out k hlt)
          obtain ⟨r, hr⟩ : ∃ r, rect l sw sh k = r := ⟨_, rfl⟩
          rw [hr] at c0 c1 c2 c3 HSM
          clear hr
          by_cases h1 : 0 < r.w
          · by_cases h2 : 0 < r.h
            · have HM := Lib.hid (HSM.out h1 h2)
              go_wp2_with (fail)
              refine (SeenBoxes_any (l := l) (q := r) sw sh _ hT).mono ?_
              rintro e w7 ⟨v7, rfl, ho7, hx⟩
              replace hb6 := after hb6 hx (Nat.le_refl _)
              have hr7 := ho7.rd
              clear ho7 hx hT c0 c1 c2 c3
              go_wp2_with (fail)
              refine (isIn_any (k : Int) _ hr7).mono ?_
              rintro e wq ⟨rfl, rfl⟩
              rw [HM.out]
              clear hr7
              go_wp2
              go_roundw
              case rel => exact ⟨k + 1, by go_num, by omega, hb6⟩
              case measure => simp [intOf]; omega
            · clear hT
              go_wp2
              go_roundw
              case rel => exact ⟨k + 1, by go_num, by omega, hb6⟩
              case measure => simp [intOf]; omega
          · clear hT
            go_wp2
            go_roundw
            case rel => exact ⟨k + 1, by go_num, by omega, hb6⟩
            case measure => simp [intOf]; omega
        · obtain rfl : k = l.length := by omega
          have HBE := Lib.hid (hb.trans (hb6.mono hb.size))
          go_wp2
          go_ret
          exact ⟨rfl, HBE.out⟩
end Go.Proofs.Ytbkhbmcoococmaa
