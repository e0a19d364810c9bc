/-
  The law FnRectOf: the walk.
-/
import Derived.Test.YtkbgmfapcekakaaRof
import Derived.Test.YtkbgmfapcekakaaTre
import Derived.Test.YtkbgmfapcekakaaAg
import Derived.Test.YtkbgmfapcekakaaLStyA
namespace Go.Proofs.Ytkbgmfapcekakaa
open Go Go.RowKit

theorem ro_len {l : List Bx} {sw sh i : Int} : roB l sw sh i = true ↔ 0 ≤ i ∧ i < ((rectsOr l sw sh).length : Int) := by
  unfold roB
  cases hok : scrB l sw sh with
  | false =>
    rw [rectsOr_f hok, List.length_nil]
    simp
  | true =>
    rw [rectsOr_t hok, rectL_length, Bool.true_and, inR_iff]
    omega
set_option maxRecDepth 100000 in
set_option maxHeartbeats 8000000 in
theorem FnRectOf_any {v : Value} (w : World) (hv : RdBytes w v) :
    Calls Try.prog 7 #[v] w fun e w' => e = .returned (.bool true) ∧ Ext w w' := by
  have hv2 := hv
  obtain ⟨ad, n, c, rfl, hn, hc, _⟩ := hv
  unfold maxLen at hc
  by_cases hlen : 1048576 < n
  · have hlen' : (1048576 : Int) < n := by omega
    go_enter Try.func7, Try.ntmps7
    go_wp2
    go_ret
    exact ⟨rfl, Below.refl _ _⟩
  · have hlen' : ¬ ((1048576 : Int) < n) := by omega
    go_enter Try.func7, Try.ntmps7
    go_wp2_with (fail)
    refine (DrawRectOf_any _ hv2).mono ?_
    rintro e w1 ⟨v1, sw, sh, i, rfl, l, hl, hsw, hsh, hi, ho1, hb⟩
    have hrT := ho1.rd
    clear ho1 hv2
    have HLN := Lib.hid (ro_len (l := l) (sw := sw) (sh := sh) (i := i))
    have HRE := Lib.hid (fun h => roR_t (l := l) (sw := sw) (sh := sh) (i := i) h)
    go_wp2_with (fail)
    refine (RectOf_any (l := l) sw sh i _ hrT).mono ?_
    rintro e w2 ⟨rfl, hx⟩
    replace hb := after hb hx (Nat.le_refl _)
    replace hrT := hrT.below hx (Nat.le_refl _)
    clear hx
    have HS := Lib.hid (fun W (h : Rd W 9 v1 (Bs l)) => sRectOf_any (l := l) sw sh i W h (by omega))
    generalize roR l sw sh i = r at *
    cases hrb : roB l sw sh i with
    | false =>
      rw [hrb] at HS HLN
      unfold Rc.agg
      go_upto_region 5 with fail
      have kA := Keep.new w2 (.cells #[.int .i64 r.x, .int .i64 r.y, .int .i64 r.w, .int .i64 r.h] 35)
      replace hb := hb.alloc hb.size (.cells #[.int .i64 r.x, .int .i64 r.y, .int .i64 r.w, .int .i64 r.h] 35)
      replace hrT := hrT.alloc (.cells #[.int .i64 r.x, .int .i64 r.y, .int .i64 r.w, .int .i64 r.h] 35)
      generalize w2.alloc (.cells #[.int .i64 r.x, .int .i64 r.y, .int .i64 r.w, .int .i64 r.h] 35) = W1 at *
      generalize w2.heap.size = gA at *
      go_wp2_with (fail)
      refine (HS.out _ hrT).mono ?_
      rintro e w2 ⟨rfl, hx⟩
      unfold Rc.agg
      replace hb := after hb hx (Nat.le_refl _)
      replace hrT := hrT.below hx (Nat.le_refl _)
      replace kA := keepE kA hx
      clear hx HS
      go_upto_region 6 with fail
      have kB := Keep.new w2 (.cells #[.int .i64 r.x, .int .i64 r.y, .int .i64 r.w, .int .i64 r.h] 35)
      replace kA := kA.alloc (.cells #[.int .i64 r.x, .int .i64 r.y, .int .i64 r.w, .int .i64 r.h] 35)
      replace hb := hb.alloc hb.size (.cells #[.int .i64 r.x, .int .i64 r.y, .int .i64 r.w, .int .i64 r.h] 35)
      replace hrT := hrT.alloc (.cells #[.int .i64 r.x, .int .i64 r.y, .int .i64 r.w, .int .i64 r.h] 35)
      generalize w2.alloc (.cells #[.int .i64 r.x, .int .i64 r.y, .int .i64 r.w, .int .i64 r.h] 35) = W2 at *
      generalize w2.heap.size = gB at *
      have a0 : W2.cell? ⟨gA, 0, none⟩ = some (.int .i64 r.x) := kA.cell 0
      have a1 : W2.cell? ⟨gA, 1, none⟩ = some (.int .i64 r.y) := kA.cell 1
      have a2 : W2.cell? ⟨gA, 2, none⟩ = some (.int .i64 r.w) := kA.cell 2
      have a3 : W2.cell? ⟨gA, 3, none⟩ = some (.int .i64 r.h) := kA.cell 3
      have b0 : W2.cell? ⟨gB, 0, none⟩ = some (.int .i64 r.x) := kB.cell 0
      have b1 : W2.cell? ⟨gB, 1, none⟩ = some (.int .i64 r.y) := kB.cell 1
      have b2 : W2.cell? ⟨gB, 2, none⟩ = some (.int .i64 r.w) := kB.cell 2
      have b3 : W2.cell? ⟨gB, 3, none⟩ = some (.int .i64 r.h) := kB.cell 3
      clear kB
      go_wp2_with (fail)
      refine (LayoutTree_any (l := l) sw sh _ hrT).mono ?_
      rintro e w3 ⟨v3, rfl, ho3, hx⟩
      replace hb := after hb hx (Nat.le_refl _)
      replace kA := keepE kA hx
      have hrL := ho3.rd
      clear hx ho3 a0 a1 a2 a3 b0 b1 b2 b3 hrT
      have hno : ¬ (0 ≤ i ∧ i < ((rectsOr l sw sh).length : Int)) := fun h => by
       have := HLN.out.2 h
       cases this
      obtain ⟨aL, cL, rfl, hnL, hcL, HXX⟩ := hrL.rects
      generalize (rectsOr l sw sh).length = n at *
      clear HXX hrL HRE HLN hrb kA
      unfold maxLen at hcL
      by_cases h0 : 0 ≤ i
      · have h1 : ¬ i < (n : Int) := fun h => hno ⟨h0, h⟩
        have hd0 : decide (0 ≤ i) = true := decide_eq_true h0
        have hd1 : decide (i < (n : Int)) = false := decide_eq_false h1
        clear hno
        go_upto_region 9 with fail
        refine wp_region_held_drew (S := fun w' => Below w3.heap.size w3 w') (by kernel_rfl) (Below.refl _ _).drew (fun hS => ?_)
        change wpAnyH _ _ _ _ _ _ _ _ w3.drew
        generalize w3.drew = we at *
        refine hTake (by kernel_rfl) (fun d _ _ _ _ h => by cases d <;> exact h) hS 0 (some 50) _ rfl (v := ?_) (by kernel_rfl) ?_ ?_
        rotate_left
        · intro _ _; go_simp; first | done | with_reducible rfl
        simp only [Act.put, List.setIfInBounds_toArray, List.set_cons_zero, List.set_cons_succ]
        refine hTake (by kernel_rfl) (fun d _ _ _ _ h => by cases d <;> exact h) hS 1 (some 51) _ rfl (v := ?_) (by kernel_rfl) ?_ ?_
        rotate_left
        · intro _ _; go_simp; first | done | with_reducible rfl
        simp only [Act.put, List.setIfInBounds_toArray, List.set_cons_zero, List.set_cons_succ]
        refine hTake (by kernel_rfl) (fun d _ _ _ _ h => by cases d <;> exact h) hS 2 (some 52) _ rfl (v := ?_) (by kernel_rfl) ?_ ?_
        rotate_left
        · intro _ _; go_simp; first | done | with_reducible rfl
        simp only [Act.put, List.setIfInBounds_toArray, List.set_cons_zero, List.set_cons_succ]
        refine hTake (by kernel_rfl) (fun d _ _ _ _ h => by cases d <;> exact h) hS 3 (some 53) _ rfl (v := ?_) (by kernel_rfl) ?_ ?_
        rotate_left
        · intro _ _; go_simp; first | done | with_reducible rfl
        simp only [Act.put, List.setIfInBounds_toArray, List.set_cons_zero, List.set_cons_succ]
        refine hTake (by kernel_rfl) (fun d _ _ _ _ h => by cases d <;> exact h) hS 4 (some 54) _ rfl (v := ?_) (by kernel_rfl) ?_ ?_
        rotate_left
        · intro _ _; go_simp; first | done | with_reducible rfl
        simp only [Act.put, List.setIfInBounds_toArray, List.set_cons_zero, List.set_cons_succ]
        refine hTake (by kernel_rfl) (fun d _ _ _ _ h => by cases d <;> exact h) hS 5 (some 55) _ rfl (v := ?_) (by kernel_rfl) ?_ ?_
        rotate_left
        · intro _ _; go_simp; first | done | with_reducible rfl
        simp only [Act.put, List.setIfInBounds_toArray, List.set_cons_zero, List.set_cons_succ]
        refine hTake (by kernel_rfl) (fun d _ _ _ _ h => by cases d <;> exact h) hS 6 (some 56) _ rfl (v := ?_) (by kernel_rfl) ?_ ?_
        rotate_left
        · intro _ _; go_simp; first | done | with_reducible rfl
        simp only [Act.put, List.setIfInBounds_toArray, List.set_cons_zero, List.set_cons_succ]
        refine hTake (by kernel_rfl) (fun d _ _ _ _ h => by cases d <;> exact h) hS 7 (some 57) _ rfl (v := ?_) (by kernel_rfl) ?_ ?_
        rotate_left
        · intro _ _; go_simp; first | done | with_reducible rfl
        simp only [Act.put, List.setIfInBounds_toArray, List.set_cons_zero, List.set_cons_succ]
        refine hTake (by kernel_rfl) (fun d _ _ _ _ h => by cases d <;> exact h) hS 8 (some 58) _ rfl (v := ?_) (by kernel_rfl) ?_ ?_
        rotate_left
        · intro _ _; go_simp; first | done | with_reducible rfl
        simp only [Act.put, List.setIfInBounds_toArray, List.set_cons_zero, List.set_cons_succ]
        refine hTake (by kernel_rfl) (fun d _ _ _ _ h => by cases d <;> exact h) hS 9 (some 59) _ rfl (v := ?_) (by kernel_rfl) ?_ ?_
        rotate_left
        · intro _ _; go_simp; first | done | with_reducible rfl
        simp only [Act.put, List.setIfInBounds_toArray, List.set_cons_zero, List.set_cons_succ]
        refine hTake (by kernel_rfl) (fun d _ _ _ _ h => by cases d <;> exact h) hS 10 (some 60) _ rfl (v := ?_) (by kernel_rfl) ?_ ?_
        rotate_left
        · intro _ _; go_simp; first | done | with_reducible rfl
        simp only [Act.put, List.setIfInBounds_toArray, List.set_cons_zero, List.set_cons_succ]
        refine hTake (by kernel_rfl) (fun d _ _ _ _ h => by cases d <;> exact h) hS 11 (some 61) _ rfl (v := ?_) (by kernel_rfl) ?_ ?_
        rotate_left
        · intro _ _; go_simp; first | done | with_reducible rfl
        simp only [Act.put, List.setIfInBounds_toArray, List.set_cons_zero, List.set_cons_succ]
        refine hTake (by kernel_rfl) (fun d _ _ _ _ h => by cases d <;> exact h) hS 12 (some 62) _ rfl (v := ?_) (by kernel_rfl) ?_ ?_
        rotate_left
        · intro _ _; go_simp; first | done | with_reducible rfl
        simp only [Act.put, List.setIfInBounds_toArray, List.set_cons_zero, List.set_cons_succ]
        refine hTake (by kernel_rfl) (fun d _ _ _ _ h => by cases d <;> exact h) hS 13 (some 63) _ rfl (v := ?_) (by kernel_rfl) ?_ ?_
        rotate_left
        · intro _ _; go_simp; first | done | with_reducible rfl
        simp only [Act.put, List.setIfInBounds_toArray, List.set_cons_zero, List.set_cons_succ]
        refine hSkips (by kernel_rfl) (fun d _ _ _ _ h => by cases d <;> exact h) hS [14, 15, 16, 17, 18, 19] [some 64, some 65, some 66, some 67, some 68, some 69] (by kernel_rfl) ?_
        simp only [putUndef, listAll, List.foldl_cons, List.foldl_nil, Act.put, List.setIfInBounds_toArray, List.set_cons_zero, List.set_cons_succ]
        refine hTake (by kernel_rfl) (fun d _ _ _ _ h => by cases d <;> exact h) hS 20 (some 70) _ rfl (v := ?_) (by kernel_rfl) ?_ ?_
        rotate_left
        · intro _ _; go_simp; first | done | with_reducible rfl
        simp only [Act.put, List.setIfInBounds_toArray, List.set_cons_zero, List.set_cons_succ]
        refine hTake (by kernel_rfl) (fun d _ _ _ _ h => by cases d <;> exact h) hS 21 (some 71) _ rfl (v := ?_) (by kernel_rfl) ?_ ?_
        rotate_left
        · intro _ _; go_simp; first | done | with_reducible rfl
        simp only [Act.put, List.setIfInBounds_toArray, List.set_cons_zero, List.set_cons_succ]
        refine hTake (by kernel_rfl) (fun d _ _ _ _ h => by cases d <;> exact h) hS 22 (some 2) _ rfl (v := ?_) (by kernel_rfl) ?_ ?_
        rotate_left
        · intro _ _; go_simp; first | done | with_reducible rfl
        simp only [Act.put, List.setIfInBounds_toArray, List.set_cons_zero, List.set_cons_succ]
        refine wpAnyH_done (by kernel_rfl) ?_ _
        have HB6 := Lib.hid (after hb hS (Nat.le_refl _))
        clear hS hb
        go_wp2
        go_ret
        exact ⟨by first | (simp; done) | (simp; omega), HB6.out⟩
      · have hd0 : decide (0 ≤ i) = false := decide_eq_false h0
        clear hno
        go_upto_region 9 with fail
        refine wp_region_held_drew (S := fun w' => Below w3.heap.size w3 w') (by kernel_rfl) (Below.refl _ _).drew (fun hS => ?_)
        change wpAnyH _ _ _ _ _ _ _ _ w3.drew
        generalize w3.drew = we at *
        refine hTake (by kernel_rfl) (fun d _ _ _ _ h => by cases d <;> exact h) hS 0 (some 50) _ rfl (v := ?_) (by kernel_rfl) ?_ ?_
        rotate_left
        · intro _ _; go_simp; first | done | with_reducible rfl
        simp only [Act.put, List.setIfInBounds_toArray, List.set_cons_zero, List.set_cons_succ]
        refine hTake (by kernel_rfl) (fun d _ _ _ _ h => by cases d <;> exact h) hS 1 (some 51) _ rfl (v := ?_) (by kernel_rfl) ?_ ?_
        rotate_left
        · intro _ _; go_simp; first | done | with_reducible rfl
        simp only [Act.put, List.setIfInBounds_toArray, List.set_cons_zero, List.set_cons_succ]
        refine hTake (by kernel_rfl) (fun d _ _ _ _ h => by cases d <;> exact h) hS 2 (some 52) _ rfl (v := ?_) (by kernel_rfl) ?_ ?_
        rotate_left
        · intro _ _; go_simp; first | done | with_reducible rfl
        simp only [Act.put, List.setIfInBounds_toArray, List.set_cons_zero, List.set_cons_succ]
        refine hTake (by kernel_rfl) (fun d _ _ _ _ h => by cases d <;> exact h) hS 3 (some 53) _ rfl (v := ?_) (by kernel_rfl) ?_ ?_
        rotate_left
        · intro _ _; go_simp; first | done | with_reducible rfl
        simp only [Act.put, List.setIfInBounds_toArray, List.set_cons_zero, List.set_cons_succ]
        refine hSkips (by kernel_rfl) (fun d _ _ _ _ h => by cases d <;> exact h) hS [4, 5, 6, 7] [some 54, some 55, some 56, some 57] (by kernel_rfl) ?_
        simp only [putUndef, listAll, List.foldl_cons, List.foldl_nil, Act.put, List.setIfInBounds_toArray, List.set_cons_zero, List.set_cons_succ]
        refine hTake (by kernel_rfl) (fun d _ _ _ _ h => by cases d <;> exact h) hS 8 (some 58) _ rfl (v := ?_) (by kernel_rfl) ?_ ?_
        rotate_left
        · intro _ _; go_simp; first | done | with_reducible rfl
        simp only [Act.put, List.setIfInBounds_toArray, List.set_cons_zero, List.set_cons_succ]
        refine hTake (by kernel_rfl) (fun d _ _ _ _ h => by cases d <;> exact h) hS 9 (some 59) _ rfl (v := ?_) (by kernel_rfl) ?_ ?_
        rotate_left
        · intro _ _; go_simp; first | done | with_reducible rfl
        simp only [Act.put, List.setIfInBounds_toArray, List.set_cons_zero, List.set_cons_succ]
        refine hTake (by kernel_rfl) (fun d _ _ _ _ h => by cases d <;> exact h) hS 10 (some 60) _ rfl (v := ?_) (by kernel_rfl) ?_ ?_
        rotate_left
        · intro _ _; go_simp; first | done | with_reducible rfl
        simp only [Act.put, List.setIfInBounds_toArray, List.set_cons_zero, List.set_cons_succ]
        refine hTake (by kernel_rfl) (fun d _ _ _ _ h => by cases d <;> exact h) hS 11 (some 61) _ rfl (v := ?_) (by kernel_rfl) ?_ ?_
        rotate_left
        · intro _ _; go_simp; first | done | with_reducible rfl
        simp only [Act.put, List.setIfInBounds_toArray, List.set_cons_zero, List.set_cons_succ]
        refine hTake (by kernel_rfl) (fun d _ _ _ _ h => by cases d <;> exact h) hS 12 (some 62) _ rfl (v := ?_) (by kernel_rfl) ?_ ?_
        rotate_left
        · intro _ _; go_simp; first | done | with_reducible rfl
        simp only [Act.put, List.setIfInBounds_toArray, List.set_cons_zero, List.set_cons_succ]
        refine hTake (by kernel_rfl) (fun d _ _ _ _ h => by cases d <;> exact h) hS 13 (some 63) _ rfl (v := ?_) (by kernel_rfl) ?_ ?_
        rotate_left
        · intro _ _; go_simp; first | done | with_reducible rfl
        simp only [Act.put, List.setIfInBounds_toArray, List.set_cons_zero, List.set_cons_succ]
        refine hSkips (by kernel_rfl) (fun d _ _ _ _ h => by cases d <;> exact h) hS [14, 15, 16, 17, 18, 19] [some 64, some 65, some 66, some 67, some 68, some 69] (by kernel_rfl) ?_
        simp only [putUndef, listAll, List.foldl_cons, List.foldl_nil, Act.put, List.setIfInBounds_toArray, List.set_cons_zero, List.set_cons_succ]
        refine hTake (by kernel_rfl) (fun d _ _ _ _ h => by cases d <;> exact h) hS 20 (some 70) _ rfl (v := ?_) (by kernel_rfl) ?_ ?_
        rotate_left
        · intro _ _; go_simp; first | done | with_reducible rfl
        simp only [Act.put, List.setIfInBounds_toArray, List.set_cons_zero, List.set_cons_succ]
        refine hTake (by kernel_rfl) (fun d _ _ _ _ h => by cases d <;> exact h) hS 21 (some 71) _ rfl (v := ?_) (by kernel_rfl) ?_ ?_
        rotate_left
        · intro _ _; go_simp; first | done | with_reducible rfl
        simp only [Act.put, List.setIfInBounds_toArray, List.set_cons_zero, List.set_cons_succ]
        refine hTake (by kernel_rfl) (fun d _ _ _ _ h => by cases d <;> exact h) hS 22 (some 2) _ rfl (v := ?_) (by kernel_rfl) ?_ ?_
        rotate_left
        · intro _ _; go_simp; first | done | with_reducible rfl
        simp only [Act.put, List.setIfInBounds_toArray, List.set_cons_zero, List.set_cons_succ]
        refine wpAnyH_done (by kernel_rfl) ?_ _
        have HB6 := Lib.hid (after hb hS (Nat.le_refl _))
        clear hS hb
        go_wp2
        go_ret
        exact ⟨by first | (simp; done) | (simp; omega), HB6.out⟩
    | true =>
      rw [hrb] at HS HLN
      unfold Rc.agg
      go_upto_region 5 with fail
      have kA := Keep.new w2 (.cells #[.int .i64 r.x, .int .i64 r.y, .int .i64 r.w, .int .i64 r.h] 35)
      replace hb := hb.alloc hb.size (.cells #[.int .i64 r.x, .int .i64 r.y, .int .i64 r.w, .int .i64 r.h] 35)
      replace hrT := hrT.alloc (.cells #[.int .i64 r.x, .int .i64 r.y, .int .i64 r.w, .int .i64 r.h] 35)
      generalize w2.alloc (.cells #[.int .i64 r.x, .int .i64 r.y, .int .i64 r.w, .int .i64 r.h] 35) = W1 at *
      generalize w2.heap.size = gA at *
      go_wp2_with (fail)
      refine (HS.out _ hrT).mono ?_
      rintro e w2 ⟨rfl, hx⟩
      unfold Rc.agg
      replace hb := after hb hx (Nat.le_refl _)
      replace hrT := hrT.below hx (Nat.le_refl _)
      replace kA := keepE kA hx
      clear hx HS
      go_upto_region 6 with fail
      have kB := Keep.new w2 (.cells #[.int .i64 r.x, .int .i64 r.y, .int .i64 r.w, .int .i64 r.h] 35)
      replace kA := kA.alloc (.cells #[.int .i64 r.x, .int .i64 r.y, .int .i64 r.w, .int .i64 r.h] 35)
      replace hb := hb.alloc hb.size (.cells #[.int .i64 r.x, .int .i64 r.y, .int .i64 r.w, .int .i64 r.h] 35)
      replace hrT := hrT.alloc (.cells #[.int .i64 r.x, .int .i64 r.y, .int .i64 r.w, .int .i64 r.h] 35)
      generalize w2.alloc (.cells #[.int .i64 r.x, .int .i64 r.y, .int .i64 r.w, .int .i64 r.h] 35) = W2 at *
      generalize w2.heap.size = gB at *
      have a0 : W2.cell? ⟨gA, 0, none⟩ = some (.int .i64 r.x) := kA.cell 0
      have a1 : W2.cell? ⟨gA, 1, none⟩ = some (.int .i64 r.y) := kA.cell 1
      have a2 : W2.cell? ⟨gA, 2, none⟩ = some (.int .i64 r.w) := kA.cell 2
      have a3 : W2.cell? ⟨gA, 3, none⟩ = some (.int .i64 r.h) := kA.cell 3
      have b0 : W2.cell? ⟨gB, 0, none⟩ = some (.int .i64 r.x) := kB.cell 0
      have b1 : W2.cell? ⟨gB, 1, none⟩ = some (.int .i64 r.y) := kB.cell 1
      have b2 : W2.cell? ⟨gB, 2, none⟩ = some (.int .i64 r.w) := kB.cell 2
      have b3 : W2.cell? ⟨gB, 3, none⟩ = some (.int .i64 r.h) := kB.cell 3
      clear kB
      go_wp2_with (fail)
      refine (LayoutTree_any (l := l) sw sh _ hrT).mono ?_
      rintro e w3 ⟨v3, rfl, ho3, hx⟩
      replace hb := after hb hx (Nat.le_refl _)
      replace kA := keepE kA hx
      have hrL := ho3.rd
      clear hx ho3 a0 a1 a2 a3 b0 b1 b2 b3 hrT
      obtain ⟨h0, h1⟩ := HLN.out.1 (by first | rfl | trivial)
      have hok : scrB l sw sh = true := by
        unfold roB at hrb
        rw [Bool.and_eq_true] at hrb
        exact hrb.1
      obtain ⟨hval, hsw2, hsh2⟩ := scrB_iff.1 hok
      have hlo := hval.lo
      have hrr := HRE.out hrb
      rw [rectsOr_t hok] at hrL
      rw [rectsOr_t hok, rectL_length] at h1
      obtain ⟨bL, oL, cL, rfl, hnL, hcL, hR⟩ := rectS hrL hlo
      obtain ⟨k, rfl⟩ := Int.eq_ofNat_of_zero_le h0
      have hkl : k < l.length := by omega
      have hki : (k : Int) < (l.length : Int) := by omega
      have hk0 : (0 : Int) ≤ (k : Int) := by omega
      have hd0 : decide ((0 : Int) ≤ (k : Int)) = true := decide_eq_true hk0
      have hd1 : decide ((k : Int) < (l.length : Int)) = true := decide_eq_true hki
      rw [Int.toNat_natCast] at hrr
      obtain ⟨c0, c1, c2, c3⟩ := hR.cs k hkl
      rw [← hrr] at c0 c1 c2 c3
      have a0 : w3.cell? ⟨gA, 0, none⟩ = some (.int .i64 r.x) := kA.cell 0
      have a1 : w3.cell? ⟨gA, 1, none⟩ = some (.int .i64 r.y) := kA.cell 1
      have a2 : w3.cell? ⟨gA, 2, none⟩ = some (.int .i64 r.w) := kA.cell 2
      have a3 : w3.cell? ⟨gA, 3, none⟩ = some (.int .i64 r.h) := kA.cell 3
      clear hok hval hsw2 hsh2 hrr hrL hR kA HLN HRE hrb
      go_upto_region 9 with fail
      refine wp_region_held_drew (S := fun w' => Below w3.heap.size w3 w') (by kernel_rfl) (Below.refl _ _).drew (fun hS => ?_)
      change wpAnyH _ _ _ _ _ _ _ _ w3.drew
      generalize w3.drew = we at *
      refine hTake (by kernel_rfl) (fun d _ _ _ _ h => by cases d <;> exact h) hS 0 (some 50) _ rfl (v := ?_) (by kernel_rfl) ?_ ?_
      rotate_left
      · intro _ _; go_simp; first | done | with_reducible rfl
      simp only [Act.put, List.setIfInBounds_toArray, List.set_cons_zero, List.set_cons_succ]
      refine hTake (by kernel_rfl) (fun d _ _ _ _ h => by cases d <;> exact h) hS 1 (some 51) _ rfl (v := ?_) (by kernel_rfl) ?_ ?_
      rotate_left
      · intro _ _; go_simp; first | done | with_reducible rfl
      simp only [Act.put, List.setIfInBounds_toArray, List.set_cons_zero, List.set_cons_succ]
      refine hTake (by kernel_rfl) (fun d _ _ _ _ h => by cases d <;> exact h) hS 2 (some 52) _ rfl (v := ?_) (by kernel_rfl) ?_ ?_
      rotate_left
      · intro _ _; go_simp; first | done | with_reducible rfl
      simp only [Act.put, List.setIfInBounds_toArray, List.set_cons_zero, List.set_cons_succ]
      refine hTake (by kernel_rfl) (fun d _ _ _ _ h => by cases d <;> exact h) hS 3 (some 53) _ rfl (v := ?_) (by kernel_rfl) ?_ ?_
      rotate_left
      · intro _ _; go_simp; first | done | with_reducible rfl
      simp only [Act.put, List.setIfInBounds_toArray, List.set_cons_zero, List.set_cons_succ]
      refine hTake (by kernel_rfl) (fun d _ _ _ _ h => by cases d <;> exact h) hS 4 (some 54) _ rfl (v := ?_) (by kernel_rfl) ?_ ?_
      rotate_left
      · intro _ _; go_simp; first | done | with_reducible rfl
      simp only [Act.put, List.setIfInBounds_toArray, List.set_cons_zero, List.set_cons_succ]
      refine hTake (by kernel_rfl) (fun d _ _ _ _ h => by cases d <;> exact h) hS 5 (some 55) _ rfl (v := ?_) (by kernel_rfl) ?_ ?_
      rotate_left
      · intro _ _; go_simp; first | done | with_reducible rfl
      simp only [Act.put, List.setIfInBounds_toArray, List.set_cons_zero, List.set_cons_succ]
      refine hTake (by kernel_rfl) (fun d _ _ _ _ h => by cases d <;> exact h) hS 6 (some 56) _ rfl (v := ?_) (by kernel_rfl) ?_ ?_
      rotate_left
      · intro _ _; go_simp; first | done | with_reducible rfl
      simp only [Act.put, List.setIfInBounds_toArray, List.set_cons_zero, List.set_cons_succ]
      refine hTake (by kernel_rfl) (fun d _ _ _ _ h => by cases d <;> exact h) hS 7 (some 57) _ rfl (v := ?_) (by kernel_rfl) ?_ ?_
      rotate_left
      · intro _ _; go_simp; first | done | with_reducible rfl
      simp only [Act.put, List.setIfInBounds_toArray, List.set_cons_zero, List.set_cons_succ]
      refine hTake (by kernel_rfl) (fun d _ _ _ _ h => by cases d <;> exact h) hS 8 (some 58) _ rfl (v := ?_) (by kernel_rfl) ?_ ?_
      rotate_left
      · intro _ _; go_simp; first | done | with_reducible rfl
      simp only [Act.put, List.setIfInBounds_toArray, List.set_cons_zero, List.set_cons_succ]
      refine hTake (by kernel_rfl) (fun d _ _ _ _ h => by cases d <;> exact h) hS 9 (some 59) _ rfl (v := ?_) (by kernel_rfl) ?_ ?_
      rotate_left
      · intro _ _; go_simp; first | done | with_reducible rfl
      simp only [Act.put, List.setIfInBounds_toArray, List.set_cons_zero, List.set_cons_succ]
      refine hTake (by kernel_rfl) (fun d _ _ _ _ h => by cases d <;> exact h) hS 10 (some 60) _ rfl (v := ?_) (by kernel_rfl) ?_ ?_
      rotate_left
      · intro _ _; go_simp; first | done | with_reducible rfl
      simp only [Act.put, List.setIfInBounds_toArray, List.set_cons_zero, List.set_cons_succ]
      refine hTake (by kernel_rfl) (fun d _ _ _ _ h => by cases d <;> exact h) hS 11 (some 61) _ rfl (v := ?_) (by kernel_rfl) ?_ ?_
      rotate_left
      · intro _ _; go_simp; first | done | with_reducible rfl
      simp only [Act.put, List.setIfInBounds_toArray, List.set_cons_zero, List.set_cons_succ]
      refine hTake (by kernel_rfl) (fun d _ _ _ _ h => by cases d <;> exact h) hS 12 (some 62) _ rfl (v := ?_) (by kernel_rfl) ?_ ?_
      rotate_left
      · intro _ _; go_simp; first | done | with_reducible rfl
      simp only [Act.put, List.setIfInBounds_toArray, List.set_cons_zero, List.set_cons_succ]
      refine hTake (by kernel_rfl) (fun d _ _ _ _ h => by cases d <;> exact h) hS 13 (some 63) _ rfl (v := ?_) (by kernel_rfl) ?_ ?_
      rotate_left
      · intro _ _; go_simp; first | done | with_reducible rfl
      simp only [Act.put, List.setIfInBounds_toArray, List.set_cons_zero, List.set_cons_succ]
      refine hTake (by kernel_rfl) (fun d _ _ _ _ h => by cases d <;> exact h) hS 14 (some 64) _ rfl (v := ?_) (by kernel_rfl) ?_ ?_
      rotate_left
      · intro w9 hS9; have x0 := cell_below hS9 a0; have x1 := cell_below hS9 a1; have x2 := cell_below hS9 a2; have x3 := cell_below hS9 a3; go_simp; first | done | with_reducible rfl
      simp only [Act.put, List.setIfInBounds_toArray, List.set_cons_zero, List.set_cons_succ]
      refine hTake (by kernel_rfl) (fun d _ _ _ _ h => by cases d <;> exact h) hS 15 (some 65) _ rfl (v := ?_) (by kernel_rfl) ?_ ?_
      rotate_left
      · intro _ _; go_simp; first | done | with_reducible rfl
      simp only [Act.put, List.setIfInBounds_toArray, List.set_cons_zero, List.set_cons_succ]
      refine hTake (by kernel_rfl) (fun d _ _ _ _ h => by cases d <;> exact h) hS 16 (some 66) _ rfl (v := ?_) (by kernel_rfl) ?_ ?_
      rotate_left
      · intro _ _; go_simp; first | done | with_reducible rfl
      simp only [Act.put, List.setIfInBounds_toArray, List.set_cons_zero, List.set_cons_succ]
      refine hTake (by kernel_rfl) (fun d _ _ _ _ h => by cases d <;> exact h) hS 17 (some 67) _ rfl (v := ?_) (by kernel_rfl) ?_ ?_
      rotate_left
      · intro _ _; go_simp; first | done | with_reducible rfl
      simp only [Act.put, List.setIfInBounds_toArray, List.set_cons_zero, List.set_cons_succ]
      refine hTake (by kernel_rfl) (fun d _ _ _ _ h => by cases d <;> exact h) hS 18 (some 68) _ rfl (v := ?_) (by kernel_rfl) ?_ ?_
      rotate_left
      · intro w9 hS9; have x0 := cell_below hS9 c0; have x1 := cell_below hS9 c1; have x2 := cell_below hS9 c2; have x3 := cell_below hS9 c3; go_simp; first | done | with_reducible rfl
      simp only [Act.put, List.setIfInBounds_toArray, List.set_cons_zero, List.set_cons_succ]
      refine hTake (by kernel_rfl) (fun d _ _ _ _ h => by cases d <;> exact h) hS 19 (some 69) _ rfl (v := ?_) (by kernel_rfl) ?_ ?_
      rotate_left
      · intro _ _; go_simp; first | done | with_reducible rfl
      simp only [Act.put, List.setIfInBounds_toArray, List.set_cons_zero, List.set_cons_succ]
      refine hTake (by kernel_rfl) (fun d _ _ _ _ h => by cases d <;> exact h) hS 20 (some 70) _ rfl (v := ?_) (by kernel_rfl) ?_ ?_
      rotate_left
      · intro _ _; go_simp; first | done | with_reducible rfl
      simp only [Act.put, List.setIfInBounds_toArray, List.set_cons_zero, List.set_cons_succ]
      refine hTake (by kernel_rfl) (fun d _ _ _ _ h => by cases d <;> exact h) hS 21 (some 71) _ rfl (v := ?_) (by kernel_rfl) ?_ ?_
      rotate_left
      · intro _ _; go_simp; first | done | with_reducible rfl
      simp only [Act.put, List.setIfInBounds_toArray, List.set_cons_zero, List.set_cons_succ]
      refine hTake (by kernel_rfl) (fun d _ _ _ _ h => by cases d <;> exact h) hS 22 (some 2) _ rfl (v := ?_) (by kernel_rfl) ?_ ?_
      rotate_left
      · intro _ _; go_simp; first | done | with_reducible rfl
      simp only [Act.put, List.setIfInBounds_toArray, List.set_cons_zero, List.set_cons_succ]
      refine wpAnyH_done (by kernel_rfl) ?_ _
      have HB6 := Lib.hid (after hb hS (Nat.le_refl _))
      clear hS hb
      go_wp2
      go_ret
      exact ⟨by first | (simp; done) | (simp; omega), HB6.out⟩
end Go.Proofs.Ytkbgmfapcekakaa
