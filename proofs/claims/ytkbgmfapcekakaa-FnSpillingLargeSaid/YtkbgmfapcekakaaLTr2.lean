/-
  The laws over LayoutTree: FnLayoutTreeOrder.
-/
import Derived.Test.YtkbgmfapcekakaaTre
import Derived.Test.YtkbgmfapcekakaaAi
import Derived.Test.YtkbgmfapcekakaaAg
import Derived.Test.YtkbgmfapcekakaaAe
import Derived.Test.YtkbgmfapcekakaaAj
import Derived.Test.YtkbgmfapcekakaaAf
import Derived.Test.YtkbgmfapcekakaaLStyA
namespace Go.Proofs.Ytkbgmfapcekakaa
open Go Go.RowKit

theorem kids_valid {l : List Bx} (hv : Valid l) {p : Nat} (hp : p < l.length) : kidsL l (p : Int) = kid l (p : Int) := by
  unfold kidsL
  rw [if_pos (inB_iff.2 ⟨hv, by omega, by omega⟩)]
set_option maxRecDepth 100000 in
set_option maxHeartbeats 8000000 in
theorem FnLayoutTreeOrder_any {v : Value} (w : World) (hv : RdBytes w v) :
    Calls Try.prog 6 #[v] w fun e w' => e = .returned (.bool true) ∧ Ext w w' := by
  have hv2 := hv
  obtain ⟨ad, n, c, rfl, hn, hc, _⟩ := hv
  unfold maxLen at hc
  by_cases hlen : 1048576 < n
  · have hlen' : (1048576 : Int) < n := by omega
    go_enter Try.func6, Try.ntmps6
    go_wp2
    go_ret
    exact ⟨rfl, Below.refl _ _⟩
  · have hlen' : ¬ ((1048576 : Int) < n) := by omega
    go_enter Try.func6, Try.ntmps6
    go_wp2_with (fail)
    refine (DrawLayoutTree_any _ hv2).mono ?_
    rintro e w1 ⟨v1, sw, sh, rfl, l, hl, hsw, hsh, ho1, hb⟩
    have hrT := ho1.rd
    clear ho1 hv2
    go_wp2_with (fail)
    refine ((LayoutTree_any (l := l) sw sh _ hrT)).mono ?_
    rintro e w2 ⟨v2, rfl, ho2, hx⟩
    replace hb := after hb hx (Nat.le_refl _)
    replace hrT := hrT.below hx (Nat.le_refl _)
    clear hx
    have hrO := ho2.rd
    clear ho2
    go_wp2_with (fail)
    refine ((sLayoutTree_any (l := l) sw sh _ hrT (by omega))).mono ?_
    rintro e w3 ⟨v3, rfl, ho3, hx⟩
    replace hb := after hb hx (Nat.le_refl _)
    replace hrT := hrT.below hx (Nat.le_refl _)
    replace hrO := hrO.below hx (Nat.le_refl _)
    clear hx
    have hrW := ho3.rd
    clear ho3
    cases hok : scrB l sw sh with
    | false =>
      have HO := Lib.hid (rectsOr_f hok)
      rw [HO.out] at hrO hrW
      clear hok
      go_wp2_with (fail)
      refine ((equalRects_any (l := []) _ hrO hrW)).mono ?_
      rintro e w4 ⟨rfl, hx⟩
      replace hb := after hb hx (Nat.le_refl _)
      replace hrT := hrT.below hx (Nat.le_refl _)
      replace hrO := hrO.below hx (Nat.le_refl _)
      clear hx
      clear hrW
      obtain ⟨aO, cO, rfl, hnO, hcO, _⟩ := hrO.rects
      rw [List.length_nil] at hrO
      go_wp2_with (fail)
      refine ((sLayoutTree_any (l := l) sw sh _ hrT (by omega))).mono ?_
      rintro e w5 ⟨v5, rfl, ho5, hx⟩
      replace hb := after hb hx (Nat.le_refl _)
      replace hrT := hrT.below hx (Nat.le_refl _)
      replace hrO := hrO.below hx (Nat.le_refl _)
      clear hx
      have hrW := ho5.rd
      rw [HO.out] at hrW
      clear ho5
      go_wp2_with (fail)
      refine ((equalRects_any (l := []) _ hrO hrW)).mono ?_
      rintro e w6 ⟨rfl, hx⟩
      replace hb := after hb hx (Nat.le_refl _)
      clear hx
      go_wp2
      go_ret
      exact ⟨rfl, hb⟩
    | true =>
      have HO := Lib.hid (rectsOr_t hok)
      rw [HO.out] at hrO hrW
      obtain ⟨hval, hsw2, hsh2⟩ := scrB_iff.1 hok
      clear hok hsw hsh
      go_wp2_with (fail)
      refine ((equalRects_any (l := rectL l sw sh) _ hrO hrW)).mono ?_
      rintro e w4 ⟨rfl, hx⟩
      replace hb := after hb hx (Nat.le_refl _)
      replace hrT := hrT.below hx (Nat.le_refl _)
      replace hrO := hrO.below hx (Nat.le_refl _)
      clear hx
      clear hrW
      have HV := Lib.hid hval
      have hlo := hval.lo
      have hz : ((l.length : Int) == 0) = false := beq_eq_false_iff_ne.2 (by omega)
      have HR := Lib.hid (fun k (hk : k < l.length) => rect_ok hval hsw2 hsh2 hk)
      obtain ⟨bO, oO, cO, rfl, hnO, hcO, hR⟩ := rectS hrO hlo
      have HRD := Lib.hid hrO
      obtain ⟨bT, oT, cT, rfl, hnT, hcT⟩ := rd_addr hlo hrT
      clear hval hrO
      have HRT := Lib.hid hrT
      clear hrT
      go_wp2
      go_loopw [7] (fun n wr => ∃ p : Nat, n = .int .i64 p ∧ p ≤ l.length ∧ Hid (Rd wr 9 (.slice (some ⟨bT, oT, none⟩) l.length cT) (Bs l)) ∧ RC l sw sh bO oO wr ∧ Below w.heap.size w wr) (fun n _ => l.length - (intOf n).toNat)
      case atStart => exact ⟨0, rfl, Nat.zero_le _, HRT.out, hR, hb⟩
      case round =>
        clear HRT hR hb
        obtain ⟨p, rfl, hp, hrT, hR, hb⟩ := hrel
        by_cases hlt : p < l.length
        · have hlti : (p : Int) < l.length := by omega
          have hp0 : (0 : Int) ≤ (p : Int) := by omega
          replace hrT := hrT.out
          go_wp2_with (fail)
          refine ((KidsOf_any (l := l) (p : Int) _ hrT)).mono ?_
          rintro e w6 ⟨v6, rfl, ho6, hx⟩
          replace hb := after hb hx (Nat.le_refl _)
          replace hrT := hrT.below hx (Nat.le_refl _)
          replace hR := hR.below hx (Nat.le_refl _)
          clear hx
          rw [kids_valid HV.out hlt] at ho6
          have hrK := ho6.rd
          clear ho6
          have hkn := (HV.out.kids p hlt).1
          have hbd := okB_bounds (HV.out.ok p hlt)
          have HORD := Lib.hid (fun j a b ha hb => rect_order (l := l) (w := sw) (h := sh) (p := p) HV.out (j := j) (a := a) (b := b) ha hb)
          have HKL := Lib.hid (fun j a (h : (kid l (p : Int))[j]? = some a) => (mem_kid_iff.1 (List.mem_of_getElem? h)).1)
          generalize kid l (p : Int) = K at *
          obtain ⟨aK, cK, rfl, hnK, hcK, _⟩ := hrK.ints
          rw [ni_length] at hnK hrK ⊢
          unfold maxLen at hcK
          have HTT := Lib.hid hrT
          have HKK := Lib.hid hrK
          have HRR := Lib.hid hR
          obtain ⟨_, ck, _, _, _, cg, _, _, _⟩ := cells_at hlt hrT
          have hbT := World.block_lt_of_cell? _ _ ck
          clear hrT hrK hR
          go_wp2
          go_loopw [9] (fun n wr => ∃ j : Nat, n = .int .i64 ((j : Int) + 1) ∧ j ≤ K.length ∧ Below w6.heap.size w6 wr) (fun n _ => K.length + 1 - (intOf n).toNat)
          case atStart => exact ⟨0, by go_num, Nat.zero_le _, Below.refl _ _⟩
          case round =>
            obtain ⟨j, rfl, hj, hb6⟩ := hrel
            by_cases hlt2 : j + 1 < K.length
            · have hji : (j : Int) + 1 < K.length := by omega
              have hjw : IntKind.i64.wrap ((j : Int) + 1 - 1) = (j : Int) := by rw [IntKind.wrap_i64]; omega
              have hja := List.getElem?_eq_getElem (show j < K.length by omega)
              have hjb := List.getElem?_eq_getElem hlt2
              have hO := HORD.out j _ _ hja hjb
              have hal := HKL.out _ _ hja
              have hbl := HKL.out _ _ hjb
              obtain ⟨bK, oK, rfl, ca⟩ := HKK.out.intAt (ni_get hja)
              obtain ⟨_, _, e, cb⟩ := HKK.out.intAt (ni_get hjb)
              cases e
              have hbK := World.block_lt_of_cell? _ _ ca
              replace ca := cell_below hb6 ca
              replace cb := cell_below hb6 cb
              obtain ⟨a0, a1, a2, a3⟩ := (HRR.out.below hb6 (Nat.le_refl _)).cs _ hal
              obtain ⟨b0, b1, b2, b3⟩ := (HRR.out.below hb6 (Nat.le_refl _)).cs _ hbl
              have ra := HR.out _ hal
              have rb := HR.out _ hbl
              have hali : ((K[j] : Nat) : Int) < l.length := by omega
              have hbli : ((K[j + 1] : Nat) : Int) < l.length := by omega
              generalize K[j] = a at *
              generalize K[j + 1] = b at *
              generalize rect l sw sh a = r at *
              generalize rect l sw sh b = s at *
              obtain ⟨r1, r2, r3, r4, r5, r6, r7, r8⟩ := ra
              obtain ⟨s1, s2, s3, s4, s5, s6, s7, s8⟩ := rb
              have ck6 := cell_below hb6 ck
              have cg6 := cell_below hb6 cg
              have HO := Lib.hid hO
              clear hja hjb hO
              go_upto_region 15 with fail
              have x1 := Below.of_alloc wr (.cells #[.int .i64 r.x, .int .i64 r.y, .int .i64 r.w, .int .i64 r.h] 35)
              have kA := Keep.new wr (.cells #[.int .i64 r.x, .int .i64 r.y, .int .i64 r.w, .int .i64 r.h] 35)
              replace hb6 := after hb6 x1 (Nat.le_refl _)
              replace ck6 := cell_below x1 ck6
              replace cg6 := cell_below x1 cg6
              replace cb := cell_below x1 cb
              replace b0 := cell_below x1 b0
              replace b1 := cell_below x1 b1
              replace b2 := cell_below x1 b2
              replace b3 := cell_below x1 b3
              clear a0 a1 a2 a3 ca x1
              generalize wr.alloc (.cells #[.int .i64 r.x, .int .i64 r.y, .int .i64 r.w, .int .i64 r.h] 35) = W1 at *
              generalize wr.heap.size = gA at *
              go_upto_region 16 with fail
              have x1 := Below.of_alloc W1 (.cells #[.int .i64 s.x, .int .i64 s.y, .int .i64 s.w, .int .i64 s.h] 35)
              have kB := Keep.new W1 (.cells #[.int .i64 s.x, .int .i64 s.y, .int .i64 s.w, .int .i64 s.h] 35)
              replace hb6 := after hb6 x1 (Nat.le_refl _)
              replace ck6 := cell_below x1 ck6
              replace cg6 := cell_below x1 cg6
              replace kA := kA.alloc (.cells #[.int .i64 s.x, .int .i64 s.y, .int .i64 s.w, .int .i64 s.h] 35)
              clear b0 b1 b2 b3 cb x1
              generalize W1.alloc (.cells #[.int .i64 s.x, .int .i64 s.y, .int .i64 s.w, .int .i64 s.h] 35) = W2 at *
              generalize W1.heap.size = gB at *
              have p0 : W2.cell? ⟨gA, 0, none⟩ = some (.int .i64 r.x) := kA.cell 0
              have p1 : W2.cell? ⟨gA, 1, none⟩ = some (.int .i64 r.y) := kA.cell 1
              have p2 : W2.cell? ⟨gA, 2, none⟩ = some (.int .i64 r.w) := kA.cell 2
              have p3 : W2.cell? ⟨gA, 3, none⟩ = some (.int .i64 r.h) := kA.cell 3
              have q0 : W2.cell? ⟨gB, 0, none⟩ = some (.int .i64 s.x) := kB.cell 0
              have q1 : W2.cell? ⟨gB, 1, none⟩ = some (.int .i64 s.y) := kB.cell 1
              clear kA kB
              by_cases hk2 : (bx l p).kind = 2
              · have e2 : ((bx l p).kind == 2) = true := by rw [hk2]; rfl
                have e3 : ((bx l p).kind != 2) = false := by rw [hk2]; rfl
                have hle : ¬ (s.x < r.x + r.w + (bx l p).gap) := by have := HO.out.1 hk2; omega
                have hw1 : IntKind.i64.wrap (r.x + r.w) = r.x + r.w := by rw [IntKind.wrap_i64]; omega
                have hw2 : IntKind.i64.wrap (r.x + r.w + (bx l p).gap) = r.x + r.w + (bx l p).gap := by rw [IntKind.wrap_i64]; omega
                clear hk2
                refine wp_region_held_drew (S := fun w' => Below W2.heap.size W2 w') (by kernel_rfl) (Below.refl _ _).drew (fun hS => ?_)
                change wpAnyH _ _ _ _ _ _ _ _ W2.drew
                generalize W2.drew = wd at *
                refine hTake (by kernel_rfl) (fun d _ _ _ _ h => by cases d <;> exact h) hS 0 (some 73) _ rfl (v := ?_) (by kernel_rfl) ?_ ?_
                rotate_left
                · intro _ _; go_simp; first | done | with_reducible rfl
                simp only [Act.put, List.setIfInBounds_toArray, List.set_cons_zero, List.set_cons_succ]
                refine hTake (by kernel_rfl) (fun d _ _ _ _ h => by cases d <;> exact h) hS 1 (some 74) _ rfl (v := ?_) (by kernel_rfl) ?_ ?_
                rotate_left
                · intro _ _; go_simp; first | done | with_reducible rfl
                simp only [Act.put, List.setIfInBounds_toArray, List.set_cons_zero, List.set_cons_succ]
                refine hTake (by kernel_rfl) (fun d _ _ _ _ h => by cases d <;> exact h) hS 2 (some 75) _ rfl (v := ?_) (by kernel_rfl) ?_ ?_
                rotate_left
                · intro _ _; go_simp; first | done | with_reducible rfl
                simp only [Act.put, List.setIfInBounds_toArray, List.set_cons_zero, List.set_cons_succ]
                refine hTake (by kernel_rfl) (fun d _ _ _ _ h => by cases d <;> exact h) hS 3 (some 76) _ rfl (v := ?_) (by kernel_rfl) ?_ ?_
                rotate_left
                · intro _ _; go_simp; first | done | with_reducible rfl
                simp only [Act.put, List.setIfInBounds_toArray, List.set_cons_zero, List.set_cons_succ]
                refine hTake (by kernel_rfl) (fun d _ _ _ _ h => by cases d <;> exact h) hS 4 (some 77) _ rfl (v := ?_) (by kernel_rfl) ?_ ?_
                rotate_left
                · intro w9 hS9; have q := cell_below hS9 ck6; go_simp; first | done | with_reducible rfl
                simp only [Act.put, List.setIfInBounds_toArray, List.set_cons_zero, List.set_cons_succ]
                refine hTake (by kernel_rfl) (fun d _ _ _ _ h => by cases d <;> exact h) hS 5 (some 78) _ rfl (v := ?_) (by kernel_rfl) ?_ ?_
                rotate_left
                · intro _ _; go_simp; first | done | with_reducible rfl
                simp only [Act.put, List.setIfInBounds_toArray, List.set_cons_zero, List.set_cons_succ]
                refine hTake (by kernel_rfl) (fun d _ _ _ _ h => by cases d <;> exact h) hS 6 (some 79) _ rfl (v := ?_) (by kernel_rfl) ?_ ?_
                rotate_left
                · intro _ _; go_simp; first | done | with_reducible rfl
                simp only [Act.put, List.setIfInBounds_toArray, List.set_cons_zero, List.set_cons_succ]
                refine hTake (by kernel_rfl) (fun d _ _ _ _ h => by cases d <;> exact h) hS 7 (some 80) _ rfl (v := ?_) (by kernel_rfl) ?_ ?_
                rotate_left
                · intro _ _; go_simp; first | done | with_reducible rfl
                simp only [Act.put, List.setIfInBounds_toArray, List.set_cons_zero, List.set_cons_succ]
                refine hTake (by kernel_rfl) (fun d _ _ _ _ h => by cases d <;> exact h) hS 8 (some 81) _ rfl (v := ?_) (by kernel_rfl) ?_ ?_
                rotate_left
                · intro w9 hS9; have q := cell_below hS9 q0; go_simp; first | done | with_reducible rfl
                simp only [Act.put, List.setIfInBounds_toArray, List.set_cons_zero, List.set_cons_succ]
                refine hTake (by kernel_rfl) (fun d _ _ _ _ h => by cases d <;> exact h) hS 9 (some 82) _ rfl (v := ?_) (by kernel_rfl) ?_ ?_
                rotate_left
                · intro _ _; go_simp; first | done | with_reducible rfl
                simp only [Act.put, List.setIfInBounds_toArray, List.set_cons_zero, List.set_cons_succ]
                refine hTake (by kernel_rfl) (fun d _ _ _ _ h => by cases d <;> exact h) hS 10 (some 83) _ rfl (v := ?_) (by kernel_rfl) ?_ ?_
                rotate_left
                · intro w9 hS9; have q := cell_below hS9 p0; go_simp; first | done | with_reducible rfl
                simp only [Act.put, List.setIfInBounds_toArray, List.set_cons_zero, List.set_cons_succ]
                refine hTake (by kernel_rfl) (fun d _ _ _ _ h => by cases d <;> exact h) hS 11 (some 84) _ rfl (v := ?_) (by kernel_rfl) ?_ ?_
                rotate_left
                · intro _ _; go_simp; first | done | with_reducible rfl
                simp only [Act.put, List.setIfInBounds_toArray, List.set_cons_zero, List.set_cons_succ]
                refine hTake (by kernel_rfl) (fun d _ _ _ _ h => by cases d <;> exact h) hS 12 (some 85) _ rfl (v := ?_) (by kernel_rfl) ?_ ?_
                rotate_left
                · intro w9 hS9; have q := cell_below hS9 p2; go_simp; first | done | with_reducible rfl
                simp only [Act.put, List.setIfInBounds_toArray, List.set_cons_zero, List.set_cons_succ]
                refine hTake (by kernel_rfl) (fun d _ _ _ _ h => by cases d <;> exact h) hS 13 (some 86) _ rfl (v := ?_) (by kernel_rfl) ?_ ?_
                rotate_left
                · intro _ _; go_simp; first | done | with_reducible rfl
                simp only [Act.put, List.setIfInBounds_toArray, List.set_cons_zero, List.set_cons_succ]
                refine hTake (by kernel_rfl) (fun d _ _ _ _ h => by cases d <;> exact h) hS 14 (some 87) _ rfl (v := ?_) (by kernel_rfl) ?_ ?_
                rotate_left
                · intro _ _; go_simp; first | done | with_reducible rfl
                simp only [Act.put, List.setIfInBounds_toArray, List.set_cons_zero, List.set_cons_succ]
                refine hTake (by kernel_rfl) (fun d _ _ _ _ h => by cases d <;> exact h) hS 15 (some 88) _ rfl (v := ?_) (by kernel_rfl) ?_ ?_
                rotate_left
                · intro _ _; go_simp; first | done | with_reducible rfl
                simp only [Act.put, List.setIfInBounds_toArray, List.set_cons_zero, List.set_cons_succ]
                refine hTake (by kernel_rfl) (fun d _ _ _ _ h => by cases d <;> exact h) hS 16 (some 89) _ rfl (v := ?_) (by kernel_rfl) ?_ ?_
                rotate_left
                · intro _ _; go_simp; first | done | with_reducible rfl
                simp only [Act.put, List.setIfInBounds_toArray, List.set_cons_zero, List.set_cons_succ]
                refine hTake (by kernel_rfl) (fun d _ _ _ _ h => by cases d <;> exact h) hS 17 (some 90) _ rfl (v := ?_) (by kernel_rfl) ?_ ?_
                rotate_left
                · intro _ _; go_simp; first | done | with_reducible rfl
                simp only [Act.put, List.setIfInBounds_toArray, List.set_cons_zero, List.set_cons_succ]
                refine hTake (by kernel_rfl) (fun d _ _ _ _ h => by cases d <;> exact h) hS 18 (some 91) _ rfl (v := ?_) (by kernel_rfl) ?_ ?_
                rotate_left
                · intro w9 hS9; have q := cell_below hS9 cg6; go_simp; first | done | with_reducible rfl
                simp only [Act.put, List.setIfInBounds_toArray, List.set_cons_zero, List.set_cons_succ]
                refine hTake (by kernel_rfl) (fun d _ _ _ _ h => by cases d <;> exact h) hS 19 (some 92) _ rfl (v := ?_) (by kernel_rfl) ?_ ?_
                rotate_left
                · intro _ _; go_simp; first | done | with_reducible rfl
                simp only [Act.put, List.setIfInBounds_toArray, List.set_cons_zero, List.set_cons_succ]
                refine hTake (by kernel_rfl) (fun d _ _ _ _ h => by cases d <;> exact h) hS 20 (some 93) _ rfl (v := ?_) (by kernel_rfl) ?_ ?_
                rotate_left
                · intro _ _; go_simp; first | done | with_reducible rfl
                simp only [Act.put, List.setIfInBounds_toArray, List.set_cons_zero, List.set_cons_succ]
                refine hTake (by kernel_rfl) (fun d _ _ _ _ h => by cases d <;> exact h) hS 21 (some 94) _ rfl (v := ?_) (by kernel_rfl) ?_ ?_
                rotate_left
                · intro _ _; go_simp; first | done | with_reducible rfl
                simp only [Act.put, List.setIfInBounds_toArray, List.set_cons_zero, List.set_cons_succ]
                refine hTake (by kernel_rfl) (fun d _ _ _ _ h => by cases d <;> exact h) hS 22 (some 95) _ rfl (v := ?_) (by kernel_rfl) ?_ ?_
                rotate_left
                · intro _ _; go_simp; first | done | with_reducible rfl
                simp only [Act.put, List.setIfInBounds_toArray, List.set_cons_zero, List.set_cons_succ]
                refine hTake (by kernel_rfl) (fun d _ _ _ _ h => by cases d <;> exact h) hS 23 (some 96) _ rfl (v := ?_) (by kernel_rfl) ?_ ?_
                rotate_left
                · intro _ _; go_simp; first | done | with_reducible rfl
                simp only [Act.put, List.setIfInBounds_toArray, List.set_cons_zero, List.set_cons_succ]
                refine hTake (by kernel_rfl) (fun d _ _ _ _ h => by cases d <;> exact h) hS 24 (some 97) _ rfl (v := ?_) (by kernel_rfl) ?_ ?_
                rotate_left
                · intro _ _; go_simp; first | done | with_reducible rfl
                simp only [Act.put, List.setIfInBounds_toArray, List.set_cons_zero, List.set_cons_succ]
                refine hTake (by kernel_rfl) (fun d _ _ _ _ h => by cases d <;> exact h) hS 25 (some 98) _ rfl (v := ?_) (by kernel_rfl) ?_ ?_
                rotate_left
                · intro _ _; go_simp; first | done | with_reducible rfl
                simp only [Act.put, List.setIfInBounds_toArray, List.set_cons_zero, List.set_cons_succ]
                refine hTake (by kernel_rfl) (fun d _ _ _ _ h => by cases d <;> exact h) hS 26 (some 99) _ rfl (v := ?_) (by kernel_rfl) ?_ ?_
                rotate_left
                · intro _ _; go_simp; first | done | with_reducible rfl
                simp only [Act.put, List.setIfInBounds_toArray, List.set_cons_zero, List.set_cons_succ]
                refine hTake (by kernel_rfl) (fun d _ _ _ _ h => by cases d <;> exact h) hS 27 (some 100) _ rfl (v := ?_) (by kernel_rfl) ?_ ?_
                rotate_left
                · intro w9 hS9; have q := cell_below hS9 ck6; go_simp; first | done | with_reducible rfl
                simp only [Act.put, List.setIfInBounds_toArray, List.set_cons_zero, List.set_cons_succ]
                refine hTake (by kernel_rfl) (fun d _ _ _ _ h => by cases d <;> exact h) hS 28 (some 101) _ rfl (v := ?_) (by kernel_rfl) ?_ ?_
                rotate_left
                · intro _ _; go_simp; first | done | with_reducible rfl
                simp only [Act.put, List.setIfInBounds_toArray, List.set_cons_zero, List.set_cons_succ]
                refine hTake (by kernel_rfl) (fun d _ _ _ _ h => by cases d <;> exact h) hS 29 (some 102) _ rfl (v := ?_) (by kernel_rfl) ?_ ?_
                rotate_left
                · intro _ _; go_simp; first | done | with_reducible rfl
                simp only [Act.put, List.setIfInBounds_toArray, List.set_cons_zero, List.set_cons_succ]
                refine hSkips (by kernel_rfl) (fun d _ _ _ _ h => by cases d <;> exact h) hS [30, 31, 32, 33, 34, 35, 36, 37, 38, 39, 40, 41, 42, 43] [some 103, some 104, some 105, some 106, some 107, some 108, some 109, some 110, some 111, some 112, some 113, some 114, some 115, some 116] (by kernel_rfl) ?_
                simp only [putUndef, listAll, List.foldl_cons, List.foldl_nil, Act.put, List.setIfInBounds_toArray, List.set_cons_zero, List.set_cons_succ]
                refine hTake (by kernel_rfl) (fun d _ _ _ _ h => by cases d <;> exact h) hS 44 (some 117) _ rfl (v := ?_) (by kernel_rfl) ?_ ?_
                rotate_left
                · intro _ _; go_simp; first | done | with_reducible rfl
                simp only [Act.put, List.setIfInBounds_toArray, List.set_cons_zero, List.set_cons_succ]
                refine hTake (by kernel_rfl) (fun d _ _ _ _ h => by cases d <;> exact h) hS 45 (some 118) _ rfl (v := ?_) (by kernel_rfl) ?_ ?_
                rotate_left
                · intro _ _; go_simp; first | done | with_reducible rfl
                simp only [Act.put, List.setIfInBounds_toArray, List.set_cons_zero, List.set_cons_succ]
                refine wpAnyH_done (by kernel_rfl) ?_ _
                have HB6 := Lib.hid (after hb6 hS (Nat.le_refl _))
                clear hS hb6 ck6 cg6 p0 p1 p2 p3 q0 q1
                go_wp2
                go_roundw
                case rel => exact ⟨j + 1, by go_num, by omega, HB6.out⟩
                case measure => simp [intOf]; omega
              · have e2 : ((bx l p).kind == 2) = false := beq_eq_false_iff_ne.2 hk2
                have e3 : ((bx l p).kind != 2) = true := by rw [bne_iff_ne]; exact hk2
                have hle : ¬ (s.y < r.y + r.h + (bx l p).gap) := by have := HO.out.2 hk2; omega
                have hw1 : IntKind.i64.wrap (r.y + r.h) = r.y + r.h := by rw [IntKind.wrap_i64]; omega
                have hw2 : IntKind.i64.wrap (r.y + r.h + (bx l p).gap) = r.y + r.h + (bx l p).gap := by rw [IntKind.wrap_i64]; omega
                clear hk2
                refine wp_region_held_drew (S := fun w' => Below W2.heap.size W2 w') (by kernel_rfl) (Below.refl _ _).drew (fun hS => ?_)
                change wpAnyH _ _ _ _ _ _ _ _ W2.drew
                generalize W2.drew = wd at *
                refine hTake (by kernel_rfl) (fun d _ _ _ _ h => by cases d <;> exact h) hS 0 (some 73) _ rfl (v := ?_) (by kernel_rfl) ?_ ?_
                rotate_left
                · intro _ _; go_simp; first | done | with_reducible rfl
                simp only [Act.put, List.setIfInBounds_toArray, List.set_cons_zero, List.set_cons_succ]
                refine hTake (by kernel_rfl) (fun d _ _ _ _ h => by cases d <;> exact h) hS 1 (some 74) _ rfl (v := ?_) (by kernel_rfl) ?_ ?_
                rotate_left
                · intro _ _; go_simp; first | done | with_reducible rfl
                simp only [Act.put, List.setIfInBounds_toArray, List.set_cons_zero, List.set_cons_succ]
                refine hTake (by kernel_rfl) (fun d _ _ _ _ h => by cases d <;> exact h) hS 2 (some 75) _ rfl (v := ?_) (by kernel_rfl) ?_ ?_
                rotate_left
                · intro _ _; go_simp; first | done | with_reducible rfl
                simp only [Act.put, List.setIfInBounds_toArray, List.set_cons_zero, List.set_cons_succ]
                refine hTake (by kernel_rfl) (fun d _ _ _ _ h => by cases d <;> exact h) hS 3 (some 76) _ rfl (v := ?_) (by kernel_rfl) ?_ ?_
                rotate_left
                · intro _ _; go_simp; first | done | with_reducible rfl
                simp only [Act.put, List.setIfInBounds_toArray, List.set_cons_zero, List.set_cons_succ]
                refine hTake (by kernel_rfl) (fun d _ _ _ _ h => by cases d <;> exact h) hS 4 (some 77) _ rfl (v := ?_) (by kernel_rfl) ?_ ?_
                rotate_left
                · intro w9 hS9; have q := cell_below hS9 ck6; go_simp; first | done | with_reducible rfl
                simp only [Act.put, List.setIfInBounds_toArray, List.set_cons_zero, List.set_cons_succ]
                refine hTake (by kernel_rfl) (fun d _ _ _ _ h => by cases d <;> exact h) hS 5 (some 78) _ rfl (v := ?_) (by kernel_rfl) ?_ ?_
                rotate_left
                · intro _ _; go_simp; first | done | with_reducible rfl
                simp only [Act.put, List.setIfInBounds_toArray, List.set_cons_zero, List.set_cons_succ]
                refine hTake (by kernel_rfl) (fun d _ _ _ _ h => by cases d <;> exact h) hS 6 (some 79) _ rfl (v := ?_) (by kernel_rfl) ?_ ?_
                rotate_left
                · intro _ _; go_simp; first | done | with_reducible rfl
                simp only [Act.put, List.setIfInBounds_toArray, List.set_cons_zero, List.set_cons_succ]
                refine hSkips (by kernel_rfl) (fun d _ _ _ _ h => by cases d <;> exact h) hS [7, 8, 9, 10, 11, 12, 13, 14, 15, 16, 17, 18, 19, 20] [some 80, some 81, some 82, some 83, some 84, some 85, some 86, some 87, some 88, some 89, some 90, some 91, some 92, some 93] (by kernel_rfl) ?_
                simp only [putUndef, listAll, List.foldl_cons, List.foldl_nil, Act.put, List.setIfInBounds_toArray, List.set_cons_zero, List.set_cons_succ]
                refine hTake (by kernel_rfl) (fun d _ _ _ _ h => by cases d <;> exact h) hS 21 (some 94) _ rfl (v := ?_) (by kernel_rfl) ?_ ?_
                rotate_left
                · intro _ _; go_simp; first | done | with_reducible rfl
                simp only [Act.put, List.setIfInBounds_toArray, List.set_cons_zero, List.set_cons_succ]
                refine hTake (by kernel_rfl) (fun d _ _ _ _ h => by cases d <;> exact h) hS 22 (some 95) _ rfl (v := ?_) (by kernel_rfl) ?_ ?_
                rotate_left
                · intro _ _; go_simp; first | done | with_reducible rfl
                simp only [Act.put, List.setIfInBounds_toArray, List.set_cons_zero, List.set_cons_succ]
                refine hTake (by kernel_rfl) (fun d _ _ _ _ h => by cases d <;> exact h) hS 23 (some 96) _ rfl (v := ?_) (by kernel_rfl) ?_ ?_
                rotate_left
                · intro _ _; go_simp; first | done | with_reducible rfl
                simp only [Act.put, List.setIfInBounds_toArray, List.set_cons_zero, List.set_cons_succ]
                refine hTake (by kernel_rfl) (fun d _ _ _ _ h => by cases d <;> exact h) hS 24 (some 97) _ rfl (v := ?_) (by kernel_rfl) ?_ ?_
                rotate_left
                · intro _ _; go_simp; first | done | with_reducible rfl
                simp only [Act.put, List.setIfInBounds_toArray, List.set_cons_zero, List.set_cons_succ]
                refine hTake (by kernel_rfl) (fun d _ _ _ _ h => by cases d <;> exact h) hS 25 (some 98) _ rfl (v := ?_) (by kernel_rfl) ?_ ?_
                rotate_left
                · intro _ _; go_simp; first | done | with_reducible rfl
                simp only [Act.put, List.setIfInBounds_toArray, List.set_cons_zero, List.set_cons_succ]
                refine hTake (by kernel_rfl) (fun d _ _ _ _ h => by cases d <;> exact h) hS 26 (some 99) _ rfl (v := ?_) (by kernel_rfl) ?_ ?_
                rotate_left
                · intro _ _; go_simp; first | done | with_reducible rfl
                simp only [Act.put, List.setIfInBounds_toArray, List.set_cons_zero, List.set_cons_succ]
                refine hTake (by kernel_rfl) (fun d _ _ _ _ h => by cases d <;> exact h) hS 27 (some 100) _ rfl (v := ?_) (by kernel_rfl) ?_ ?_
                rotate_left
                · intro w9 hS9; have q := cell_below hS9 ck6; go_simp; first | done | with_reducible rfl
                simp only [Act.put, List.setIfInBounds_toArray, List.set_cons_zero, List.set_cons_succ]
                refine hTake (by kernel_rfl) (fun d _ _ _ _ h => by cases d <;> exact h) hS 28 (some 101) _ rfl (v := ?_) (by kernel_rfl) ?_ ?_
                rotate_left
                · intro _ _; go_simp; first | done | with_reducible rfl
                simp only [Act.put, List.setIfInBounds_toArray, List.set_cons_zero, List.set_cons_succ]
                refine hTake (by kernel_rfl) (fun d _ _ _ _ h => by cases d <;> exact h) hS 29 (some 102) _ rfl (v := ?_) (by kernel_rfl) ?_ ?_
                rotate_left
                · intro _ _; go_simp; first | done | with_reducible rfl
                simp only [Act.put, List.setIfInBounds_toArray, List.set_cons_zero, List.set_cons_succ]
                refine hTake (by kernel_rfl) (fun d _ _ _ _ h => by cases d <;> exact h) hS 30 (some 103) _ rfl (v := ?_) (by kernel_rfl) ?_ ?_
                rotate_left
                · intro _ _; go_simp; first | done | with_reducible rfl
                simp only [Act.put, List.setIfInBounds_toArray, List.set_cons_zero, List.set_cons_succ]
                refine hTake (by kernel_rfl) (fun d _ _ _ _ h => by cases d <;> exact h) hS 31 (some 104) _ rfl (v := ?_) (by kernel_rfl) ?_ ?_
                rotate_left
                · intro w9 hS9; have q := cell_below hS9 q1; go_simp; first | done | with_reducible rfl
                simp only [Act.put, List.setIfInBounds_toArray, List.set_cons_zero, List.set_cons_succ]
                refine hTake (by kernel_rfl) (fun d _ _ _ _ h => by cases d <;> exact h) hS 32 (some 105) _ rfl (v := ?_) (by kernel_rfl) ?_ ?_
                rotate_left
                · intro _ _; go_simp; first | done | with_reducible rfl
                simp only [Act.put, List.setIfInBounds_toArray, List.set_cons_zero, List.set_cons_succ]
                refine hTake (by kernel_rfl) (fun d _ _ _ _ h => by cases d <;> exact h) hS 33 (some 106) _ rfl (v := ?_) (by kernel_rfl) ?_ ?_
                rotate_left
                · intro w9 hS9; have q := cell_below hS9 p1; go_simp; first | done | with_reducible rfl
                simp only [Act.put, List.setIfInBounds_toArray, List.set_cons_zero, List.set_cons_succ]
                refine hTake (by kernel_rfl) (fun d _ _ _ _ h => by cases d <;> exact h) hS 34 (some 107) _ rfl (v := ?_) (by kernel_rfl) ?_ ?_
                rotate_left
                · intro _ _; go_simp; first | done | with_reducible rfl
                simp only [Act.put, List.setIfInBounds_toArray, List.set_cons_zero, List.set_cons_succ]
                refine hTake (by kernel_rfl) (fun d _ _ _ _ h => by cases d <;> exact h) hS 35 (some 108) _ rfl (v := ?_) (by kernel_rfl) ?_ ?_
                rotate_left
                · intro w9 hS9; have q := cell_below hS9 p3; go_simp; first | done | with_reducible rfl
                simp only [Act.put, List.setIfInBounds_toArray, List.set_cons_zero, List.set_cons_succ]
                refine hTake (by kernel_rfl) (fun d _ _ _ _ h => by cases d <;> exact h) hS 36 (some 109) _ rfl (v := ?_) (by kernel_rfl) ?_ ?_
                rotate_left
                · intro _ _; go_simp; first | done | with_reducible rfl
                simp only [Act.put, List.setIfInBounds_toArray, List.set_cons_zero, List.set_cons_succ]
                refine hTake (by kernel_rfl) (fun d _ _ _ _ h => by cases d <;> exact h) hS 37 (some 110) _ rfl (v := ?_) (by kernel_rfl) ?_ ?_
                rotate_left
                · intro _ _; go_simp; first | done | with_reducible rfl
                simp only [Act.put, List.setIfInBounds_toArray, List.set_cons_zero, List.set_cons_succ]
                refine hTake (by kernel_rfl) (fun d _ _ _ _ h => by cases d <;> exact h) hS 38 (some 111) _ rfl (v := ?_) (by kernel_rfl) ?_ ?_
                rotate_left
                · intro _ _; go_simp; first | done | with_reducible rfl
                simp only [Act.put, List.setIfInBounds_toArray, List.set_cons_zero, List.set_cons_succ]
                refine hTake (by kernel_rfl) (fun d _ _ _ _ h => by cases d <;> exact h) hS 39 (some 112) _ rfl (v := ?_) (by kernel_rfl) ?_ ?_
                rotate_left
                · intro _ _; go_simp; first | done | with_reducible rfl
                simp only [Act.put, List.setIfInBounds_toArray, List.set_cons_zero, List.set_cons_succ]
                refine hTake (by kernel_rfl) (fun d _ _ _ _ h => by cases d <;> exact h) hS 40 (some 113) _ rfl (v := ?_) (by kernel_rfl) ?_ ?_
                rotate_left
                · intro _ _; go_simp; first | done | with_reducible rfl
                simp only [Act.put, List.setIfInBounds_toArray, List.set_cons_zero, List.set_cons_succ]
                refine hTake (by kernel_rfl) (fun d _ _ _ _ h => by cases d <;> exact h) hS 41 (some 114) _ rfl (v := ?_) (by kernel_rfl) ?_ ?_
                rotate_left
                · intro w9 hS9; have q := cell_below hS9 cg6; go_simp; first | done | with_reducible rfl
                simp only [Act.put, List.setIfInBounds_toArray, List.set_cons_zero, List.set_cons_succ]
                refine hTake (by kernel_rfl) (fun d _ _ _ _ h => by cases d <;> exact h) hS 42 (some 115) _ rfl (v := ?_) (by kernel_rfl) ?_ ?_
                rotate_left
                · intro _ _; go_simp; first | done | with_reducible rfl
                simp only [Act.put, List.setIfInBounds_toArray, List.set_cons_zero, List.set_cons_succ]
                refine hTake (by kernel_rfl) (fun d _ _ _ _ h => by cases d <;> exact h) hS 43 (some 116) _ rfl (v := ?_) (by kernel_rfl) ?_ ?_
                rotate_left
                · intro _ _; go_simp; first | done | with_reducible rfl
                simp only [Act.put, List.setIfInBounds_toArray, List.set_cons_zero, List.set_cons_succ]
                refine hTake (by kernel_rfl) (fun d _ _ _ _ h => by cases d <;> exact h) hS 44 (some 117) _ rfl (v := ?_) (by kernel_rfl) ?_ ?_
                rotate_left
                · intro _ _; go_simp; first | done | with_reducible rfl
                simp only [Act.put, List.setIfInBounds_toArray, List.set_cons_zero, List.set_cons_succ]
                refine hTake (by kernel_rfl) (fun d _ _ _ _ h => by cases d <;> exact h) hS 45 (some 118) _ rfl (v := ?_) (by kernel_rfl) ?_ ?_
                rotate_left
                · intro _ _; go_simp; first | done | with_reducible rfl
                simp only [Act.put, List.setIfInBounds_toArray, List.set_cons_zero, List.set_cons_succ]
                refine wpAnyH_done (by kernel_rfl) ?_ _
                have HB6 := Lib.hid (after hb6 hS (Nat.le_refl _))
                clear hS hb6 ck6 cg6 p0 p1 p2 p3 q0 q1
                go_wp2
                go_roundw
                case rel => exact ⟨j + 1, by go_num, by omega, HB6.out⟩
                case measure => simp [intOf]; omega
            · have hji : ¬ (j : Int) + 1 < K.length := by omega
              have hB := Lib.hid (hb.trans (hb6.mono hb.size))
              clear ck cg
              go_wp2
              go_roundw
              case rel => exact ⟨p + 1, by go_num, by omega, HTT.out.below hb6 (Nat.le_refl _), HRR.out.below hb6 (Nat.le_refl _), hB.out⟩
              case measure => simp [intOf]; omega
        · obtain rfl : p = l.length := by omega
          go_wp2
          go_ret
          exact ⟨rfl, hb⟩
end Go.Proofs.Ytkbgmfapcekakaa
