/-
  The laws over LayoutTree: FnLayoutTreeCross.
-/
import Derived.Test.YtkbgmfapcekakaaTre
import Derived.Test.YtkbgmfapcekakaaAi
import Derived.Test.YtkbgmfapcekakaaAg
import Derived.Test.YtkbgmfapcekakaaAe
import Derived.Test.YtkbgmfapcekakaaMeet
import Derived.Test.YtkbgmfapcekakaaAf
import Derived.Test.YtkbgmfapcekakaaSSpl
import Derived.Test.YtkbgmfapcekakaaLStyA
namespace Go.Proofs.Ytkbgmfapcekakaa
open Go Go.RowKit

theorem inset_VR {l : List Bx} {sw sh : Int} {p : Nat} (hv : Valid l) (hsw : 0 ≤ sw ∧ sw ≤ 10000) (hsh : 0 ≤ sh ∧ sh ≤ 10000) {i : Nat} (hi : i < l.length) (hp : par l i = (p : Int)) : VR (insetR (rect l sw sh p) (bx l p).pad) := by
  have hd := (hv.down hi) i (Nat.le_refl _)
  have hpl : p < l.length := by omega
  have hb := okB_bounds (hv.ok p hpl)
  have hk := posK_get hi
  rw [hp] at hk
  have ha := anc_up (hv.down hi) hp
  have hdp := hv.depth i hi
  rw [ha, List.length_cons] at hdp
  obtain ⟨h1, h2, h3, h4, h5, h6, h7, h8⟩ := (rect_RB hv hsw hsh p p (Nat.le_refl _) hpl).mono (e := 80000) (by omega)
  have := inset_ok (r := rect l sw sh p) (e := (bx l p).pad) (by omega) ⟨h5, h6⟩ ⟨h7, h8⟩
  refine ⟨?_, ?_, ?_, ?_⟩ <;> (rw [inR_iff]; omega)
set_option maxRecDepth 100000 in
set_option maxHeartbeats 8000000 in
theorem FnLayoutTreeCross_any {v : Value} (w : World) (hv : RdBytes w v) :
    Calls Try.prog 9 #[v] w fun e w' => e = .returned (.bool true) ∧ Ext w w' := by
  have hv2 := hv
  obtain ⟨ad, n, c, rfl, hn, hc, _⟩ := hv
  unfold maxLen at hc
  by_cases hlen : 1048576 < n
  · have hlen' : (1048576 : Int) < n := by omega
    go_enter Try.func9, Try.ntmps9
    go_wp2
    go_ret
    exact ⟨rfl, Below.refl _ _⟩
  · have hlen' : ¬ ((1048576 : Int) < n) := by omega
    go_enter Try.func9, Try.ntmps9
    go_wp2_with (fail)
    refine (DrawLayoutTree_any _ hv2).mono ?_
    rintro e w1 ⟨v1, sw, sh, rfl, l, hl, hsw, hsh, ho1, hb⟩
    have hrT := ho1.rd
    clear ho1 hv2
    go_wp2_with (fail)
    refine ((LayoutTree_any (l := l) sw sh _ hrT)).mono ?_
    rintro e w2 ⟨v2, rfl, ho2, hx⟩
    replace hb := after hb hx (Nat.le_refl _)
    replace hrT := hrT.below hx (Nat.le_refl _)
    clear hx
    have hrO := ho2.rd
    clear ho2
    go_wp2_with (fail)
    refine ((sLayoutTree_any (l := l) sw sh _ hrT (by omega))).mono ?_
    rintro e w3 ⟨v3, rfl, ho3, hx⟩
    replace hb := after hb hx (Nat.le_refl _)
    replace hrT := hrT.below hx (Nat.le_refl _)
    replace hrO := hrO.below hx (Nat.le_refl _)
    clear hx
    have hrW := ho3.rd
    clear ho3
    cases hok : scrB l sw sh with
    | false =>
      have HO := Lib.hid (rectsOr_f hok)
      rw [HO.out] at hrO hrW
      clear hok
      go_wp2_with (fail)
      refine ((equalRects_any (l := []) _ hrO hrW)).mono ?_
      rintro e w4 ⟨rfl, hx⟩
      replace hb := after hb hx (Nat.le_refl _)
      replace hrT := hrT.below hx (Nat.le_refl _)
      replace hrO := hrO.below hx (Nat.le_refl _)
      clear hx
      clear hrW
      obtain ⟨aO, cO, rfl, hnO, hcO, _⟩ := hrO.rects
      rw [List.length_nil] at hrO
      go_wp2_with (fail)
      refine ((sLayoutTree_any (l := l) sw sh _ hrT (by omega))).mono ?_
      rintro e w5 ⟨v5, rfl, ho5, hx⟩
      replace hb := after hb hx (Nat.le_refl _)
      replace hrT := hrT.below hx (Nat.le_refl _)
      replace hrO := hrO.below hx (Nat.le_refl _)
      clear hx
      have hrW := ho5.rd
      rw [HO.out] at hrW
      clear ho5
      go_wp2_with (fail)
      refine ((equalRects_any (l := []) _ hrO hrW)).mono ?_
      rintro e w6 ⟨rfl, hx⟩
      replace hb := after hb hx (Nat.le_refl _)
      clear hx
      go_wp2
      go_ret
      exact ⟨rfl, hb⟩
    | true =>
      have HO := Lib.hid (rectsOr_t hok)
      rw [HO.out] at hrO hrW
      obtain ⟨hval, hsw2, hsh2⟩ := scrB_iff.1 hok
      clear hok hsw hsh
      go_wp2_with (fail)
      refine ((equalRects_any (l := rectL l sw sh) _ hrO hrW)).mono ?_
      rintro e w4 ⟨rfl, hx⟩
      replace hb := after hb hx (Nat.le_refl _)
      replace hrT := hrT.below hx (Nat.le_refl _)
      replace hrO := hrO.below hx (Nat.le_refl _)
      clear hx
      clear hrW
      have HV := Lib.hid hval
      have hlo := hval.lo
      have hz : ((l.length : Int) == 0) = false := beq_eq_false_iff_ne.2 (by omega)
      have HR := Lib.hid (fun k (hk : k < l.length) => rect_ok hval hsw2 hsh2 hk)
      obtain ⟨bO, oO, cO, rfl, hnO, hcO, hR⟩ := rectS hrO hlo
      have HRD := Lib.hid hrO
      obtain ⟨bT, oT, cT, rfl, hnT, hcT⟩ := rd_addr hlo hrT
      clear hval hrO
      have HRT := Lib.hid hrT
      have HIV := Lib.hid (fun (i p : Nat) (hi : i < l.length) (hp : par l i = (p : Int)) => inset_VR HV.out hsw2 hsh2 (i := i) (p := p) hi hp)
      clear hrT
      go_wp2
      go_loopw [7] (fun n wr => ∃ k : Nat, n = .int .i64 k ∧ 1 ≤ k ∧ k ≤ l.length ∧ Rd wr 9 (.slice (some ⟨bT, oT, none⟩) l.length cT) (Bs l) ∧ RC l sw sh bO oO wr ∧ Below w.heap.size w wr) (fun n _ => l.length - (intOf n).toNat)
      case atStart => exact ⟨1, by go_num, Nat.le_refl _, hlo, HRT.out, hR, hb⟩
      case round =>
        clear HRT hR hb
        obtain ⟨k, rfl, hk1, hk, hrT, hR, hb⟩ := hrel
        by_cases hlt : k < l.length
        · have hki : (k : Int) < l.length := by omega
          have hki0 : (0 : Int) ≤ (k : Int) := by omega
          have hHPAR := HV.out.par k hk1 hlt
          obtain ⟨p, hp⟩ : ∃ p : Nat, (bx l k).parent = (p : Int) := ⟨(par l k).toNat, by
            show par l k = _
            omega⟩
          have hpp : par l k = (p : Int) := hp
          have hpl : p < l.length := by omega
          have hpi : (p : Int) < l.length := by omega
          have hp0 : (0 : Int) ≤ (p : Int) := by omega
          have cp : wr.cell? ⟨bT, oT + k * 9, none⟩ = some (.int .i64 (p : Int)) := by
            rw [← hp]
            exact (cells_at hlt hrT).c0
          have hpr := HR.out p hpl
          have hpb := okB_bounds (HV.out.ok p hpl)
          have hcr := rect_cross HV.out (w := sw) (h := sh) hlt hpp
          have hiv := HIV.out k p hlt hpp
          have hps := hpr.rs (show (100000 : Int) ≤ 1000000 by omega)
          have hpv := hpr.vr
          have HIN := Lib.hid (fun W => InsetRect_any (r := rect l sw sh p) (e := (bx l p).pad) W hps hpv (by omega) hiv)
          have HTT := Lib.hid hrT
          have HRR := Lib.hid hR
          have hpc := (cells_at hpl hrT).c4
          have hqc := hR.cs p hpl
          have hrb := hR.lt
          generalize insetR (rect l sw sh p) (bx l p).pad = q at *
          have HQC := Lib.hid (fun w9 (h : Below wr.heap.size wr w9) => hqc.below h hrb)
          have HRC9 := 0
          clear hHPAR hp hpp hpr hpb hps hpv hqc hrT hR hiv
          generalize rect l sw sh p = s at *
          go_upto_region 11 with fail
          refine wp_region_held_drew (S := fun w' => Below wr.heap.size wr w') (by kernel_rfl) (Below.refl _ _).drew (fun hS => ?_)
          change wpAnyH _ _ _ _ _ _ _ _ wr.drew
          generalize wr.drew = wd at *
          refine hTake (by kernel_rfl) (fun d _ _ _ _ h => by cases d <;> exact h) hS 0 (some 54) _ rfl (v := ?_) (by kernel_rfl) ?_ ?_
          rotate_left
          · intro _ _; go_simp; first | done | with_reducible rfl
          simp only [Act.put, List.setIfInBounds_toArray, List.set_cons_zero, List.set_cons_succ]
          refine hTake (by kernel_rfl) (fun d _ _ _ _ h => by cases d <;> exact h) hS 1 (some 55) _ rfl (v := ?_) (by kernel_rfl) ?_ ?_
          rotate_left
          · intro _ _; go_simp; first | done | with_reducible rfl
          simp only [Act.put, List.setIfInBounds_toArray, List.set_cons_zero, List.set_cons_succ]
          refine hTake (by kernel_rfl) (fun d _ _ _ _ h => by cases d <;> exact h) hS 2 (some 56) _ rfl (v := ?_) (by kernel_rfl) ?_ ?_
          rotate_left
          · intro _ _; go_simp; first | done | with_reducible rfl
          simp only [Act.put, List.setIfInBounds_toArray, List.set_cons_zero, List.set_cons_succ]
          refine hTake (by kernel_rfl) (fun d _ _ _ _ h => by cases d <;> exact h) hS 3 (some 57) _ rfl (v := ?_) (by kernel_rfl) ?_ ?_
          rotate_left
          · intro w9 hS9; obtain ⟨q0, q1, q2, q3⟩ := HQC.out _ hS9; go_simp; first | done | with_reducible rfl
          simp only [Act.put, List.setIfInBounds_toArray, List.set_cons_zero, List.set_cons_succ]
          refine hTake (by kernel_rfl) (fun d _ _ _ _ h => by cases d <;> exact h) hS 4 (some 58) _ rfl (v := ?_) (by kernel_rfl) ?_ ?_
          rotate_left
          · intro _ _; go_simp; first | done | with_reducible rfl
          simp only [Act.put, List.setIfInBounds_toArray, List.set_cons_zero, List.set_cons_succ]
          refine hTake (by kernel_rfl) (fun d _ _ _ _ h => by cases d <;> exact h) hS 5 (some 59) _ rfl (v := ?_) (by kernel_rfl) ?_ ?_
          rotate_left
          · intro _ _; go_simp; first | done | with_reducible rfl
          simp only [Act.put, List.setIfInBounds_toArray, List.set_cons_zero, List.set_cons_succ]
          refine hTake (by kernel_rfl) (fun d _ _ _ _ h => by cases d <;> exact h) hS 6 (some 60) _ rfl (v := ?_) (by kernel_rfl) ?_ ?_
          rotate_left
          · intro _ _; go_simp; first | done | with_reducible rfl
          simp only [Act.put, List.setIfInBounds_toArray, List.set_cons_zero, List.set_cons_succ]
          refine hTake (by kernel_rfl) (fun d _ _ _ _ h => by cases d <;> exact h) hS 7 (some 61) _ rfl (v := ?_) (by kernel_rfl) ?_ ?_
          rotate_left
          · intro _ _; go_simp; first | done | with_reducible rfl
          simp only [Act.put, List.setIfInBounds_toArray, List.set_cons_zero, List.set_cons_succ]
          refine hTake (by kernel_rfl) (fun d _ _ _ _ h => by cases d <;> exact h) hS 8 (some 62) _ rfl (v := ?_) (by kernel_rfl) ?_ ?_
          rotate_left
          · intro w9 hS9; have q := cell_below hS9 hpc; go_simp; first | done | with_reducible rfl
          simp only [Act.put, List.setIfInBounds_toArray, List.set_cons_zero, List.set_cons_succ]
          clear cp hpc hrb HQC
          refine wpAnyH_ready (rs := [9, 13]) (by kernel_rfl) (by simp) ?_
          refine AllReadyH.cons (o := _) rfl (fun K9 hK9 => ?_) (AllReadyH.cons (o := _) rfl (fun K9 hK9 => ?_) AllReadyH.nil)
          · go_simp
            refine ((HIN.out _)).mono ?_
            rintro e w7 ⟨rfl, hx7⟩
            unfold Rc.agg
            try go_wp2_with fail
            refine hK9.out _ _ (after hS hx7 (Nat.le_refl _)) (fun hS => ?_)
            clear hK9 K9
            try simp only [Act.put, List.setIfInBounds_toArray, List.set_cons_zero, List.set_cons_succ]
            clear hx7
            refine hTake (by kernel_rfl) (fun d _ _ _ _ h => by cases d <;> exact h) hS 10 (some 53) _ rfl (v := ?_) (by kernel_rfl) ?_ ?_
            rotate_left
            · intro _ _; go_simp; first | done | with_reducible rfl
            simp only [Act.put, List.setIfInBounds_toArray, List.set_cons_zero, List.set_cons_succ]
            refine hTake (by kernel_rfl) (fun d _ _ _ _ h => by cases d <;> exact h) hS 11 (some 64) _ rfl (v := ?_) (by kernel_rfl) ?_ ?_
            rotate_left
            · intro _ _; go_simp; first | done | with_reducible rfl
            simp only [Act.put, List.setIfInBounds_toArray, List.set_cons_zero, List.set_cons_succ]
            refine hTake (by kernel_rfl) (fun d _ _ _ _ h => by cases d <;> exact h) hS 12 (some 65) _ rfl (v := ?_) (by kernel_rfl) ?_ ?_
            rotate_left
            · intro _ _; go_simp; first | done | with_reducible rfl
            simp only [Act.put, List.setIfInBounds_toArray, List.set_cons_zero, List.set_cons_succ]
            refine wpAnyH_ready (rs := [13]) (by kernel_rfl) (by simp) ?_
            refine AllReadyH.cons (o := _) rfl (fun K9 hK9 => ?_) AllReadyH.nil
            go_simp
            have hS0 := hS
            refine hK9.out _ _ (hS.alloc hS.size _) (fun hS => ?_)
            clear hK9 K9
            try simp only [Act.put, List.setIfInBounds_toArray, List.set_cons_zero, List.set_cons_succ]
            clear hS
            refine wpAnyH_ready (rs := [14]) (by kernel_rfl) (by simp) ?_
            refine AllReadyH.cons (o := _) rfl (fun K9 hK9 => ?_) AllReadyH.nil
            go_simp
            refine hK9.out _ _ (hS0.alloc hS0.size _) (fun hS => ?_)
            clear hK9 K9
            try simp only [Act.put, List.setIfInBounds_toArray, List.set_cons_zero, List.set_cons_succ]
            refine hTake (by kernel_rfl) (fun d _ _ _ _ h => by cases d <;> exact h) hS 15 (some 10) _ rfl (v := ?_) (by kernel_rfl) ?_ ?_
            rotate_left
            · intro _ _; go_simp; first | done | with_reducible rfl
            simp only [Act.put, List.setIfInBounds_toArray, List.set_cons_zero, List.set_cons_succ]
            refine wpAnyH_done (by kernel_rfl) ?_ _
            have kQ := Keep.new w7 (.cells #[.int .i64 q.x, .int .i64 q.y, .int .i64 q.w, .int .i64 q.h] 35)
            clear hS0
            generalize w7.alloc (.cells #[.int .i64 q.x, .int .i64 q.y, .int .i64 q.w, .int .i64 q.h] 35) = W7 at *
            generalize w7.heap.size = gQ at *
            have q0 : W7.cell? ⟨gQ, 0, none⟩ = some (.int .i64 q.x) := kQ.cell 0
            have q1 : W7.cell? ⟨gQ, 1, none⟩ = some (.int .i64 q.y) := kQ.cell 1
            have q2 : W7.cell? ⟨gQ, 2, none⟩ = some (.int .i64 q.w) := kQ.cell 2
            have q3 : W7.cell? ⟨gQ, 3, none⟩ = some (.int .i64 q.h) := kQ.cell 3
            have hb1 := after hb hS (Nat.le_refl _)
            have hR7 := HRR.out.below hS (Nat.le_refl _)
            have hT7 := HTT.out.below hS (Nat.le_refl _)
            obtain ⟨_, ckp, _⟩ := cells_at hpl hT7
            obtain ⟨ck0, ck1, ck2, ck3⟩ := hR7.cs k hlt
            have HRX := Lib.hid (fun w9 (h : Below W7.heap.size W7 w9) => hR7.below h (Nat.le_refl _))
            have HTX := Lib.hid (fun w9 (h : Below W7.heap.size W7 w9) => hT7.below h (Nat.le_refl _))
            have HCR := Lib.hid hcr
            clear hS hb hR7 hT7 kQ hcr HRR HTT HRC9
            generalize rect l sw sh k = r at *
            by_cases hk2 : (bx l p).kind = 2
            · have e2 : ((bx l p).kind == 2) = true := by rw [hk2]; rfl
              have e3 : ((bx l p).kind != 2) = false := by rw [hk2]; rfl
              obtain ⟨ey, eh⟩ := HCR.out.1 hk2
              rw [ey] at ck1
              rw [eh] at ck3
              clear hk2 ey eh HCR
              go_upto_region 12 with fail
              refine wp_region_held_drew (S := fun w' => Below W7.heap.size W7 w') (by kernel_rfl) (Below.refl _ _).drew (fun hS => ?_)
              change wpAnyH _ _ _ _ _ _ _ _ W7.drew
              generalize W7.drew = we at *
              refine hTake (by kernel_rfl) (fun d _ _ _ _ h => by cases d <;> exact h) hS 0 (some 66) _ rfl (v := ?_) (by kernel_rfl) ?_ ?_
              rotate_left
              · intro _ _; go_simp; first | done | with_reducible rfl
              simp only [Act.put, List.setIfInBounds_toArray, List.set_cons_zero, List.set_cons_succ]
              refine hTake (by kernel_rfl) (fun d _ _ _ _ h => by cases d <;> exact h) hS 1 (some 67) _ rfl (v := ?_) (by kernel_rfl) ?_ ?_
              rotate_left
              · intro _ _; go_simp; first | done | with_reducible rfl
              simp only [Act.put, List.setIfInBounds_toArray, List.set_cons_zero, List.set_cons_succ]
              refine hTake (by kernel_rfl) (fun d _ _ _ _ h => by cases d <;> exact h) hS 2 (some 68) _ rfl (v := ?_) (by kernel_rfl) ?_ ?_
              rotate_left
              · intro _ _; go_simp; first | done | with_reducible rfl
              simp only [Act.put, List.setIfInBounds_toArray, List.set_cons_zero, List.set_cons_succ]
              refine hTake (by kernel_rfl) (fun d _ _ _ _ h => by cases d <;> exact h) hS 3 (some 69) _ rfl (v := ?_) (by kernel_rfl) ?_ ?_
              rotate_left
              · intro _ _; go_simp; first | done | with_reducible rfl
              simp only [Act.put, List.setIfInBounds_toArray, List.set_cons_zero, List.set_cons_succ]
              refine hTake (by kernel_rfl) (fun d _ _ _ _ h => by cases d <;> exact h) hS 4 (some 70) _ rfl (v := ?_) (by kernel_rfl) ?_ ?_
              rotate_left
              · intro _ _; go_simp; first | done | with_reducible rfl
              simp only [Act.put, List.setIfInBounds_toArray, List.set_cons_zero, List.set_cons_succ]
              refine hTake (by kernel_rfl) (fun d _ _ _ _ h => by cases d <;> exact h) hS 5 (some 71) _ rfl (v := ?_) (by kernel_rfl) ?_ ?_
              rotate_left
              · intro _ _; go_simp; first | done | with_reducible rfl
              simp only [Act.put, List.setIfInBounds_toArray, List.set_cons_zero, List.set_cons_succ]
              refine hTake (by kernel_rfl) (fun d _ _ _ _ h => by cases d <;> exact h) hS 6 (some 72) _ rfl (v := ?_) (by kernel_rfl) ?_ ?_
              rotate_left
              · intro _ _; go_simp; first | done | with_reducible rfl
              simp only [Act.put, List.setIfInBounds_toArray, List.set_cons_zero, List.set_cons_succ]
              refine hTake (by kernel_rfl) (fun d _ _ _ _ h => by cases d <;> exact h) hS 7 (some 73) _ rfl (v := ?_) (by kernel_rfl) ?_ ?_
              rotate_left
              · intro w9 hS9; have q := cell_below hS9 ckp; go_simp; first | done | with_reducible rfl
              simp only [Act.put, List.setIfInBounds_toArray, List.set_cons_zero, List.set_cons_succ]
              refine hTake (by kernel_rfl) (fun d _ _ _ _ h => by cases d <;> exact h) hS 8 (some 74) _ rfl (v := ?_) (by kernel_rfl) ?_ ?_
              rotate_left
              · intro _ _; go_simp; first | done | with_reducible rfl
              simp only [Act.put, List.setIfInBounds_toArray, List.set_cons_zero, List.set_cons_succ]
              refine hTake (by kernel_rfl) (fun d _ _ _ _ h => by cases d <;> exact h) hS 9 (some 75) _ rfl (v := ?_) (by kernel_rfl) ?_ ?_
              rotate_left
              · intro _ _; go_simp; first | done | with_reducible rfl
              simp only [Act.put, List.setIfInBounds_toArray, List.set_cons_zero, List.set_cons_succ]
              refine hTake (by kernel_rfl) (fun d _ _ _ _ h => by cases d <;> exact h) hS 10 (some 76) _ rfl (v := ?_) (by kernel_rfl) ?_ ?_
              rotate_left
              · intro _ _; go_simp; first | done | with_reducible rfl
              simp only [Act.put, List.setIfInBounds_toArray, List.set_cons_zero, List.set_cons_succ]
              refine hTake (by kernel_rfl) (fun d _ _ _ _ h => by cases d <;> exact h) hS 11 (some 77) _ rfl (v := ?_) (by kernel_rfl) ?_ ?_
              rotate_left
              · intro _ _; go_simp; first | done | with_reducible rfl
              simp only [Act.put, List.setIfInBounds_toArray, List.set_cons_zero, List.set_cons_succ]
              refine hTake (by kernel_rfl) (fun d _ _ _ _ h => by cases d <;> exact h) hS 12 (some 78) _ rfl (v := ?_) (by kernel_rfl) ?_ ?_
              rotate_left
              · intro _ _; go_simp; first | done | with_reducible rfl
              simp only [Act.put, List.setIfInBounds_toArray, List.set_cons_zero, List.set_cons_succ]
              refine hTake (by kernel_rfl) (fun d _ _ _ _ h => by cases d <;> exact h) hS 13 (some 79) _ rfl (v := ?_) (by kernel_rfl) ?_ ?_
              rotate_left
              · intro _ _; go_simp; first | done | with_reducible rfl
              simp only [Act.put, List.setIfInBounds_toArray, List.set_cons_zero, List.set_cons_succ]
              refine hTake (by kernel_rfl) (fun d _ _ _ _ h => by cases d <;> exact h) hS 14 (some 80) _ rfl (v := ?_) (by kernel_rfl) ?_ ?_
              rotate_left
              · intro w9 hS9; have q := cell_below hS9 ck1; go_simp; first | done | with_reducible rfl
              simp only [Act.put, List.setIfInBounds_toArray, List.set_cons_zero, List.set_cons_succ]
              refine hTake (by kernel_rfl) (fun d _ _ _ _ h => by cases d <;> exact h) hS 15 (some 81) _ rfl (v := ?_) (by kernel_rfl) ?_ ?_
              rotate_left
              · intro _ _; go_simp; first | done | with_reducible rfl
              simp only [Act.put, List.setIfInBounds_toArray, List.set_cons_zero, List.set_cons_succ]
              refine hTake (by kernel_rfl) (fun d _ _ _ _ h => by cases d <;> exact h) hS 16 (some 82) _ rfl (v := ?_) (by kernel_rfl) ?_ ?_
              rotate_left
              · intro w9 hS9; have q := cell_below hS9 q1; go_simp; first | done | with_reducible rfl
              simp only [Act.put, List.setIfInBounds_toArray, List.set_cons_zero, List.set_cons_succ]
              refine hTake (by kernel_rfl) (fun d _ _ _ _ h => by cases d <;> exact h) hS 17 (some 83) _ rfl (v := ?_) (by kernel_rfl) ?_ ?_
              rotate_left
              · intro _ _; go_simp; first | done | with_reducible rfl
              simp only [Act.put, List.setIfInBounds_toArray, List.set_cons_zero, List.set_cons_succ]
              refine hTake (by kernel_rfl) (fun d _ _ _ _ h => by cases d <;> exact h) hS 18 (some 84) _ rfl (v := ?_) (by kernel_rfl) ?_ ?_
              rotate_left
              · intro _ _; go_simp; first | done | with_reducible rfl
              simp only [Act.put, List.setIfInBounds_toArray, List.set_cons_zero, List.set_cons_succ]
              refine hTake (by kernel_rfl) (fun d _ _ _ _ h => by cases d <;> exact h) hS 19 (some 85) _ rfl (v := ?_) (by kernel_rfl) ?_ ?_
              rotate_left
              · intro _ _; go_simp; first | done | with_reducible rfl
              simp only [Act.put, List.setIfInBounds_toArray, List.set_cons_zero, List.set_cons_succ]
              refine hTake (by kernel_rfl) (fun d _ _ _ _ h => by cases d <;> exact h) hS 20 (some 86) _ rfl (v := ?_) (by kernel_rfl) ?_ ?_
              rotate_left
              · intro _ _; go_simp; first | done | with_reducible rfl
              simp only [Act.put, List.setIfInBounds_toArray, List.set_cons_zero, List.set_cons_succ]
              refine hTake (by kernel_rfl) (fun d _ _ _ _ h => by cases d <;> exact h) hS 21 (some 87) _ rfl (v := ?_) (by kernel_rfl) ?_ ?_
              rotate_left
              · intro _ _; go_simp; first | done | with_reducible rfl
              simp only [Act.put, List.setIfInBounds_toArray, List.set_cons_zero, List.set_cons_succ]
              refine hTake (by kernel_rfl) (fun d _ _ _ _ h => by cases d <;> exact h) hS 22 (some 88) _ rfl (v := ?_) (by kernel_rfl) ?_ ?_
              rotate_left
              · intro _ _; go_simp; first | done | with_reducible rfl
              simp only [Act.put, List.setIfInBounds_toArray, List.set_cons_zero, List.set_cons_succ]
              refine hTake (by kernel_rfl) (fun d _ _ _ _ h => by cases d <;> exact h) hS 23 (some 89) _ rfl (v := ?_) (by kernel_rfl) ?_ ?_
              rotate_left
              · intro w9 hS9; have q := cell_below hS9 ck3; go_simp; first | done | with_reducible rfl
              simp only [Act.put, List.setIfInBounds_toArray, List.set_cons_zero, List.set_cons_succ]
              refine hTake (by kernel_rfl) (fun d _ _ _ _ h => by cases d <;> exact h) hS 24 (some 90) _ rfl (v := ?_) (by kernel_rfl) ?_ ?_
              rotate_left
              · intro _ _; go_simp; first | done | with_reducible rfl
              simp only [Act.put, List.setIfInBounds_toArray, List.set_cons_zero, List.set_cons_succ]
              refine hTake (by kernel_rfl) (fun d _ _ _ _ h => by cases d <;> exact h) hS 25 (some 91) _ rfl (v := ?_) (by kernel_rfl) ?_ ?_
              rotate_left
              · intro w9 hS9; have q := cell_below hS9 q3; go_simp; first | done | with_reducible rfl
              simp only [Act.put, List.setIfInBounds_toArray, List.set_cons_zero, List.set_cons_succ]
              refine hTake (by kernel_rfl) (fun d _ _ _ _ h => by cases d <;> exact h) hS 26 (some 92) _ rfl (v := ?_) (by kernel_rfl) ?_ ?_
              rotate_left
              · intro _ _; go_simp; first | done | with_reducible rfl
              simp only [Act.put, List.setIfInBounds_toArray, List.set_cons_zero, List.set_cons_succ]
              refine hTake (by kernel_rfl) (fun d _ _ _ _ h => by cases d <;> exact h) hS 27 (some 93) _ rfl (v := ?_) (by kernel_rfl) ?_ ?_
              rotate_left
              · intro _ _; go_simp; first | done | with_reducible rfl
              simp only [Act.put, List.setIfInBounds_toArray, List.set_cons_zero, List.set_cons_succ]
              refine hTake (by kernel_rfl) (fun d _ _ _ _ h => by cases d <;> exact h) hS 28 (some 94) _ rfl (v := ?_) (by kernel_rfl) ?_ ?_
              rotate_left
              · intro _ _; go_simp; first | done | with_reducible rfl
              simp only [Act.put, List.setIfInBounds_toArray, List.set_cons_zero, List.set_cons_succ]
              refine hTake (by kernel_rfl) (fun d _ _ _ _ h => by cases d <;> exact h) hS 29 (some 95) _ rfl (v := ?_) (by kernel_rfl) ?_ ?_
              rotate_left
              · intro _ _; go_simp; first | done | with_reducible rfl
              simp only [Act.put, List.setIfInBounds_toArray, List.set_cons_zero, List.set_cons_succ]
              refine hTake (by kernel_rfl) (fun d _ _ _ _ h => by cases d <;> exact h) hS 30 (some 96) _ rfl (v := ?_) (by kernel_rfl) ?_ ?_
              rotate_left
              · intro _ _; go_simp; first | done | with_reducible rfl
              simp only [Act.put, List.setIfInBounds_toArray, List.set_cons_zero, List.set_cons_succ]
              refine hTake (by kernel_rfl) (fun d _ _ _ _ h => by cases d <;> exact h) hS 31 (some 97) _ rfl (v := ?_) (by kernel_rfl) ?_ ?_
              rotate_left
              · intro _ _; go_simp; first | done | with_reducible rfl
              simp only [Act.put, List.setIfInBounds_toArray, List.set_cons_zero, List.set_cons_succ]
              refine hTake (by kernel_rfl) (fun d _ _ _ _ h => by cases d <;> exact h) hS 32 (some 98) _ rfl (v := ?_) (by kernel_rfl) ?_ ?_
              rotate_left
              · intro _ _; go_simp; first | done | with_reducible rfl
              simp only [Act.put, List.setIfInBounds_toArray, List.set_cons_zero, List.set_cons_succ]
              refine hTake (by kernel_rfl) (fun d _ _ _ _ h => by cases d <;> exact h) hS 33 (some 99) _ rfl (v := ?_) (by kernel_rfl) ?_ ?_
              rotate_left
              · intro _ _; go_simp; first | done | with_reducible rfl
              simp only [Act.put, List.setIfInBounds_toArray, List.set_cons_zero, List.set_cons_succ]
              refine hTake (by kernel_rfl) (fun d _ _ _ _ h => by cases d <;> exact h) hS 34 (some 100) _ rfl (v := ?_) (by kernel_rfl) ?_ ?_
              rotate_left
              · intro _ _; go_simp; first | done | with_reducible rfl
              simp only [Act.put, List.setIfInBounds_toArray, List.set_cons_zero, List.set_cons_succ]
              refine hTake (by kernel_rfl) (fun d _ _ _ _ h => by cases d <;> exact h) hS 35 (some 101) _ rfl (v := ?_) (by kernel_rfl) ?_ ?_
              rotate_left
              · intro w9 hS9; have q := cell_below hS9 ckp; go_simp; first | done | with_reducible rfl
              simp only [Act.put, List.setIfInBounds_toArray, List.set_cons_zero, List.set_cons_succ]
              refine hTake (by kernel_rfl) (fun d _ _ _ _ h => by cases d <;> exact h) hS 36 (some 102) _ rfl (v := ?_) (by kernel_rfl) ?_ ?_
              rotate_left
              · intro _ _; go_simp; first | done | with_reducible rfl
              simp only [Act.put, List.setIfInBounds_toArray, List.set_cons_zero, List.set_cons_succ]
              refine hTake (by kernel_rfl) (fun d _ _ _ _ h => by cases d <;> exact h) hS 37 (some 103) _ rfl (v := ?_) (by kernel_rfl) ?_ ?_
              rotate_left
              · intro _ _; go_simp; first | done | with_reducible rfl
              simp only [Act.put, List.setIfInBounds_toArray, List.set_cons_zero, List.set_cons_succ]
              refine hSkips (by kernel_rfl) (fun d _ _ _ _ h => by cases d <;> exact h) hS [38, 39, 40, 41, 42, 43, 44, 45, 46, 47, 48, 49, 50, 51, 52, 53, 54, 55] [some 104, some 105, some 106, some 107, some 108, some 109, some 110, some 111, some 112, some 113, some 114, some 115, some 116, some 117, some 118, some 119, some 120, some 121] (by kernel_rfl) ?_
              simp only [putUndef, listAll, List.foldl_cons, List.foldl_nil, Act.put, List.setIfInBounds_toArray, List.set_cons_zero, List.set_cons_succ]
              refine hTake (by kernel_rfl) (fun d _ _ _ _ h => by cases d <;> exact h) hS 56 (some 122) _ rfl (v := ?_) (by kernel_rfl) ?_ ?_
              rotate_left
              · intro _ _; go_simp; first | done | with_reducible rfl
              simp only [Act.put, List.setIfInBounds_toArray, List.set_cons_zero, List.set_cons_succ]
              refine hTake (by kernel_rfl) (fun d _ _ _ _ h => by cases d <;> exact h) hS 57 (some 123) _ rfl (v := ?_) (by kernel_rfl) ?_ ?_
              rotate_left
              · intro _ _; go_simp; first | done | with_reducible rfl
              simp only [Act.put, List.setIfInBounds_toArray, List.set_cons_zero, List.set_cons_succ]
              refine wpAnyH_done (by kernel_rfl) ?_ _
              have HB6 := Lib.hid (after hb1 hS (Nat.le_refl _))
              have HR6 := Lib.hid (HRX.out _ hS)
              have HT6 := Lib.hid (HTX.out _ hS)
              clear hS hb1 q0 q1 q2 q3 ckp ck0 ck1 ck2 ck3 HRX HTX
              go_wp2
              go_roundw
              case rel => exact ⟨k + 1, by go_num, by omega, by omega, HT6.out, HR6.out, HB6.out⟩
              case measure => simp [intOf]; omega
            · have e2 : ((bx l p).kind == 2) = false := beq_eq_false_iff_ne.2 hk2
              have e3 : ((bx l p).kind != 2) = true := by rw [bne_iff_ne]; exact hk2
              obtain ⟨ex, ew⟩ := HCR.out.2 hk2
              rw [ex] at ck0
              rw [ew] at ck2
              clear hk2 ex ew HCR
              go_upto_region 12 with fail
              refine wp_region_held_drew (S := fun w' => Below W7.heap.size W7 w') (by kernel_rfl) (Below.refl _ _).drew (fun hS => ?_)
              change wpAnyH _ _ _ _ _ _ _ _ W7.drew
              generalize W7.drew = we at *
              refine hTake (by kernel_rfl) (fun d _ _ _ _ h => by cases d <;> exact h) hS 0 (some 66) _ rfl (v := ?_) (by kernel_rfl) ?_ ?_
              rotate_left
              · intro _ _; go_simp; first | done | with_reducible rfl
              simp only [Act.put, List.setIfInBounds_toArray, List.set_cons_zero, List.set_cons_succ]
              refine hTake (by kernel_rfl) (fun d _ _ _ _ h => by cases d <;> exact h) hS 1 (some 67) _ rfl (v := ?_) (by kernel_rfl) ?_ ?_
              rotate_left
              · intro _ _; go_simp; first | done | with_reducible rfl
              simp only [Act.put, List.setIfInBounds_toArray, List.set_cons_zero, List.set_cons_succ]
              refine hTake (by kernel_rfl) (fun d _ _ _ _ h => by cases d <;> exact h) hS 2 (some 68) _ rfl (v := ?_) (by kernel_rfl) ?_ ?_
              rotate_left
              · intro _ _; go_simp; first | done | with_reducible rfl
              simp only [Act.put, List.setIfInBounds_toArray, List.set_cons_zero, List.set_cons_succ]
              refine hTake (by kernel_rfl) (fun d _ _ _ _ h => by cases d <;> exact h) hS 3 (some 69) _ rfl (v := ?_) (by kernel_rfl) ?_ ?_
              rotate_left
              · intro _ _; go_simp; first | done | with_reducible rfl
              simp only [Act.put, List.setIfInBounds_toArray, List.set_cons_zero, List.set_cons_succ]
              refine hTake (by kernel_rfl) (fun d _ _ _ _ h => by cases d <;> exact h) hS 4 (some 70) _ rfl (v := ?_) (by kernel_rfl) ?_ ?_
              rotate_left
              · intro _ _; go_simp; first | done | with_reducible rfl
              simp only [Act.put, List.setIfInBounds_toArray, List.set_cons_zero, List.set_cons_succ]
              refine hTake (by kernel_rfl) (fun d _ _ _ _ h => by cases d <;> exact h) hS 5 (some 71) _ rfl (v := ?_) (by kernel_rfl) ?_ ?_
              rotate_left
              · intro _ _; go_simp; first | done | with_reducible rfl
              simp only [Act.put, List.setIfInBounds_toArray, List.set_cons_zero, List.set_cons_succ]
              refine hTake (by kernel_rfl) (fun d _ _ _ _ h => by cases d <;> exact h) hS 6 (some 72) _ rfl (v := ?_) (by kernel_rfl) ?_ ?_
              rotate_left
              · intro _ _; go_simp; first | done | with_reducible rfl
              simp only [Act.put, List.setIfInBounds_toArray, List.set_cons_zero, List.set_cons_succ]
              refine hTake (by kernel_rfl) (fun d _ _ _ _ h => by cases d <;> exact h) hS 7 (some 73) _ rfl (v := ?_) (by kernel_rfl) ?_ ?_
              rotate_left
              · intro w9 hS9; have q := cell_below hS9 ckp; go_simp; first | done | with_reducible rfl
              simp only [Act.put, List.setIfInBounds_toArray, List.set_cons_zero, List.set_cons_succ]
              refine hTake (by kernel_rfl) (fun d _ _ _ _ h => by cases d <;> exact h) hS 8 (some 74) _ rfl (v := ?_) (by kernel_rfl) ?_ ?_
              rotate_left
              · intro _ _; go_simp; first | done | with_reducible rfl
              simp only [Act.put, List.setIfInBounds_toArray, List.set_cons_zero, List.set_cons_succ]
              refine hTake (by kernel_rfl) (fun d _ _ _ _ h => by cases d <;> exact h) hS 9 (some 75) _ rfl (v := ?_) (by kernel_rfl) ?_ ?_
              rotate_left
              · intro _ _; go_simp; first | done | with_reducible rfl
              simp only [Act.put, List.setIfInBounds_toArray, List.set_cons_zero, List.set_cons_succ]
              refine hSkips (by kernel_rfl) (fun d _ _ _ _ h => by cases d <;> exact h) hS [10, 11, 12, 13, 14, 15, 16, 17, 18, 19, 20, 21, 22, 23, 24, 25, 26, 27] [some 76, some 77, some 78, some 79, some 80, some 81, some 82, some 83, some 84, some 85, some 86, some 87, some 88, some 89, some 90, some 91, some 92, some 93] (by kernel_rfl) ?_
              simp only [putUndef, listAll, List.foldl_cons, List.foldl_nil, Act.put, List.setIfInBounds_toArray, List.set_cons_zero, List.set_cons_succ]
              refine hTake (by kernel_rfl) (fun d _ _ _ _ h => by cases d <;> exact h) hS 28 (some 94) _ rfl (v := ?_) (by kernel_rfl) ?_ ?_
              rotate_left
              · intro _ _; go_simp; first | done | with_reducible rfl
              simp only [Act.put, List.setIfInBounds_toArray, List.set_cons_zero, List.set_cons_succ]
              refine hTake (by kernel_rfl) (fun d _ _ _ _ h => by cases d <;> exact h) hS 29 (some 95) _ rfl (v := ?_) (by kernel_rfl) ?_ ?_
              rotate_left
              · intro _ _; go_simp; first | done | with_reducible rfl
              simp only [Act.put, List.setIfInBounds_toArray, List.set_cons_zero, List.set_cons_succ]
              refine hTake (by kernel_rfl) (fun d _ _ _ _ h => by cases d <;> exact h) hS 30 (some 96) _ rfl (v := ?_) (by kernel_rfl) ?_ ?_
              rotate_left
              · intro _ _; go_simp; first | done | with_reducible rfl
              simp only [Act.put, List.setIfInBounds_toArray, List.set_cons_zero, List.set_cons_succ]
              refine hTake (by kernel_rfl) (fun d _ _ _ _ h => by cases d <;> exact h) hS 31 (some 97) _ rfl (v := ?_) (by kernel_rfl) ?_ ?_
              rotate_left
              · intro _ _; go_simp; first | done | with_reducible rfl
              simp only [Act.put, List.setIfInBounds_toArray, List.set_cons_zero, List.set_cons_succ]
              refine hTake (by kernel_rfl) (fun d _ _ _ _ h => by cases d <;> exact h) hS 32 (some 98) _ rfl (v := ?_) (by kernel_rfl) ?_ ?_
              rotate_left
              · intro _ _; go_simp; first | done | with_reducible rfl
              simp only [Act.put, List.setIfInBounds_toArray, List.set_cons_zero, List.set_cons_succ]
              refine hTake (by kernel_rfl) (fun d _ _ _ _ h => by cases d <;> exact h) hS 33 (some 99) _ rfl (v := ?_) (by kernel_rfl) ?_ ?_
              rotate_left
              · intro _ _; go_simp; first | done | with_reducible rfl
              simp only [Act.put, List.setIfInBounds_toArray, List.set_cons_zero, List.set_cons_succ]
              refine hTake (by kernel_rfl) (fun d _ _ _ _ h => by cases d <;> exact h) hS 34 (some 100) _ rfl (v := ?_) (by kernel_rfl) ?_ ?_
              rotate_left
              · intro _ _; go_simp; first | done | with_reducible rfl
              simp only [Act.put, List.setIfInBounds_toArray, List.set_cons_zero, List.set_cons_succ]
              refine hTake (by kernel_rfl) (fun d _ _ _ _ h => by cases d <;> exact h) hS 35 (some 101) _ rfl (v := ?_) (by kernel_rfl) ?_ ?_
              rotate_left
              · intro w9 hS9; have q := cell_below hS9 ckp; go_simp; first | done | with_reducible rfl
              simp only [Act.put, List.setIfInBounds_toArray, List.set_cons_zero, List.set_cons_succ]
              refine hTake (by kernel_rfl) (fun d _ _ _ _ h => by cases d <;> exact h) hS 36 (some 102) _ rfl (v := ?_) (by kernel_rfl) ?_ ?_
              rotate_left
              · intro _ _; go_simp; first | done | with_reducible rfl
              simp only [Act.put, List.setIfInBounds_toArray, List.set_cons_zero, List.set_cons_succ]
              refine hTake (by kernel_rfl) (fun d _ _ _ _ h => by cases d <;> exact h) hS 37 (some 103) _ rfl (v := ?_) (by kernel_rfl) ?_ ?_
              rotate_left
              · intro _ _; go_simp; first | done | with_reducible rfl
              simp only [Act.put, List.setIfInBounds_toArray, List.set_cons_zero, List.set_cons_succ]
              refine hTake (by kernel_rfl) (fun d _ _ _ _ h => by cases d <;> exact h) hS 38 (some 104) _ rfl (v := ?_) (by kernel_rfl) ?_ ?_
              rotate_left
              · intro _ _; go_simp; first | done | with_reducible rfl
              simp only [Act.put, List.setIfInBounds_toArray, List.set_cons_zero, List.set_cons_succ]
              refine hTake (by kernel_rfl) (fun d _ _ _ _ h => by cases d <;> exact h) hS 39 (some 105) _ rfl (v := ?_) (by kernel_rfl) ?_ ?_
              rotate_left
              · intro _ _; go_simp; first | done | with_reducible rfl
              simp only [Act.put, List.setIfInBounds_toArray, List.set_cons_zero, List.set_cons_succ]
              refine hTake (by kernel_rfl) (fun d _ _ _ _ h => by cases d <;> exact h) hS 40 (some 106) _ rfl (v := ?_) (by kernel_rfl) ?_ ?_
              rotate_left
              · intro _ _; go_simp; first | done | with_reducible rfl
              simp only [Act.put, List.setIfInBounds_toArray, List.set_cons_zero, List.set_cons_succ]
              refine hTake (by kernel_rfl) (fun d _ _ _ _ h => by cases d <;> exact h) hS 41 (some 107) _ rfl (v := ?_) (by kernel_rfl) ?_ ?_
              rotate_left
              · intro _ _; go_simp; first | done | with_reducible rfl
              simp only [Act.put, List.setIfInBounds_toArray, List.set_cons_zero, List.set_cons_succ]
              refine hTake (by kernel_rfl) (fun d _ _ _ _ h => by cases d <;> exact h) hS 42 (some 108) _ rfl (v := ?_) (by kernel_rfl) ?_ ?_
              rotate_left
              · intro w9 hS9; have q := cell_below hS9 ck0; go_simp; first | done | with_reducible rfl
              simp only [Act.put, List.setIfInBounds_toArray, List.set_cons_zero, List.set_cons_succ]
              refine hTake (by kernel_rfl) (fun d _ _ _ _ h => by cases d <;> exact h) hS 43 (some 109) _ rfl (v := ?_) (by kernel_rfl) ?_ ?_
              rotate_left
              · intro _ _; go_simp; first | done | with_reducible rfl
              simp only [Act.put, List.setIfInBounds_toArray, List.set_cons_zero, List.set_cons_succ]
              refine hTake (by kernel_rfl) (fun d _ _ _ _ h => by cases d <;> exact h) hS 44 (some 110) _ rfl (v := ?_) (by kernel_rfl) ?_ ?_
              rotate_left
              · intro w9 hS9; have q := cell_below hS9 q0; go_simp; first | done | with_reducible rfl
              simp only [Act.put, List.setIfInBounds_toArray, List.set_cons_zero, List.set_cons_succ]
              refine hTake (by kernel_rfl) (fun d _ _ _ _ h => by cases d <;> exact h) hS 45 (some 111) _ rfl (v := ?_) (by kernel_rfl) ?_ ?_
              rotate_left
              · intro _ _; go_simp; first | done | with_reducible rfl
              simp only [Act.put, List.setIfInBounds_toArray, List.set_cons_zero, List.set_cons_succ]
              refine hTake (by kernel_rfl) (fun d _ _ _ _ h => by cases d <;> exact h) hS 46 (some 112) _ rfl (v := ?_) (by kernel_rfl) ?_ ?_
              rotate_left
              · intro _ _; go_simp; first | done | with_reducible rfl
              simp only [Act.put, List.setIfInBounds_toArray, List.set_cons_zero, List.set_cons_succ]
              refine hTake (by kernel_rfl) (fun d _ _ _ _ h => by cases d <;> exact h) hS 47 (some 113) _ rfl (v := ?_) (by kernel_rfl) ?_ ?_
              rotate_left
              · intro _ _; go_simp; first | done | with_reducible rfl
              simp only [Act.put, List.setIfInBounds_toArray, List.set_cons_zero, List.set_cons_succ]
              refine hTake (by kernel_rfl) (fun d _ _ _ _ h => by cases d <;> exact h) hS 48 (some 114) _ rfl (v := ?_) (by kernel_rfl) ?_ ?_
              rotate_left
              · intro _ _; go_simp; first | done | with_reducible rfl
              simp only [Act.put, List.setIfInBounds_toArray, List.set_cons_zero, List.set_cons_succ]
              refine hTake (by kernel_rfl) (fun d _ _ _ _ h => by cases d <;> exact h) hS 49 (some 115) _ rfl (v := ?_) (by kernel_rfl) ?_ ?_
              rotate_left
              · intro _ _; go_simp; first | done | with_reducible rfl
              simp only [Act.put, List.setIfInBounds_toArray, List.set_cons_zero, List.set_cons_succ]
              refine hTake (by kernel_rfl) (fun d _ _ _ _ h => by cases d <;> exact h) hS 50 (some 116) _ rfl (v := ?_) (by kernel_rfl) ?_ ?_
              rotate_left
              · intro _ _; go_simp; first | done | with_reducible rfl
              simp only [Act.put, List.setIfInBounds_toArray, List.set_cons_zero, List.set_cons_succ]
              refine hTake (by kernel_rfl) (fun d _ _ _ _ h => by cases d <;> exact h) hS 51 (some 117) _ rfl (v := ?_) (by kernel_rfl) ?_ ?_
              rotate_left
              · intro w9 hS9; have q := cell_below hS9 ck2; go_simp; first | done | with_reducible rfl
              simp only [Act.put, List.setIfInBounds_toArray, List.set_cons_zero, List.set_cons_succ]
              refine hTake (by kernel_rfl) (fun d _ _ _ _ h => by cases d <;> exact h) hS 52 (some 118) _ rfl (v := ?_) (by kernel_rfl) ?_ ?_
              rotate_left
              · intro _ _; go_simp; first | done | with_reducible rfl
              simp only [Act.put, List.setIfInBounds_toArray, List.set_cons_zero, List.set_cons_succ]
              refine hTake (by kernel_rfl) (fun d _ _ _ _ h => by cases d <;> exact h) hS 53 (some 119) _ rfl (v := ?_) (by kernel_rfl) ?_ ?_
              rotate_left
              · intro w9 hS9; have q := cell_below hS9 q2; go_simp; first | done | with_reducible rfl
              simp only [Act.put, List.setIfInBounds_toArray, List.set_cons_zero, List.set_cons_succ]
              refine hTake (by kernel_rfl) (fun d _ _ _ _ h => by cases d <;> exact h) hS 54 (some 120) _ rfl (v := ?_) (by kernel_rfl) ?_ ?_
              rotate_left
              · intro _ _; go_simp; first | done | with_reducible rfl
              simp only [Act.put, List.setIfInBounds_toArray, List.set_cons_zero, List.set_cons_succ]
              refine hTake (by kernel_rfl) (fun d _ _ _ _ h => by cases d <;> exact h) hS 55 (some 121) _ rfl (v := ?_) (by kernel_rfl) ?_ ?_
              rotate_left
              · intro _ _; go_simp; first | done | with_reducible rfl
              simp only [Act.put, List.setIfInBounds_toArray, List.set_cons_zero, List.set_cons_succ]
              refine hTake (by kernel_rfl) (fun d _ _ _ _ h => by cases d <;> exact h) hS 56 (some 122) _ rfl (v := ?_) (by kernel_rfl) ?_ ?_
              rotate_left
              · intro _ _; go_simp; first | done | with_reducible rfl
              simp only [Act.put, List.setIfInBounds_toArray, List.set_cons_zero, List.set_cons_succ]
              refine hTake (by kernel_rfl) (fun d _ _ _ _ h => by cases d <;> exact h) hS 57 (some 123) _ rfl (v := ?_) (by kernel_rfl) ?_ ?_
              rotate_left
              · intro _ _; go_simp; first | done | with_reducible rfl
              simp only [Act.put, List.setIfInBounds_toArray, List.set_cons_zero, List.set_cons_succ]
              refine wpAnyH_done (by kernel_rfl) ?_ _
              have HB6 := Lib.hid (after hb1 hS (Nat.le_refl _))
              have HR6 := Lib.hid (HRX.out _ hS)
              have HT6 := Lib.hid (HTX.out _ hS)
              clear hS hb1 q0 q1 q2 q3 ckp ck0 ck1 ck2 ck3 HRX HTX
              go_wp2
              go_roundw
              case rel => exact ⟨k + 1, by go_num, by omega, by omega, HT6.out, HR6.out, HB6.out⟩
              case measure => simp [intOf]; omega
          · go_simp
            have kZ := Keep.new wd (.cells #[.int .i64 0, .int .i64 0, .int .i64 0, .int .i64 0] 35)
            have hgw := hS.size
            refine hK9.out _ _ (hS.alloc hS.size _) (fun hS => ?_)
            clear hK9 K9
            try simp only [Act.put, List.setIfInBounds_toArray, List.set_cons_zero, List.set_cons_succ]
            generalize wd.alloc (.cells #[.int .i64 0, .int .i64 0, .int .i64 0, .int .i64 0] 35) = we at *
            generalize wd.heap.size = gQ at *
            refine wpAnyH_ready (rs := [9]) (by kernel_rfl) (by simp) ?_
            refine AllReadyH.cons (o := _) rfl (fun K9 hK9 => ?_) AllReadyH.nil
            go_simp
            refine ((HIN.out _)).mono ?_
            rintro e w7 ⟨rfl, hx7⟩
            unfold Rc.agg
            try go_wp2_with fail
            replace kZ := keepE kZ hx7
            refine hK9.out _ _ (after hS hx7 (Nat.le_refl _)) (fun hS => ?_)
            clear hK9 K9
            try simp only [Act.put, List.setIfInBounds_toArray, List.set_cons_zero, List.set_cons_succ]
            clear hx7
            refine hTake (by kernel_rfl) (fun d _ _ _ _ h => by cases d <;> exact h) hS 10 (some 53) _ rfl (v := ?_) (by kernel_rfl) ?_ ?_
            rotate_left
            · intro _ _; go_simp; first | done | with_reducible rfl
            simp only [Act.put, List.setIfInBounds_toArray, List.set_cons_zero, List.set_cons_succ]
            refine hTake (by kernel_rfl) (fun d _ _ _ _ h => by cases d <;> exact h) hS 11 (some 64) _ rfl (v := ?_) (by kernel_rfl) ?_ ?_
            rotate_left
            · intro _ _; go_simp; first | done | with_reducible rfl
            simp only [Act.put, List.setIfInBounds_toArray, List.set_cons_zero, List.set_cons_succ]
            refine hTake (by kernel_rfl) (fun d _ _ _ _ h => by cases d <;> exact h) hS 12 (some 65) _ rfl (v := ?_) (by kernel_rfl) ?_ ?_
            rotate_left
            · intro _ _; go_simp; first | done | with_reducible rfl
            simp only [Act.put, List.setIfInBounds_toArray, List.set_cons_zero, List.set_cons_succ]
            have z0 := kZ.cell 0
            have z1 := kZ.cell 1
            have z2 := kZ.cell 2
            have z3 := kZ.cell 3
            have f0 := kZ.frozen 0
            have f1 := kZ.frozen 1
            have f2 := kZ.frozen 2
            have f3 := kZ.frozen 3
            have kQ := keep_rect kZ rfl (.int .i64 q.x) (.int .i64 q.y) (.int .i64 q.w) (.int .i64 q.h)
            refine wpAnyH_ready (rs := [14]) (by kernel_rfl) (by simp) ?_
            refine AllReadyH.cons (o := _) rfl (fun K9 hK9 => ?_) AllReadyH.nil
            go_simp
            refine hK9.out _ _ (below_set4' hS hgw _ _ _ _) (fun hS => ?_)
            clear hK9 K9
            try simp only [Act.put, List.setIfInBounds_toArray, List.set_cons_zero, List.set_cons_succ]
            clear z0 z1 z2 z3 f0 f1 f2 f3 kZ hgw
            generalize (((w7.setCell ⟨gQ, 0, none⟩ (.int .i64 q.x)).setCell ⟨gQ, 1, none⟩ (.int .i64 q.y)).setCell ⟨gQ, 2, none⟩ (.int .i64 q.w)).setCell ⟨gQ, 3, none⟩ (.int .i64 q.h) = W7 at *
            refine hTake (by kernel_rfl) (fun d _ _ _ _ h => by cases d <;> exact h) hS 15 (some 10) _ rfl (v := ?_) (by kernel_rfl) ?_ ?_
            rotate_left
            · intro _ _; go_simp; first | done | with_reducible rfl
            simp only [Act.put, List.setIfInBounds_toArray, List.set_cons_zero, List.set_cons_succ]
            refine wpAnyH_done (by kernel_rfl) ?_ _
            have q0 : W7.cell? ⟨gQ, 0, none⟩ = some (.int .i64 q.x) := kQ.cell 0
            have q1 : W7.cell? ⟨gQ, 1, none⟩ = some (.int .i64 q.y) := kQ.cell 1
            have q2 : W7.cell? ⟨gQ, 2, none⟩ = some (.int .i64 q.w) := kQ.cell 2
            have q3 : W7.cell? ⟨gQ, 3, none⟩ = some (.int .i64 q.h) := kQ.cell 3
            have hb1 := after hb hS (Nat.le_refl _)
            have hR7 := HRR.out.below hS (Nat.le_refl _)
            have hT7 := HTT.out.below hS (Nat.le_refl _)
            obtain ⟨_, ckp, _⟩ := cells_at hpl hT7
            obtain ⟨ck0, ck1, ck2, ck3⟩ := hR7.cs k hlt
            have HRX := Lib.hid (fun w9 (h : Below W7.heap.size W7 w9) => hR7.below h (Nat.le_refl _))
            have HTX := Lib.hid (fun w9 (h : Below W7.heap.size W7 w9) => hT7.below h (Nat.le_refl _))
            have HCR := Lib.hid hcr
            clear hS hb hR7 hT7 kQ hcr HRR HTT HRC9
            generalize rect l sw sh k = r at *
            by_cases hk2 : (bx l p).kind = 2
            · have e2 : ((bx l p).kind == 2) = true := by rw [hk2]; rfl
              have e3 : ((bx l p).kind != 2) = false := by rw [hk2]; rfl
              obtain ⟨ey, eh⟩ := HCR.out.1 hk2
              rw [ey] at ck1
              rw [eh] at ck3
              clear hk2 ey eh HCR
              go_upto_region 12 with fail
              refine wp_region_held_drew (S := fun w' => Below W7.heap.size W7 w') (by kernel_rfl) (Below.refl _ _).drew (fun hS => ?_)
              change wpAnyH _ _ _ _ _ _ _ _ W7.drew
              generalize W7.drew = we at *
              refine hTake (by kernel_rfl) (fun d _ _ _ _ h => by cases d <;> exact h) hS 0 (some 66) _ rfl (v := ?_) (by kernel_rfl) ?_ ?_
              rotate_left
              · intro _ _; go_simp; first | done | with_reducible rfl
              simp only [Act.put, List.setIfInBounds_toArray, List.set_cons_zero, List.set_cons_succ]
              refine hTake (by kernel_rfl) (fun d _ _ _ _ h => by cases d <;> exact h) hS 1 (some 67) _ rfl (v := ?_) (by kernel_rfl) ?_ ?_
              rotate_left
              · intro _ _; go_simp; first | done | with_reducible rfl
              simp only [Act.put, List.setIfInBounds_toArray, List.set_cons_zero, List.set_cons_succ]
              refine hTake (by kernel_rfl) (fun d _ _ _ _ h => by cases d <;> exact h) hS 2 (some 68) _ rfl (v := ?_) (by kernel_rfl) ?_ ?_
              rotate_left
              · intro _ _; go_simp; first | done | with_reducible rfl
              simp only [Act.put, List.setIfInBounds_toArray, List.set_cons_zero, List.set_cons_succ]
              refine hTake (by kernel_rfl) (fun d _ _ _ _ h => by cases d <;> exact h) hS 3 (some 69) _ rfl (v := ?_) (by kernel_rfl) ?_ ?_
              rotate_left
              · intro _ _; go_simp; first | done | with_reducible rfl
              simp only [Act.put, List.setIfInBounds_toArray, List.set_cons_zero, List.set_cons_succ]
              refine hTake (by kernel_rfl) (fun d _ _ _ _ h => by cases d <;> exact h) hS 4 (some 70) _ rfl (v := ?_) (by kernel_rfl) ?_ ?_
              rotate_left
              · intro _ _; go_simp; first | done | with_reducible rfl
              simp only [Act.put, List.setIfInBounds_toArray, List.set_cons_zero, List.set_cons_succ]
              refine hTake (by kernel_rfl) (fun d _ _ _ _ h => by cases d <;> exact h) hS 5 (some 71) _ rfl (v := ?_) (by kernel_rfl) ?_ ?_
              rotate_left
              · intro _ _; go_simp; first | done | with_reducible rfl
              simp only [Act.put, List.setIfInBounds_toArray, List.set_cons_zero, List.set_cons_succ]
              refine hTake (by kernel_rfl) (fun d _ _ _ _ h => by cases d <;> exact h) hS 6 (some 72) _ rfl (v := ?_) (by kernel_rfl) ?_ ?_
              rotate_left
              · intro _ _; go_simp; first | done | with_reducible rfl
              simp only [Act.put, List.setIfInBounds_toArray, List.set_cons_zero, List.set_cons_succ]
              refine hTake (by kernel_rfl) (fun d _ _ _ _ h => by cases d <;> exact h) hS 7 (some 73) _ rfl (v := ?_) (by kernel_rfl) ?_ ?_
              rotate_left
              · intro w9 hS9; have q := cell_below hS9 ckp; go_simp; first | done | with_reducible rfl
              simp only [Act.put, List.setIfInBounds_toArray, List.set_cons_zero, List.set_cons_succ]
              refine hTake (by kernel_rfl) (fun d _ _ _ _ h => by cases d <;> exact h) hS 8 (some 74) _ rfl (v := ?_) (by kernel_rfl) ?_ ?_
              rotate_left
              · intro _ _; go_simp; first | done | with_reducible rfl
              simp only [Act.put, List.setIfInBounds_toArray, List.set_cons_zero, List.set_cons_succ]
              refine hTake (by kernel_rfl) (fun d _ _ _ _ h => by cases d <;> exact h) hS 9 (some 75) _ rfl (v := ?_) (by kernel_rfl) ?_ ?_
              rotate_left
              · intro _ _; go_simp; first | done | with_reducible rfl
              simp only [Act.put, List.setIfInBounds_toArray, List.set_cons_zero, List.set_cons_succ]
              refine hTake (by kernel_rfl) (fun d _ _ _ _ h => by cases d <;> exact h) hS 10 (some 76) _ rfl (v := ?_) (by kernel_rfl) ?_ ?_
              rotate_left
              · intro _ _; go_simp; first | done | with_reducible rfl
              simp only [Act.put, List.setIfInBounds_toArray, List.set_cons_zero, List.set_cons_succ]
              refine hTake (by kernel_rfl) (fun d _ _ _ _ h => by cases d <;> exact h) hS 11 (some 77) _ rfl (v := ?_) (by kernel_rfl) ?_ ?_
              rotate_left
              · intro _ _; go_simp; first | done | with_reducible rfl
              simp only [Act.put, List.setIfInBounds_toArray, List.set_cons_zero, List.set_cons_succ]
              refine hTake (by kernel_rfl) (fun d _ _ _ _ h => by cases d <;> exact h) hS 12 (some 78) _ rfl (v := ?_) (by kernel_rfl) ?_ ?_
              rotate_left
              · intro _ _; go_simp; first | done | with_reducible rfl
              simp only [Act.put, List.setIfInBounds_toArray, List.set_cons_zero, List.set_cons_succ]
              refine hTake (by kernel_rfl) (fun d _ _ _ _ h => by cases d <;> exact h) hS 13 (some 79) _ rfl (v := ?_) (by kernel_rfl) ?_ ?_
              rotate_left
              · intro _ _; go_simp; first | done | with_reducible rfl
              simp only [Act.put, List.setIfInBounds_toArray, List.set_cons_zero, List.set_cons_succ]
              refine hTake (by kernel_rfl) (fun d _ _ _ _ h => by cases d <;> exact h) hS 14 (some 80) _ rfl (v := ?_) (by kernel_rfl) ?_ ?_
              rotate_left
              · intro w9 hS9; have q := cell_below hS9 ck1; go_simp; first | done | with_reducible rfl
              simp only [Act.put, List.setIfInBounds_toArray, List.set_cons_zero, List.set_cons_succ]
              refine hTake (by kernel_rfl) (fun d _ _ _ _ h => by cases d <;> exact h) hS 15 (some 81) _ rfl (v := ?_) (by kernel_rfl) ?_ ?_
              rotate_left
              · intro _ _; go_simp; first | done | with_reducible rfl
              simp only [Act.put, List.setIfInBounds_toArray, List.set_cons_zero, List.set_cons_succ]
              refine hTake (by kernel_rfl) (fun d _ _ _ _ h => by cases d <;> exact h) hS 16 (some 82) _ rfl (v := ?_) (by kernel_rfl) ?_ ?_
              rotate_left
              · intro w9 hS9; have q := cell_below hS9 q1; go_simp; first | done | with_reducible rfl
              simp only [Act.put, List.setIfInBounds_toArray, List.set_cons_zero, List.set_cons_succ]
              refine hTake (by kernel_rfl) (fun d _ _ _ _ h => by cases d <;> exact h) hS 17 (some 83) _ rfl (v := ?_) (by kernel_rfl) ?_ ?_
              rotate_left
              · intro _ _; go_simp; first | done | with_reducible rfl
              simp only [Act.put, List.setIfInBounds_toArray, List.set_cons_zero, List.set_cons_succ]
              refine hTake (by kernel_rfl) (fun d _ _ _ _ h => by cases d <;> exact h) hS 18 (some 84) _ rfl (v := ?_) (by kernel_rfl) ?_ ?_
              rotate_left
              · intro _ _; go_simp; first | done | with_reducible rfl
              simp only [Act.put, List.setIfInBounds_toArray, List.set_cons_zero, List.set_cons_succ]
              refine hTake (by kernel_rfl) (fun d _ _ _ _ h => by cases d <;> exact h) hS 19 (some 85) _ rfl (v := ?_) (by kernel_rfl) ?_ ?_
              rotate_left
              · intro _ _; go_simp; first | done | with_reducible rfl
              simp only [Act.put, List.setIfInBounds_toArray, List.set_cons_zero, List.set_cons_succ]
              refine hTake (by kernel_rfl) (fun d _ _ _ _ h => by cases d <;> exact h) hS 20 (some 86) _ rfl (v := ?_) (by kernel_rfl) ?_ ?_
              rotate_left
              · intro _ _; go_simp; first | done | with_reducible rfl
              simp only [Act.put, List.setIfInBounds_toArray, List.set_cons_zero, List.set_cons_succ]
              refine hTake (by kernel_rfl) (fun d _ _ _ _ h => by cases d <;> exact h) hS 21 (some 87) _ rfl (v := ?_) (by kernel_rfl) ?_ ?_
              rotate_left
              · intro _ _; go_simp; first | done | with_reducible rfl
              simp only [Act.put, List.setIfInBounds_toArray, List.set_cons_zero, List.set_cons_succ]
              refine hTake (by kernel_rfl) (fun d _ _ _ _ h => by cases d <;> exact h) hS 22 (some 88) _ rfl (v := ?_) (by kernel_rfl) ?_ ?_
              rotate_left
              · intro _ _; go_simp; first | done | with_reducible rfl
              simp only [Act.put, List.setIfInBounds_toArray, List.set_cons_zero, List.set_cons_succ]
              refine hTake (by kernel_rfl) (fun d _ _ _ _ h => by cases d <;> exact h) hS 23 (some 89) _ rfl (v := ?_) (by kernel_rfl) ?_ ?_
              rotate_left
              · intro w9 hS9; have q := cell_below hS9 ck3; go_simp; first | done | with_reducible rfl
              simp only [Act.put, List.setIfInBounds_toArray, List.set_cons_zero, List.set_cons_succ]
              refine hTake (by kernel_rfl) (fun d _ _ _ _ h => by cases d <;> exact h) hS 24 (some 90) _ rfl (v := ?_) (by kernel_rfl) ?_ ?_
              rotate_left
              · intro _ _; go_simp; first | done | with_reducible rfl
              simp only [Act.put, List.setIfInBounds_toArray, List.set_cons_zero, List.set_cons_succ]
              refine hTake (by kernel_rfl) (fun d _ _ _ _ h => by cases d <;> exact h) hS 25 (some 91) _ rfl (v := ?_) (by kernel_rfl) ?_ ?_
              rotate_left
              · intro w9 hS9; have q := cell_below hS9 q3; go_simp; first | done | with_reducible rfl
              simp only [Act.put, List.setIfInBounds_toArray, List.set_cons_zero, List.set_cons_succ]
              refine hTake (by kernel_rfl) (fun d _ _ _ _ h => by cases d <;> exact h) hS 26 (some 92) _ rfl (v := ?_) (by kernel_rfl) ?_ ?_
              rotate_left
              · intro _ _; go_simp; first | done | with_reducible rfl
              simp only [Act.put, List.setIfInBounds_toArray, List.set_cons_zero, List.set_cons_succ]
              refine hTake (by kernel_rfl) (fun d _ _ _ _ h => by cases d <;> exact h) hS 27 (some 93) _ rfl (v := ?_) (by kernel_rfl) ?_ ?_
              rotate_left
              · intro _ _; go_simp; first | done | with_reducible rfl
              simp only [Act.put, List.setIfInBounds_toArray, List.set_cons_zero, List.set_cons_succ]
              refine hTake (by kernel_rfl) (fun d _ _ _ _ h => by cases d <;> exact h) hS 28 (some 94) _ rfl (v := ?_) (by kernel_rfl) ?_ ?_
              rotate_left
              · intro _ _; go_simp; first | done | with_reducible rfl
              simp only [Act.put, List.setIfInBounds_toArray, List.set_cons_zero, List.set_cons_succ]
              refine hTake (by kernel_rfl) (fun d _ _ _ _ h => by cases d <;> exact h) hS 29 (some 95) _ rfl (v := ?_) (by kernel_rfl) ?_ ?_
              rotate_left
              · intro _ _; go_simp; first | done | with_reducible rfl
              simp only [Act.put, List.setIfInBounds_toArray, List.set_cons_zero, List.set_cons_succ]
              refine hTake (by kernel_rfl) (fun d _ _ _ _ h => by cases d <;> exact h) hS 30 (some 96) _ rfl (v := ?_) (by kernel_rfl) ?_ ?_
              rotate_left
              · intro _ _; go_simp; first | done | with_reducible rfl
              simp only [Act.put, List.setIfInBounds_toArray, List.set_cons_zero, List.set_cons_succ]
              refine hTake (by kernel_rfl) (fun d _ _ _ _ h => by cases d <;> exact h) hS 31 (some 97) _ rfl (v := ?_) (by kernel_rfl) ?_ ?_
              rotate_left
              · intro _ _; go_simp; first | done | with_reducible rfl
              simp only [Act.put, List.setIfInBounds_toArray, List.set_cons_zero, List.set_cons_succ]
              refine hTake (by kernel_rfl) (fun d _ _ _ _ h => by cases d <;> exact h) hS 32 (some 98) _ rfl (v := ?_) (by kernel_rfl) ?_ ?_
              rotate_left
              · intro _ _; go_simp; first | done | with_reducible rfl
              simp only [Act.put, List.setIfInBounds_toArray, List.set_cons_zero, List.set_cons_succ]
              refine hTake (by kernel_rfl) (fun d _ _ _ _ h => by cases d <;> exact h) hS 33 (some 99) _ rfl (v := ?_) (by kernel_rfl) ?_ ?_
              rotate_left
              · intro _ _; go_simp; first | done | with_reducible rfl
              simp only [Act.put, List.setIfInBounds_toArray, List.set_cons_zero, List.set_cons_succ]
              refine hTake (by kernel_rfl) (fun d _ _ _ _ h => by cases d <;> exact h) hS 34 (some 100) _ rfl (v := ?_) (by kernel_rfl) ?_ ?_
              rotate_left
              · intro _ _; go_simp; first | done | with_reducible rfl
              simp only [Act.put, List.setIfInBounds_toArray, List.set_cons_zero, List.set_cons_succ]
              refine hTake (by kernel_rfl) (fun d _ _ _ _ h => by cases d <;> exact h) hS 35 (some 101) _ rfl (v := ?_) (by kernel_rfl) ?_ ?_
              rotate_left
              · intro w9 hS9; have q := cell_below hS9 ckp; go_simp; first | done | with_reducible rfl
              simp only [Act.put, List.setIfInBounds_toArray, List.set_cons_zero, List.set_cons_succ]
              refine hTake (by kernel_rfl) (fun d _ _ _ _ h => by cases d <;> exact h) hS 36 (some 102) _ rfl (v := ?_) (by kernel_rfl) ?_ ?_
              rotate_left
              · intro _ _; go_simp; first | done | with_reducible rfl
              simp only [Act.put, List.setIfInBounds_toArray, List.set_cons_zero, List.set_cons_succ]
              refine hTake (by kernel_rfl) (fun d _ _ _ _ h => by cases d <;> exact h) hS 37 (some 103) _ rfl (v := ?_) (by kernel_rfl) ?_ ?_
              rotate_left
              · intro _ _; go_simp; first | done | with_reducible rfl
              simp only [Act.put, List.setIfInBounds_toArray, List.set_cons_zero, List.set_cons_succ]
              refine hSkips (by kernel_rfl) (fun d _ _ _ _ h => by cases d <;> exact h) hS [38, 39, 40, 41, 42, 43, 44, 45, 46, 47, 48, 49, 50, 51, 52, 53, 54, 55] [some 104, some 105, some 106, some 107, some 108, some 109, some 110, some 111, some 112, some 113, some 114, some 115, some 116, some 117, some 118, some 119, some 120, some 121] (by kernel_rfl) ?_
              simp only [putUndef, listAll, List.foldl_cons, List.foldl_nil, Act.put, List.setIfInBounds_toArray, List.set_cons_zero, List.set_cons_succ]
              refine hTake (by kernel_rfl) (fun d _ _ _ _ h => by cases d <;> exact h) hS 56 (some 122) _ rfl (v := ?_) (by kernel_rfl) ?_ ?_
              rotate_left
              · intro _ _; go_simp; first | done | with_reducible rfl
              simp only [Act.put, List.setIfInBounds_toArray, List.set_cons_zero, List.set_cons_succ]
              refine hTake (by kernel_rfl) (fun d _ _ _ _ h => by cases d <;> exact h) hS 57 (some 123) _ rfl (v := ?_) (by kernel_rfl) ?_ ?_
              rotate_left
              · intro _ _; go_simp; first | done | with_reducible rfl
              simp only [Act.put, List.setIfInBounds_toArray, List.set_cons_zero, List.set_cons_succ]
              refine wpAnyH_done (by kernel_rfl) ?_ _
              have HB6 := Lib.hid (after hb1 hS (Nat.le_refl _))
              have HR6 := Lib.hid (HRX.out _ hS)
              have HT6 := Lib.hid (HTX.out _ hS)
              clear hS hb1 q0 q1 q2 q3 ckp ck0 ck1 ck2 ck3 HRX HTX
              go_wp2
              go_roundw
              case rel => exact ⟨k + 1, by go_num, by omega, by omega, HT6.out, HR6.out, HB6.out⟩
              case measure => simp [intOf]; omega
            · have e2 : ((bx l p).kind == 2) = false := beq_eq_false_iff_ne.2 hk2
              have e3 : ((bx l p).kind != 2) = true := by rw [bne_iff_ne]; exact hk2
              obtain ⟨ex, ew⟩ := HCR.out.2 hk2
              rw [ex] at ck0
              rw [ew] at ck2
              clear hk2 ex ew HCR
              go_upto_region 12 with fail
              refine wp_region_held_drew (S := fun w' => Below W7.heap.size W7 w') (by kernel_rfl) (Below.refl _ _).drew (fun hS => ?_)
              change wpAnyH _ _ _ _ _ _ _ _ W7.drew
              generalize W7.drew = we at *
              refine hTake (by kernel_rfl) (fun d _ _ _ _ h => by cases d <;> exact h) hS 0 (some 66) _ rfl (v := ?_) (by kernel_rfl) ?_ ?_
              rotate_left
              · intro _ _; go_simp; first | done | with_reducible rfl
              simp only [Act.put, List.setIfInBounds_toArray, List.set_cons_zero, List.set_cons_succ]
              refine hTake (by kernel_rfl) (fun d _ _ _ _ h => by cases d <;> exact h) hS 1 (some 67) _ rfl (v := ?_) (by kernel_rfl) ?_ ?_
              rotate_left
              · intro _ _; go_simp; first | done | with_reducible rfl
              simp only [Act.put, List.setIfInBounds_toArray, List.set_cons_zero, List.set_cons_succ]
              refine hTake (by kernel_rfl) (fun d _ _ _ _ h => by cases d <;> exact h) hS 2 (some 68) _ rfl (v := ?_) (by kernel_rfl) ?_ ?_
              rotate_left
              · intro _ _; go_simp; first | done | with_reducible rfl
              simp only [Act.put, List.setIfInBounds_toArray, List.set_cons_zero, List.set_cons_succ]
              refine hTake (by kernel_rfl) (fun d _ _ _ _ h => by cases d <;> exact h) hS 3 (some 69) _ rfl (v := ?_) (by kernel_rfl) ?_ ?_
              rotate_left
              · intro _ _; go_simp; first | done | with_reducible rfl
              simp only [Act.put, List.setIfInBounds_toArray, List.set_cons_zero, List.set_cons_succ]
              refine hTake (by kernel_rfl) (fun d _ _ _ _ h => by cases d <;> exact h) hS 4 (some 70) _ rfl (v := ?_) (by kernel_rfl) ?_ ?_
              rotate_left
              · intro _ _; go_simp; first | done | with_reducible rfl
              simp only [Act.put, List.setIfInBounds_toArray, List.set_cons_zero, List.set_cons_succ]
              refine hTake (by kernel_rfl) (fun d _ _ _ _ h => by cases d <;> exact h) hS 5 (some 71) _ rfl (v := ?_) (by kernel_rfl) ?_ ?_
              rotate_left
              · intro _ _; go_simp; first | done | with_reducible rfl
              simp only [Act.put, List.setIfInBounds_toArray, List.set_cons_zero, List.set_cons_succ]
              refine hTake (by kernel_rfl) (fun d _ _ _ _ h => by cases d <;> exact h) hS 6 (some 72) _ rfl (v := ?_) (by kernel_rfl) ?_ ?_
              rotate_left
              · intro _ _; go_simp; first | done | with_reducible rfl
              simp only [Act.put, List.setIfInBounds_toArray, List.set_cons_zero, List.set_cons_succ]
              refine hTake (by kernel_rfl) (fun d _ _ _ _ h => by cases d <;> exact h) hS 7 (some 73) _ rfl (v := ?_) (by kernel_rfl) ?_ ?_
              rotate_left
              · intro w9 hS9; have q := cell_below hS9 ckp; go_simp; first | done | with_reducible rfl
              simp only [Act.put, List.setIfInBounds_toArray, List.set_cons_zero, List.set_cons_succ]
              refine hTake (by kernel_rfl) (fun d _ _ _ _ h => by cases d <;> exact h) hS 8 (some 74) _ rfl (v := ?_) (by kernel_rfl) ?_ ?_
              rotate_left
              · intro _ _; go_simp; first | done | with_reducible rfl
              simp only [Act.put, List.setIfInBounds_toArray, List.set_cons_zero, List.set_cons_succ]
              refine hTake (by kernel_rfl) (fun d _ _ _ _ h => by cases d <;> exact h) hS 9 (some 75) _ rfl (v := ?_) (by kernel_rfl) ?_ ?_
              rotate_left
              · intro _ _; go_simp; first | done | with_reducible rfl
              simp only [Act.put, List.setIfInBounds_toArray, List.set_cons_zero, List.set_cons_succ]
              refine hSkips (by kernel_rfl) (fun d _ _ _ _ h => by cases d <;> exact h) hS [10, 11, 12, 13, 14, 15, 16, 17, 18, 19, 20, 21, 22, 23, 24, 25, 26, 27] [some 76, some 77, some 78, some 79, some 80, some 81, some 82, some 83, some 84, some 85, some 86, some 87, some 88, some 89, some 90, some 91, some 92, some 93] (by kernel_rfl) ?_
              simp only [putUndef, listAll, List.foldl_cons, List.foldl_nil, Act.put, List.setIfInBounds_toArray, List.set_cons_zero, List.set_cons_succ]
              refine hTake (by kernel_rfl) (fun d _ _ _ _ h => by cases d <;> exact h) hS 28 (some 94) _ rfl (v := ?_) (by kernel_rfl) ?_ ?_
              rotate_left
              · intro _ _; go_simp; first | done | with_reducible rfl
              simp only [Act.put, List.setIfInBounds_toArray, List.set_cons_zero, List.set_cons_succ]
              refine hTake (by kernel_rfl) (fun d _ _ _ _ h => by cases d <;> exact h) hS 29 (some 95) _ rfl (v := ?_) (by kernel_rfl) ?_ ?_
              rotate_left
              · intro _ _; go_simp; first | done | with_reducible rfl
              simp only [Act.put, List.setIfInBounds_toArray, List.set_cons_zero, List.set_cons_succ]
              refine hTake (by kernel_rfl) (fun d _ _ _ _ h => by cases d <;> exact h) hS 30 (some 96) _ rfl (v := ?_) (by kernel_rfl) ?_ ?_
              rotate_left
              · intro _ _; go_simp; first | done | with_reducible rfl
              simp only [Act.put, List.setIfInBounds_toArray, List.set_cons_zero, List.set_cons_succ]
              refine hTake (by kernel_rfl) (fun d _ _ _ _ h => by cases d <;> exact h) hS 31 (some 97) _ rfl (v := ?_) (by kernel_rfl) ?_ ?_
              rotate_left
              · intro _ _; go_simp; first | done | with_reducible rfl
              simp only [Act.put, List.setIfInBounds_toArray, List.set_cons_zero, List.set_cons_succ]
              refine hTake (by kernel_rfl) (fun d _ _ _ _ h => by cases d <;> exact h) hS 32 (some 98) _ rfl (v := ?_) (by kernel_rfl) ?_ ?_
              rotate_left
              · intro _ _; go_simp; first | done | with_reducible rfl
              simp only [Act.put, List.setIfInBounds_toArray, List.set_cons_zero, List.set_cons_succ]
              refine hTake (by kernel_rfl) (fun d _ _ _ _ h => by cases d <;> exact h) hS 33 (some 99) _ rfl (v := ?_) (by kernel_rfl) ?_ ?_
              rotate_left
              · intro _ _; go_simp; first | done | with_reducible rfl
              simp only [Act.put, List.setIfInBounds_toArray, List.set_cons_zero, List.set_cons_succ]
              refine hTake (by kernel_rfl) (fun d _ _ _ _ h => by cases d <;> exact h) hS 34 (some 100) _ rfl (v := ?_) (by kernel_rfl) ?_ ?_
              rotate_left
              · intro _ _; go_simp; first | done | with_reducible rfl
              simp only [Act.put, List.setIfInBounds_toArray, List.set_cons_zero, List.set_cons_succ]
              refine hTake (by kernel_rfl) (fun d _ _ _ _ h => by cases d <;> exact h) hS 35 (some 101) _ rfl (v := ?_) (by kernel_rfl) ?_ ?_
              rotate_left
              · intro w9 hS9; have q := cell_below hS9 ckp; go_simp; first | done | with_reducible rfl
              simp only [Act.put, List.setIfInBounds_toArray, List.set_cons_zero, List.set_cons_succ]
              refine hTake (by kernel_rfl) (fun d _ _ _ _ h => by cases d <;> exact h) hS 36 (some 102) _ rfl (v := ?_) (by kernel_rfl) ?_ ?_
              rotate_left
              · intro _ _; go_simp; first | done | with_reducible rfl
              simp only [Act.put, List.setIfInBounds_toArray, List.set_cons_zero, List.set_cons_succ]
              refine hTake (by kernel_rfl) (fun d _ _ _ _ h => by cases d <;> exact h) hS 37 (some 103) _ rfl (v := ?_) (by kernel_rfl) ?_ ?_
              rotate_left
              · intro _ _; go_simp; first | done | with_reducible rfl
              simp only [Act.put, List.setIfInBounds_toArray, List.set_cons_zero, List.set_cons_succ]
              refine hTake (by kernel_rfl) (fun d _ _ _ _ h => by cases d <;> exact h) hS 38 (some 104) _ rfl (v := ?_) (by kernel_rfl) ?_ ?_
              rotate_left
              · intro _ _; go_simp; first | done | with_reducible rfl
              simp only [Act.put, List.setIfInBounds_toArray, List.set_cons_zero, List.set_cons_succ]
              refine hTake (by kernel_rfl) (fun d _ _ _ _ h => by cases d <;> exact h) hS 39 (some 105) _ rfl (v := ?_) (by kernel_rfl) ?_ ?_
              rotate_left
              · intro _ _; go_simp; first | done | with_reducible rfl
              simp only [Act.put, List.setIfInBounds_toArray, List.set_cons_zero, List.set_cons_succ]
              refine hTake (by kernel_rfl) (fun d _ _ _ _ h => by cases d <;> exact h) hS 40 (some 106) _ rfl (v := ?_) (by kernel_rfl) ?_ ?_
              rotate_left
              · intro _ _; go_simp; first | done | with_reducible rfl
              simp only [Act.put, List.setIfInBounds_toArray, List.set_cons_zero, List.set_cons_succ]
              refine hTake (by kernel_rfl) (fun d _ _ _ _ h => by cases d <;> exact h) hS 41 (some 107) _ rfl (v := ?_) (by kernel_rfl) ?_ ?_
              rotate_left
              · intro _ _; go_simp; first | done | with_reducible rfl
              simp only [Act.put, List.setIfInBounds_toArray, List.set_cons_zero, List.set_cons_succ]
              refine hTake (by kernel_rfl) (fun d _ _ _ _ h => by cases d <;> exact h) hS 42 (some 108) _ rfl (v := ?_) (by kernel_rfl) ?_ ?_
              rotate_left
              · intro w9 hS9; have q := cell_below hS9 ck0; go_simp; first | done | with_reducible rfl
              simp only [Act.put, List.setIfInBounds_toArray, List.set_cons_zero, List.set_cons_succ]
              refine hTake (by kernel_rfl) (fun d _ _ _ _ h => by cases d <;> exact h) hS 43 (some 109) _ rfl (v := ?_) (by kernel_rfl) ?_ ?_
              rotate_left
              · intro _ _; go_simp; first | done | with_reducible rfl
              simp only [Act.put, List.setIfInBounds_toArray, List.set_cons_zero, List.set_cons_succ]
              refine hTake (by kernel_rfl) (fun d _ _ _ _ h => by cases d <;> exact h) hS 44 (some 110) _ rfl (v := ?_) (by kernel_rfl) ?_ ?_
              rotate_left
              · intro w9 hS9; have q := cell_below hS9 q0; go_simp; first | done | with_reducible rfl
              simp only [Act.put, List.setIfInBounds_toArray, List.set_cons_zero, List.set_cons_succ]
              refine hTake (by kernel_rfl) (fun d _ _ _ _ h => by cases d <;> exact h) hS 45 (some 111) _ rfl (v := ?_) (by kernel_rfl) ?_ ?_
              rotate_left
              · intro _ _; go_simp; first | done | with_reducible rfl
              simp only [Act.put, List.setIfInBounds_toArray, List.set_cons_zero, List.set_cons_succ]
              refine hTake (by kernel_rfl) (fun d _ _ _ _ h => by cases d <;> exact h) hS 46 (some 112) _ rfl (v := ?_) (by kernel_rfl) ?_ ?_
              rotate_left
              · intro _ _; go_simp; first | done | with_reducible rfl
              simp only [Act.put, List.setIfInBounds_toArray, List.set_cons_zero, List.set_cons_succ]
              refine hTake (by kernel_rfl) (fun d _ _ _ _ h => by cases d <;> exact h) hS 47 (some 113) _ rfl (v := ?_) (by kernel_rfl) ?_ ?_
              rotate_left
              · intro _ _; go_simp; first | done | with_reducible rfl
              simp only [Act.put, List.setIfInBounds_toArray, List.set_cons_zero, List.set_cons_succ]
              refine hTake (by kernel_rfl) (fun d _ _ _ _ h => by cases d <;> exact h) hS 48 (some 114) _ rfl (v := ?_) (by kernel_rfl) ?_ ?_
              rotate_left
              · intro _ _; go_simp; first | done | with_reducible rfl
              simp only [Act.put, List.setIfInBounds_toArray, List.set_cons_zero, List.set_cons_succ]
              refine hTake (by kernel_rfl) (fun d _ _ _ _ h => by cases d <;> exact h) hS 49 (some 115) _ rfl (v := ?_) (by kernel_rfl) ?_ ?_
              rotate_left
              · intro _ _; go_simp; first | done | with_reducible rfl
              simp only [Act.put, List.setIfInBounds_toArray, List.set_cons_zero, List.set_cons_succ]
              refine hTake (by kernel_rfl) (fun d _ _ _ _ h => by cases d <;> exact h) hS 50 (some 116) _ rfl (v := ?_) (by kernel_rfl) ?_ ?_
              rotate_left
              · intro _ _; go_simp; first | done | with_reducible rfl
              simp only [Act.put, List.setIfInBounds_toArray, List.set_cons_zero, List.set_cons_succ]
              refine hTake (by kernel_rfl) (fun d _ _ _ _ h => by cases d <;> exact h) hS 51 (some 117) _ rfl (v := ?_) (by kernel_rfl) ?_ ?_
              rotate_left
              · intro w9 hS9; have q := cell_below hS9 ck2; go_simp; first | done | with_reducible rfl
              simp only [Act.put, List.setIfInBounds_toArray, List.set_cons_zero, List.set_cons_succ]
              refine hTake (by kernel_rfl) (fun d _ _ _ _ h => by cases d <;> exact h) hS 52 (some 118) _ rfl (v := ?_) (by kernel_rfl) ?_ ?_
              rotate_left
              · intro _ _; go_simp; first | done | with_reducible rfl
              simp only [Act.put, List.setIfInBounds_toArray, List.set_cons_zero, List.set_cons_succ]
              refine hTake (by kernel_rfl) (fun d _ _ _ _ h => by cases d <;> exact h) hS 53 (some 119) _ rfl (v := ?_) (by kernel_rfl) ?_ ?_
              rotate_left
              · intro w9 hS9; have q := cell_below hS9 q2; go_simp; first | done | with_reducible rfl
              simp only [Act.put, List.setIfInBounds_toArray, List.set_cons_zero, List.set_cons_succ]
              refine hTake (by kernel_rfl) (fun d _ _ _ _ h => by cases d <;> exact h) hS 54 (some 120) _ rfl (v := ?_) (by kernel_rfl) ?_ ?_
              rotate_left
              · intro _ _; go_simp; first | done | with_reducible rfl
              simp only [Act.put, List.setIfInBounds_toArray, List.set_cons_zero, List.set_cons_succ]
              refine hTake (by kernel_rfl) (fun d _ _ _ _ h => by cases d <;> exact h) hS 55 (some 121) _ rfl (v := ?_) (by kernel_rfl) ?_ ?_
              rotate_left
              · intro _ _; go_simp; first | done | with_reducible rfl
              simp only [Act.put, List.setIfInBounds_toArray, List.set_cons_zero, List.set_cons_succ]
              refine hTake (by kernel_rfl) (fun d _ _ _ _ h => by cases d <;> exact h) hS 56 (some 122) _ rfl (v := ?_) (by kernel_rfl) ?_ ?_
              rotate_left
              · intro _ _; go_simp; first | done | with_reducible rfl
              simp only [Act.put, List.setIfInBounds_toArray, List.set_cons_zero, List.set_cons_succ]
              refine hTake (by kernel_rfl) (fun d _ _ _ _ h => by cases d <;> exact h) hS 57 (some 123) _ rfl (v := ?_) (by kernel_rfl) ?_ ?_
              rotate_left
              · intro _ _; go_simp; first | done | with_reducible rfl
              simp only [Act.put, List.setIfInBounds_toArray, List.set_cons_zero, List.set_cons_succ]
              refine wpAnyH_done (by kernel_rfl) ?_ _
              have HB6 := Lib.hid (after hb1 hS (Nat.le_refl _))
              have HR6 := Lib.hid (HRX.out _ hS)
              have HT6 := Lib.hid (HTX.out _ hS)
              clear hS hb1 q0 q1 q2 q3 ckp ck0 ck1 ck2 ck3 HRX HTX
              go_wp2
              go_roundw
              case rel => exact ⟨k + 1, by go_num, by omega, by omega, HT6.out, HR6.out, HB6.out⟩
              case measure => simp [intOf]; omega
        · obtain rfl : k = l.length := by omega
          go_wp2
          go_ret
          exact ⟨rfl, hb⟩
end Go.Proofs.Ytkbgmfapcekakaa
