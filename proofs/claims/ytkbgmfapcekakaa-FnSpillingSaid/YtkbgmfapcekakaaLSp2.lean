/-
  The law FnSpilling: the walk.
-/
import Derived.Test.YtkbgmfapcekakaaSSpl
import Derived.Test.YtkbgmfapcekakaaAg
import Derived.Test.YtkbgmfapcekakaaMeet
import Derived.Test.YtkbgmfapcekakaaTre
import Derived.Test.YtkbgmfapcekakaaLTr3
import Derived.Test.YtkbgmfapcekakaaLStyA
namespace Go.Proofs.Ytkbgmfapcekakaa
open Go Go.RowKit

theorem spl_mem {l : List Bx} {sw sh : Int} {k : Nat} (h : scrB l sw sh = true) (hk : k < l.length) (h0 : 0 < k) : decide (((k : Nat) : Int) ∈ splL l sw sh) = spillB l sw sh k := by
  rw [splL_t h]
  cases hs : spillB l sw sh k with
  | false =>
    apply decide_eq_false
    intro hm
    obtain ⟨x, hx, e⟩ := mem_ni.1 hm
    obtain rfl : x = k := by omega
    have := (spillTo_mem.1 hx).2.2
    rw [hs] at this
    cases this
  | true => exact decide_eq_true (mem_ni.2 ⟨k, spillTo_mem.2 ⟨hk, h0, hs⟩, rfl⟩)
theorem spl_zero (l : List Bx) (sw sh : Int) : decide ((0 : Int) ∈ splL l sw sh) = false := by
  apply decide_eq_false
  intro hm
  cases hok : scrB l sw sh with
  | false =>
    rw [splL_f hok] at hm
    simp at hm
  | true =>
    rw [splL_t hok] at hm
    obtain ⟨x, hx, e⟩ := mem_ni.1 hm
    have := (spillTo_mem.1 hx).2.1
    omega
set_option maxRecDepth 100000 in
set_option maxHeartbeats 20000000 in
theorem FnSpilling_any {v : Value} (w : World) (hv : RdBytes w v) :
    Calls Try.prog 14 #[v] w fun e w' => e = .returned (.bool true) ∧ Ext w w' := by
  have hv2 := hv
  obtain ⟨ad, n, c, rfl, hn, hc, _⟩ := hv
  unfold maxLen at hc
  by_cases hlen : 1048576 < n
  · have hlen' : (1048576 : Int) < n := by omega
    go_enter Try.func14, Try.ntmps14
    go_wp2
    go_ret
    exact ⟨rfl, Below.refl _ _⟩
  · have hlen' : ¬ ((1048576 : Int) < n) := by omega
    go_enter Try.func14, Try.ntmps14
    go_wp2_with (fail)
    refine (DrawSpilling_any _ hv2).mono ?_
    rintro e w1 ⟨v1, sw, sh, rfl, l, hl, hsw, hsh, ho1, hb⟩
    have hrT := ho1.rd
    clear ho1 hv2
    go_wp2_with (fail)
    refine ((Spilling_any (l := l) sw sh _ hrT)).mono ?_
    rintro e w2 ⟨v2, rfl, ho2, hx⟩
    replace hb := after hb hx (Nat.le_refl _)
    replace hrT := hrT.below hx (Nat.le_refl _)
    clear hx
    have hrO := ho2.rd
    clear ho2
    go_wp2_with (fail)
    refine ((LayoutTree_any (l := l) sw sh _ hrT)).mono ?_
    rintro e w3 ⟨v3, rfl, ho3, hx⟩
    replace hb := after hb hx (Nat.le_refl _)
    replace hrT := hrT.below hx (Nat.le_refl _)
    replace hrO := hrO.below hx (Nat.le_refl _)
    clear hx
    have hrL := ho3.rd
    clear ho3
    go_wp2_with (fail)
    refine ((sSpilling_any (l := l) sw sh _ hrT (by omega))).mono ?_
    rintro e w4 ⟨v4, rfl, ho4, hx⟩
    replace hb := after hb hx (Nat.le_refl _)
    replace hrT := hrT.below hx (Nat.le_refl _)
    replace hrO := hrO.below hx (Nat.le_refl _)
    replace hrL := hrL.below hx (Nat.le_refl _)
    clear hx
    have hrW := ho4.rd
    clear ho4
    cases hok : scrB l sw sh with
    | false =>
      rw [rectsOr_f hok] at hrL
      obtain ⟨aL, cL, rfl, hnL, hcL, _⟩ := hrL.rects
      rw [List.length_nil] at hrL ⊢
      clear hok hrL
      go_wp2_with (fail)
      refine ((equalInts_any _ hrO hrW)).mono ?_
      rintro e w5 ⟨rfl, hx⟩
      replace hb := after hb hx (Nat.le_refl _)
      replace hrT := hrT.below hx (Nat.le_refl _)
      replace hrO := hrO.below hx (Nat.le_refl _)
      clear hx
      rw [show decide (splL l sw sh = splL l sw sh) = true by simp]
      clear hrW
      go_wp2_with (fail)
      refine ((sSpilling_any (l := l) sw sh _ hrT (by omega))).mono ?_
      rintro e w6 ⟨v6, rfl, ho6, hx⟩
      replace hb := after hb hx (Nat.le_refl _)
      replace hrO := hrO.below hx (Nat.le_refl _)
      clear hx
      have hrW := ho6.rd
      clear ho6
      go_wp2_with (fail)
      refine ((equalInts_any _ hrO hrW)).mono ?_
      rintro e w7 ⟨rfl, hx⟩
      replace hb := after hb hx (Nat.le_refl _)
      clear hx
      rw [show decide (splL l sw sh = splL l sw sh) = true by simp]
      go_wp2
      go_ret
      exact ⟨rfl, hb⟩
    | true =>
      rw [rectsOr_t hok] at hrL
      obtain ⟨hval, hsw2, hsh2⟩ := scrB_iff.1 hok
      have HSP := Lib.hid (fun k (hk : k < l.length) (h0 : 0 < k) => spl_mem hok hk h0)
      clear hok hsw hsh
      have HV := Lib.hid hval
      have hlo := hval.lo
      have hz : ((l.length : Int) == 0) = false := beq_eq_false_iff_ne.2 (by omega)
      have HR := Lib.hid (fun k (hk : k < l.length) => rect_ok hval hsw2 hsh2 hk)
      have HIV := Lib.hid (fun (i p : Nat) (hi : i < l.length) (hp : par l i = (p : Int)) => inset_VR hval hsw2 hsh2 (i := i) (p := p) hi hp)
      obtain ⟨bO, oO, cO, rfl, hnO, hcO, hR⟩ := rectS hrL hlo
      obtain ⟨bT, oT, cT, rfl, hnT, hcT⟩ := rd_addr hlo hrT
      clear hval hrL
      go_wp2_with (fail)
      refine ((equalInts_any _ hrO hrW)).mono ?_
      rintro e w5 ⟨rfl, hx⟩
      replace hb := after hb hx (Nat.le_refl _)
      replace hrT := hrT.below hx (Nat.le_refl _)
      replace hrO := hrO.below hx (Nat.le_refl _)
      replace hR := hR.below hx (Nat.le_refl _)
      clear hx
      rw [show decide (splL l sw sh = splL l sw sh) = true by simp]
      clear hrW
      have HTT := Lib.hid hrT
      have HOO := Lib.hid hrO
      clear hrT hrO
      go_wp2
      go_loopw [8] (fun n wr => ∃ k : Nat, n = .int .i64 k ∧ 1 ≤ k ∧ k ≤ l.length ∧ Rd wr 9 (.slice (some ⟨bT, oT, none⟩) l.length cT) (Bs l) ∧ RC l sw sh bO oO wr ∧ Rd wr 1 v2 (Is (splL l sw sh)) ∧ Below w.heap.size w wr) (fun n _ => l.length - (intOf n).toNat)
      case atStart => exact ⟨1, by go_num, Nat.le_refl _, hlo, HTT.out, hR, HOO.out, hb⟩
      case round =>
        clear HTT HOO hR hb
        obtain ⟨k, rfl, hk1, hk, hrT, hR, hrO, hb⟩ := hrel
        by_cases hlt : k < l.length
        · have hki : (k : Int) < l.length := by omega
          have hki0 : (0 : Int) ≤ (k : Int) := by omega
          have hHPAR := HV.out.par k hk1 hlt
          obtain ⟨p, hp⟩ : ∃ p : Nat, (bx l k).parent = (p : Int) := ⟨(par l k).toNat, by
            show par l k = _
            omega⟩
          have hpp : par l k = (p : Int) := hp
          have hpl : p < l.length := by omega
          have hpi : (p : Int) < l.length := by omega
          have hp0 : (0 : Int) ≤ (p : Int) := by omega
          have cp : wr.cell? ⟨bT, oT + k * 9, none⟩ = some (.int .i64 (p : Int)) := by
            rw [← hp]
            exact (cells_at hlt hrT).c0
          have hpr := HR.out p hpl
          have hpb := okB_bounds (HV.out.ok p hpl)
          have hiv := HIV.out k p hlt hpp
          have hps := hpr.rs (show (100000 : Int) ≤ 1000000 by omega)
          have hpv := hpr.vr
          have hrs := (HR.out k hlt).rs (show (100000 : Int) ≤ 1000000 by omega)
          have hqs : RS (insetR (rect l sw sh p) (bx l p).pad) := by
            have hin := inset_ok (r := rect l sw sh p) (e := (bx l p).pad) (by omega) (by obtain ⟨_, _, _, _, h5, h6, _, _⟩ := hpr; exact ⟨h5, h6⟩) (by obtain ⟨_, _, _, _, _, _, h7, h8⟩ := hpr; exact ⟨h7, h8⟩)
            obtain ⟨h1, h2, h3, h4, _⟩ := hpr
            exact ⟨by omega, by omega, by omega, by omega⟩
          have HIN := Lib.hid (fun W => InsetRect_any (r := rect l sw sh p) (e := (bx l p).pad) W hps hpv (by omega) hiv)
          have HSM := Lib.hid (HSP.out k hlt hk1)
          have HSB := Lib.hid (spill_par (l := l) (sw := sw) (sh := sh) (k := k) (p := p) hp)
          have HTT := Lib.hid hrT
          have HRR := Lib.hid hR
          have HOO := Lib.hid hrO
          have hpc := (cells_at hpl hrT).c4
          have hqc := hR.cs p hpl
          have hrb := hR.lt
          generalize insetR (rect l sw sh p) (bx l p).pad = q at *
          have HQC := Lib.hid (fun w9 (h : Below wr.heap.size wr w9) => hqc.below h hrb)
          clear hHPAR hp hpp hpr hpb hps hpv hqc hrT hrO hR hiv
          generalize rect l sw sh p = s at *
          go_upto_region 11 with fail
          refine wp_region_held_drew (S := fun w' => Below wr.heap.size wr w') (by kernel_rfl) (Below.refl _ _).drew (fun hS => ?_)
          change wpAnyH _ _ _ _ _ _ _ _ wr.drew
          generalize wr.drew = wd at *
          refine hTake (by kernel_rfl) (fun d _ _ _ _ h => by cases d <;> exact h) hS 0 (some 53) _ rfl (v := ?_) (by kernel_rfl) ?_ ?_
          rotate_left
          · intro _ _; go_simp; first | done | with_reducible rfl
          simp only [Act.put, List.setIfInBounds_toArray, List.set_cons_zero, List.set_cons_succ]
          refine hTake (by kernel_rfl) (fun d _ _ _ _ h => by cases d <;> exact h) hS 1 (some 54) _ rfl (v := ?_) (by kernel_rfl) ?_ ?_
          rotate_left
          · intro _ _; go_simp; first | done | with_reducible rfl
          simp only [Act.put, List.setIfInBounds_toArray, List.set_cons_zero, List.set_cons_succ]
          refine hTake (by kernel_rfl) (fun d _ _ _ _ h => by cases d <;> exact h) hS 2 (some 55) _ rfl (v := ?_) (by kernel_rfl) ?_ ?_
          rotate_left
          · intro _ _; go_simp; first | done | with_reducible rfl
          simp only [Act.put, List.setIfInBounds_toArray, List.set_cons_zero, List.set_cons_succ]
          refine hTake (by kernel_rfl) (fun d _ _ _ _ h => by cases d <;> exact h) hS 3 (some 56) _ rfl (v := ?_) (by kernel_rfl) ?_ ?_
          rotate_left
          · intro _ _; go_simp; first | done | with_reducible rfl
          simp only [Act.put, List.setIfInBounds_toArray, List.set_cons_zero, List.set_cons_succ]
          refine hTake (by kernel_rfl) (fun d _ _ _ _ h => by cases d <;> exact h) hS 4 (some 57) _ rfl (v := ?_) (by kernel_rfl) ?_ ?_
          rotate_left
          · intro _ _; go_simp; first | done | with_reducible rfl
          simp only [Act.put, List.setIfInBounds_toArray, List.set_cons_zero, List.set_cons_succ]
          refine hTake (by kernel_rfl) (fun d _ _ _ _ h => by cases d <;> exact h) hS 5 (some 58) _ rfl (v := ?_) (by kernel_rfl) ?_ ?_
          rotate_left
          · intro w9 hS9; have q := cell_below hS9 cp; go_simp; first | done | with_reducible rfl
          simp only [Act.put, List.setIfInBounds_toArray, List.set_cons_zero, List.set_cons_succ]
          refine hTake (by kernel_rfl) (fun d _ _ _ _ h => by cases d <;> exact h) hS 6 (some 59) _ rfl (v := ?_) (by kernel_rfl) ?_ ?_
          rotate_left
          · intro _ _; go_simp; first | done | with_reducible rfl
          simp only [Act.put, List.setIfInBounds_toArray, List.set_cons_zero, List.set_cons_succ]
          refine hTake (by kernel_rfl) (fun d _ _ _ _ h => by cases d <;> exact h) hS 7 (some 60) _ rfl (v := ?_) (by kernel_rfl) ?_ ?_
          rotate_left
          · intro w9 hS9; obtain ⟨q0, q1, q2, q3⟩ := HQC.out _ hS9; go_simp; first | done | with_reducible rfl
          simp only [Act.put, List.setIfInBounds_toArray, List.set_cons_zero, List.set_cons_succ]
          refine hTake (by kernel_rfl) (fun d _ _ _ _ h => by cases d <;> exact h) hS 8 (some 61) _ rfl (v := ?_) (by kernel_rfl) ?_ ?_
          rotate_left
          · intro _ _; go_simp; first | done | with_reducible rfl
          simp only [Act.put, List.setIfInBounds_toArray, List.set_cons_zero, List.set_cons_succ]
          refine hTake (by kernel_rfl) (fun d _ _ _ _ h => by cases d <;> exact h) hS 9 (some 62) _ rfl (v := ?_) (by kernel_rfl) ?_ ?_
          rotate_left
          · intro _ _; go_simp; first | done | with_reducible rfl
          simp only [Act.put, List.setIfInBounds_toArray, List.set_cons_zero, List.set_cons_succ]
          refine hTake (by kernel_rfl) (fun d _ _ _ _ h => by cases d <;> exact h) hS 10 (some 63) _ rfl (v := ?_) (by kernel_rfl) ?_ ?_
          rotate_left
          · intro _ _; go_simp; first | done | with_reducible rfl
          simp only [Act.put, List.setIfInBounds_toArray, List.set_cons_zero, List.set_cons_succ]
          refine hTake (by kernel_rfl) (fun d _ _ _ _ h => by cases d <;> exact h) hS 11 (some 64) _ rfl (v := ?_) (by kernel_rfl) ?_ ?_
          rotate_left
          · intro _ _; go_simp; first | done | with_reducible rfl
          simp only [Act.put, List.setIfInBounds_toArray, List.set_cons_zero, List.set_cons_succ]
          refine hTake (by kernel_rfl) (fun d _ _ _ _ h => by cases d <;> exact h) hS 12 (some 65) _ rfl (v := ?_) (by kernel_rfl) ?_ ?_
          rotate_left
          · intro _ _; go_simp; first | done | with_reducible rfl
          simp only [Act.put, List.setIfInBounds_toArray, List.set_cons_zero, List.set_cons_succ]
          refine hTake (by kernel_rfl) (fun d _ _ _ _ h => by cases d <;> exact h) hS 13 (some 66) _ rfl (v := ?_) (by kernel_rfl) ?_ ?_
          rotate_left
          · intro w9 hS9; have q := cell_below hS9 cp; go_simp; first | done | with_reducible rfl
          simp only [Act.put, List.setIfInBounds_toArray, List.set_cons_zero, List.set_cons_succ]
          refine hTake (by kernel_rfl) (fun d _ _ _ _ h => by cases d <;> exact h) hS 14 (some 67) _ rfl (v := ?_) (by kernel_rfl) ?_ ?_
          rotate_left
          · intro _ _; go_simp; first | done | with_reducible rfl
          simp only [Act.put, List.setIfInBounds_toArray, List.set_cons_zero, List.set_cons_succ]
          refine hTake (by kernel_rfl) (fun d _ _ _ _ h => by cases d <;> exact h) hS 15 (some 68) _ rfl (v := ?_) (by kernel_rfl) ?_ ?_
          rotate_left
          · intro _ _; go_simp; first | done | with_reducible rfl
          simp only [Act.put, List.setIfInBounds_toArray, List.set_cons_zero, List.set_cons_succ]
          refine hTake (by kernel_rfl) (fun d _ _ _ _ h => by cases d <;> exact h) hS 16 (some 69) _ rfl (v := ?_) (by kernel_rfl) ?_ ?_
          rotate_left
          · intro w9 hS9; have q := cell_below hS9 hpc; go_simp; first | done | with_reducible rfl
          simp only [Act.put, List.setIfInBounds_toArray, List.set_cons_zero, List.set_cons_succ]
          clear cp hpc hrb HQC
          refine wpAnyH_ready (rs := [17, 21]) (by kernel_rfl) (by simp) ?_
          refine AllReadyH.cons (o := _) rfl (fun K9 hK9 => ?_) (AllReadyH.cons (o := _) rfl (fun K9 hK9 => ?_) AllReadyH.nil)
          · go_simp
            refine ((HIN.out _)).mono ?_
            rintro e w7 ⟨rfl, hx7⟩
            unfold Rc.agg
            try go_wp2_with fail
            refine hK9.out _ _ (after hS hx7 (Nat.le_refl _)) (fun hS => ?_)
            clear hK9 K9
            try simp only [Act.put, List.setIfInBounds_toArray, List.set_cons_zero, List.set_cons_succ]
            clear hx7
            refine hTake (by kernel_rfl) (fun d _ _ _ _ h => by cases d <;> exact h) hS 18 (some 52) _ rfl (v := ?_) (by kernel_rfl) ?_ ?_
            rotate_left
            · intro _ _; go_simp; first | done | with_reducible rfl
            simp only [Act.put, List.setIfInBounds_toArray, List.set_cons_zero, List.set_cons_succ]
            refine hTake (by kernel_rfl) (fun d _ _ _ _ h => by cases d <;> exact h) hS 19 (some 71) _ rfl (v := ?_) (by kernel_rfl) ?_ ?_
            rotate_left
            · intro _ _; go_simp; first | done | with_reducible rfl
            simp only [Act.put, List.setIfInBounds_toArray, List.set_cons_zero, List.set_cons_succ]
            refine hTake (by kernel_rfl) (fun d _ _ _ _ h => by cases d <;> exact h) hS 20 (some 72) _ rfl (v := ?_) (by kernel_rfl) ?_ ?_
            rotate_left
            · intro _ _; go_simp; first | done | with_reducible rfl
            simp only [Act.put, List.setIfInBounds_toArray, List.set_cons_zero, List.set_cons_succ]
            refine wpAnyH_ready (rs := [21]) (by kernel_rfl) (by simp) ?_
            refine AllReadyH.cons (o := _) rfl (fun K9 hK9 => ?_) AllReadyH.nil
            go_simp
            have hS0 := hS
            refine hK9.out _ _ (hS.alloc hS.size _) (fun hS => ?_)
            clear hK9 K9
            try simp only [Act.put, List.setIfInBounds_toArray, List.set_cons_zero, List.set_cons_succ]
            clear hS
            refine wpAnyH_ready (rs := [22]) (by kernel_rfl) (by simp) ?_
            refine AllReadyH.cons (o := _) rfl (fun K9 hK9 => ?_) AllReadyH.nil
            go_simp
            refine hK9.out _ _ (hS0.alloc hS0.size _) (fun hS => ?_)
            clear hK9 K9
            try simp only [Act.put, List.setIfInBounds_toArray, List.set_cons_zero, List.set_cons_succ]
            refine hTake (by kernel_rfl) (fun d _ _ _ _ h => by cases d <;> exact h) hS 23 (some 10) _ rfl (v := ?_) (by kernel_rfl) ?_ ?_
            rotate_left
            · intro _ _; go_simp; first | done | with_reducible rfl
            simp only [Act.put, List.setIfInBounds_toArray, List.set_cons_zero, List.set_cons_succ]
            refine wpAnyH_done (by kernel_rfl) ?_ _
            have kQ := Keep.new w7 (.cells #[.int .i64 q.x, .int .i64 q.y, .int .i64 q.w, .int .i64 q.h] 35)
            clear hS0
            generalize w7.alloc (.cells #[.int .i64 q.x, .int .i64 q.y, .int .i64 q.w, .int .i64 q.h] 35) = W7 at *
            generalize w7.heap.size = gQ at *
            have hb1 := after hb hS (Nat.le_refl _)
            have hR7 := HRR.out.below hS (Nat.le_refl _)
            have hT7 := HTT.out.below hS (Nat.le_refl _)
            have hO7 := HOO.out.below hS (Nat.le_refl _)
            have hrc := hR7.cs k hlt
            have hlr := hR7.lt
            have hlq := kQ.lt
            have HRX := Lib.hid (fun w9 (h : Below W7.heap.size W7 w9) => hR7.below h (Nat.le_refl _))
            have HTX := Lib.hid (fun w9 (h : Below W7.heap.size W7 w9) => hT7.below h (Nat.le_refl _))
            have HOX := Lib.hid (fun w9 (h : Below W7.heap.size W7 w9) => hO7.below h (Nat.le_refl _))
            have HCX := Lib.hid (fun w9 (h : Below W7.heap.size W7 w9) => hrc.below h hlr)
            have HQX := Lib.hid (fun w9 (h : Below W7.heap.size W7 w9) => (show Keep gQ (.cells #[.int .i64 q.x, .int .i64 q.y, .int .i64 q.w, .int .i64 q.h] 35) w9 from (h.block _ hlq).trans kQ))
            clear hS hb hR7 hT7 hO7 kQ HRR HTT HOO hrc hlr hlq
            generalize rect l sw sh k = r at *
            go_upto_region 12 with fail
            refine wp_region_held_drew (S := fun w' => Below W7.heap.size W7 w') (by kernel_rfl) (Below.refl _ _).drew (fun hS => ?_)
            change wpAnyH _ _ _ _ _ _ _ _ W7.drew
            generalize W7.drew = we at *
            refine hTake (by kernel_rfl) (fun d _ _ _ _ h => by cases d <;> exact h) hS 0 (some 73) _ rfl (v := ?_) (by kernel_rfl) ?_ ?_
            rotate_left
            · intro _ _; go_simp; first | done | with_reducible rfl
            simp only [Act.put, List.setIfInBounds_toArray, List.set_cons_zero, List.set_cons_succ]
            refine hTake (by kernel_rfl) (fun d _ _ _ _ h => by cases d <;> exact h) hS 1 (some 74) _ rfl (v := ?_) (by kernel_rfl) ?_ ?_
            rotate_left
            · intro _ _; go_simp; first | done | with_reducible rfl
            simp only [Act.put, List.setIfInBounds_toArray, List.set_cons_zero, List.set_cons_succ]
            refine hTake (by kernel_rfl) (fun d _ _ _ _ h => by cases d <;> exact h) hS 2 (some 75) _ rfl (v := ?_) (by kernel_rfl) ?_ ?_
            rotate_left
            · intro _ _; go_simp; first | done | with_reducible rfl
            simp only [Act.put, List.setIfInBounds_toArray, List.set_cons_zero, List.set_cons_succ]
            refine hTake (by kernel_rfl) (fun d _ _ _ _ h => by cases d <;> exact h) hS 3 (some 76) _ rfl (v := ?_) (by kernel_rfl) ?_ ?_
            rotate_left
            · intro _ _; go_simp; first | done | with_reducible rfl
            simp only [Act.put, List.setIfInBounds_toArray, List.set_cons_zero, List.set_cons_succ]
            refine hTake (by kernel_rfl) (fun d _ _ _ _ h => by cases d <;> exact h) hS 4 (some 77) _ rfl (v := ?_) (by kernel_rfl) ?_ ?_
            rotate_left
            · intro _ _; go_simp; first | done | with_reducible rfl
            simp only [Act.put, List.setIfInBounds_toArray, List.set_cons_zero, List.set_cons_succ]
            refine hTake (by kernel_rfl) (fun d _ _ _ _ h => by cases d <;> exact h) hS 6 (some 79) _ rfl (v := ?_) (by kernel_rfl) ?_ ?_
            rotate_left
            · intro _ _; go_simp; first | done | with_reducible rfl
            simp only [Act.put, List.setIfInBounds_toArray, List.set_cons_zero, List.set_cons_succ]
            refine hTake (by kernel_rfl) (fun d _ _ _ _ h => by cases d <;> exact h) hS 7 (some 80) _ rfl (v := ?_) (by kernel_rfl) ?_ ?_
            rotate_left
            · intro _ _; go_simp; first | done | with_reducible rfl
            simp only [Act.put, List.setIfInBounds_toArray, List.set_cons_zero, List.set_cons_succ]
            refine hTake (by kernel_rfl) (fun d _ _ _ _ h => by cases d <;> exact h) hS 8 (some 81) _ rfl (v := ?_) (by kernel_rfl) ?_ ?_
            rotate_left
            · intro _ _; go_simp; first | done | with_reducible rfl
            simp only [Act.put, List.setIfInBounds_toArray, List.set_cons_zero, List.set_cons_succ]
            refine hTake (by kernel_rfl) (fun d _ _ _ _ h => by cases d <;> exact h) hS 9 (some 82) _ rfl (v := ?_) (by kernel_rfl) ?_ ?_
            rotate_left
            · intro w9 hS9; obtain ⟨q0, q1, q2, q3⟩ := HCX.out _ hS9; go_simp; first | done | with_reducible rfl
            simp only [Act.put, List.setIfInBounds_toArray, List.set_cons_zero, List.set_cons_succ]
            refine hTake (by kernel_rfl) (fun d _ _ _ _ h => by cases d <;> exact h) hS 10 (some 83) _ rfl (v := ?_) (by kernel_rfl) ?_ ?_
            rotate_left
            · intro w9 hS9; have q0 := (HQX.out _ hS9).cell 0; have q1 := (HQX.out _ hS9).cell 1; have q2 := (HQX.out _ hS9).cell 2; have q3 := (HQX.out _ hS9).cell 3; go_simp; first | done | with_reducible rfl
            simp only [Act.put, List.setIfInBounds_toArray, List.set_cons_zero, List.set_cons_succ]
            clear HCX HQX
            refine wpAnyH_ready (rs := [5]) (by kernel_rfl) (by simp) ?_
            refine AllReadyH.cons (o := _) rfl (fun K9 hK9 => ?_) AllReadyH.nil
            go_simp
            refine (isIn_any (k : Int) _ (HOX.out _ hS)).mono ?_
            rintro e wq ⟨rfl, rfl⟩
            rw [HSM.out]
            try go_wp2_with fail
            refine hK9.out _ _ hS (fun hS => ?_)
            clear hK9 K9
            try simp only [Act.put, List.setIfInBounds_toArray, List.set_cons_zero, List.set_cons_succ]
            refine wpAnyH_ready (rs := [11]) (by kernel_rfl) (by simp) ?_
            refine AllReadyH.cons (o := _) rfl (fun K9 hK9 => ?_) AllReadyH.nil
            go_simp
            refine (inside_any (r := r) (s := q) _ hrs hqs).mono ?_
            rintro e w9 ⟨rfl, hx9⟩
            try go_wp2_with fail
            refine hK9.out _ _ (after hS hx9 (Nat.le_refl _)) (fun hS => ?_)
            clear hK9 K9
            try simp only [Act.put, List.setIfInBounds_toArray, List.set_cons_zero, List.set_cons_succ]
            clear hx9
            refine hTake (by kernel_rfl) (fun d _ _ _ _ h => by cases d <;> exact h) hS 12 (some 85) _ rfl (v := ?_) (by kernel_rfl) ?_ ?_
            rotate_left
            · intro _ _; go_simp; first | done | with_reducible rfl
            simp only [Act.put, List.setIfInBounds_toArray, List.set_cons_zero, List.set_cons_succ]
            refine hTake (by kernel_rfl) (fun d _ _ _ _ h => by cases d <;> exact h) hS 13 (some 86) _ rfl (v := ?_) (by kernel_rfl) ?_ ?_
            rotate_left
            · intro _ _; go_simp; first | done | with_reducible rfl
            simp only [Act.put, List.setIfInBounds_toArray, List.set_cons_zero, List.set_cons_succ]
            refine wpAnyH_done (by kernel_rfl) ?_ _
            have HB6 := Lib.hid (after hb1 hS (Nat.le_refl _))
            have HR6 := Lib.hid (HRX.out _ hS)
            have HT6 := Lib.hid (HTX.out _ hS)
            have HO6 := Lib.hid (HOX.out _ hS)
            clear hS hb1 HRX HTX HOX
            rw [HSB.out]
            clear HSB HSM
            cases bynd r q with
            | _ =>
              go_wp2
              go_roundw
              case rel => exact ⟨k + 1, by go_num, by omega, by omega, HT6.out, HR6.out, HO6.out, HB6.out⟩
              case measure => simp [intOf]; omega
          · go_simp
            have kZ := Keep.new wd (.cells #[.int .i64 0, .int .i64 0, .int .i64 0, .int .i64 0] 35)
            have hgw := hS.size
            refine hK9.out _ _ (hS.alloc hS.size _) (fun hS => ?_)
            clear hK9 K9
            try simp only [Act.put, List.setIfInBounds_toArray, List.set_cons_zero, List.set_cons_succ]
            generalize wd.alloc (.cells #[.int .i64 0, .int .i64 0, .int .i64 0, .int .i64 0] 35) = we at *
            generalize wd.heap.size = gQ at *
            refine wpAnyH_ready (rs := [17]) (by kernel_rfl) (by simp) ?_
            refine AllReadyH.cons (o := _) rfl (fun K9 hK9 => ?_) AllReadyH.nil
            go_simp
            refine ((HIN.out _)).mono ?_
            rintro e w7 ⟨rfl, hx7⟩
            unfold Rc.agg
            try go_wp2_with fail
            replace kZ := keepE kZ hx7
            refine hK9.out _ _ (after hS hx7 (Nat.le_refl _)) (fun hS => ?_)
            clear hK9 K9
            try simp only [Act.put, List.setIfInBounds_toArray, List.set_cons_zero, List.set_cons_succ]
            clear hx7
            refine hTake (by kernel_rfl) (fun d _ _ _ _ h => by cases d <;> exact h) hS 18 (some 52) _ rfl (v := ?_) (by kernel_rfl) ?_ ?_
            rotate_left
            · intro _ _; go_simp; first | done | with_reducible rfl
            simp only [Act.put, List.setIfInBounds_toArray, List.set_cons_zero, List.set_cons_succ]
            refine hTake (by kernel_rfl) (fun d _ _ _ _ h => by cases d <;> exact h) hS 19 (some 71) _ rfl (v := ?_) (by kernel_rfl) ?_ ?_
            rotate_left
            · intro _ _; go_simp; first | done | with_reducible rfl
            simp only [Act.put, List.setIfInBounds_toArray, List.set_cons_zero, List.set_cons_succ]
            refine hTake (by kernel_rfl) (fun d _ _ _ _ h => by cases d <;> exact h) hS 20 (some 72) _ rfl (v := ?_) (by kernel_rfl) ?_ ?_
            rotate_left
            · intro _ _; go_simp; first | done | with_reducible rfl
            simp only [Act.put, List.setIfInBounds_toArray, List.set_cons_zero, List.set_cons_succ]
            have z0 := kZ.cell 0
            have z1 := kZ.cell 1
            have z2 := kZ.cell 2
            have z3 := kZ.cell 3
            have f0 := kZ.frozen 0
            have f1 := kZ.frozen 1
            have f2 := kZ.frozen 2
            have f3 := kZ.frozen 3
            have kQ := keep_rect kZ rfl (.int .i64 q.x) (.int .i64 q.y) (.int .i64 q.w) (.int .i64 q.h)
            refine wpAnyH_ready (rs := [22]) (by kernel_rfl) (by simp) ?_
            refine AllReadyH.cons (o := _) rfl (fun K9 hK9 => ?_) AllReadyH.nil
            go_simp
            refine hK9.out _ _ (below_set4' hS hgw _ _ _ _) (fun hS => ?_)
            clear hK9 K9
            try simp only [Act.put, List.setIfInBounds_toArray, List.set_cons_zero, List.set_cons_succ]
            clear z0 z1 z2 z3 f0 f1 f2 f3 kZ hgw
            generalize (((w7.setCell ⟨gQ, 0, none⟩ (.int .i64 q.x)).setCell ⟨gQ, 1, none⟩ (.int .i64 q.y)).setCell ⟨gQ, 2, none⟩ (.int .i64 q.w)).setCell ⟨gQ, 3, none⟩ (.int .i64 q.h) = W7 at *
            refine hTake (by kernel_rfl) (fun d _ _ _ _ h => by cases d <;> exact h) hS 23 (some 10) _ rfl (v := ?_) (by kernel_rfl) ?_ ?_
            rotate_left
            · intro _ _; go_simp; first | done | with_reducible rfl
            simp only [Act.put, List.setIfInBounds_toArray, List.set_cons_zero, List.set_cons_succ]
            refine wpAnyH_done (by kernel_rfl) ?_ _
            have hb1 := after hb hS (Nat.le_refl _)
            have hR7 := HRR.out.below hS (Nat.le_refl _)
            have hT7 := HTT.out.below hS (Nat.le_refl _)
            have hO7 := HOO.out.below hS (Nat.le_refl _)
            have hrc := hR7.cs k hlt
            have hlr := hR7.lt
            have hlq := kQ.lt
            have HRX := Lib.hid (fun w9 (h : Below W7.heap.size W7 w9) => hR7.below h (Nat.le_refl _))
            have HTX := Lib.hid (fun w9 (h : Below W7.heap.size W7 w9) => hT7.below h (Nat.le_refl _))
            have HOX := Lib.hid (fun w9 (h : Below W7.heap.size W7 w9) => hO7.below h (Nat.le_refl _))
            have HCX := Lib.hid (fun w9 (h : Below W7.heap.size W7 w9) => hrc.below h hlr)
            have HQX := Lib.hid (fun w9 (h : Below W7.heap.size W7 w9) => (show Keep gQ (.cells #[.int .i64 q.x, .int .i64 q.y, .int .i64 q.w, .int .i64 q.h] 35) w9 from (h.block _ hlq).trans kQ))
            clear hS hb hR7 hT7 hO7 kQ HRR HTT HOO hrc hlr hlq
            generalize rect l sw sh k = r at *
            go_upto_region 12 with fail
            refine wp_region_held_drew (S := fun w' => Below W7.heap.size W7 w') (by kernel_rfl) (Below.refl _ _).drew (fun hS => ?_)
            change wpAnyH _ _ _ _ _ _ _ _ W7.drew
            generalize W7.drew = we at *
            refine hTake (by kernel_rfl) (fun d _ _ _ _ h => by cases d <;> exact h) hS 0 (some 73) _ rfl (v := ?_) (by kernel_rfl) ?_ ?_
            rotate_left
            · intro _ _; go_simp; first | done | with_reducible rfl
            simp only [Act.put, List.setIfInBounds_toArray, List.set_cons_zero, List.set_cons_succ]
            refine hTake (by kernel_rfl) (fun d _ _ _ _ h => by cases d <;> exact h) hS 1 (some 74) _ rfl (v := ?_) (by kernel_rfl) ?_ ?_
            rotate_left
            · intro _ _; go_simp; first | done | with_reducible rfl
            simp only [Act.put, List.setIfInBounds_toArray, List.set_cons_zero, List.set_cons_succ]
            refine hTake (by kernel_rfl) (fun d _ _ _ _ h => by cases d <;> exact h) hS 2 (some 75) _ rfl (v := ?_) (by kernel_rfl) ?_ ?_
            rotate_left
            · intro _ _; go_simp; first | done | with_reducible rfl
            simp only [Act.put, List.setIfInBounds_toArray, List.set_cons_zero, List.set_cons_succ]
            refine hTake (by kernel_rfl) (fun d _ _ _ _ h => by cases d <;> exact h) hS 3 (some 76) _ rfl (v := ?_) (by kernel_rfl) ?_ ?_
            rotate_left
            · intro _ _; go_simp; first | done | with_reducible rfl
            simp only [Act.put, List.setIfInBounds_toArray, List.set_cons_zero, List.set_cons_succ]
            refine hTake (by kernel_rfl) (fun d _ _ _ _ h => by cases d <;> exact h) hS 4 (some 77) _ rfl (v := ?_) (by kernel_rfl) ?_ ?_
            rotate_left
            · intro _ _; go_simp; first | done | with_reducible rfl
            simp only [Act.put, List.setIfInBounds_toArray, List.set_cons_zero, List.set_cons_succ]
            refine hTake (by kernel_rfl) (fun d _ _ _ _ h => by cases d <;> exact h) hS 6 (some 79) _ rfl (v := ?_) (by kernel_rfl) ?_ ?_
            rotate_left
            · intro _ _; go_simp; first | done | with_reducible rfl
            simp only [Act.put, List.setIfInBounds_toArray, List.set_cons_zero, List.set_cons_succ]
            refine hTake (by kernel_rfl) (fun d _ _ _ _ h => by cases d <;> exact h) hS 7 (some 80) _ rfl (v := ?_) (by kernel_rfl) ?_ ?_
            rotate_left
            · intro _ _; go_simp; first | done | with_reducible rfl
            simp only [Act.put, List.setIfInBounds_toArray, List.set_cons_zero, List.set_cons_succ]
            refine hTake (by kernel_rfl) (fun d _ _ _ _ h => by cases d <;> exact h) hS 8 (some 81) _ rfl (v := ?_) (by kernel_rfl) ?_ ?_
            rotate_left
            · intro _ _; go_simp; first | done | with_reducible rfl
            simp only [Act.put, List.setIfInBounds_toArray, List.set_cons_zero, List.set_cons_succ]
            refine hTake (by kernel_rfl) (fun d _ _ _ _ h => by cases d <;> exact h) hS 9 (some 82) _ rfl (v := ?_) (by kernel_rfl) ?_ ?_
            rotate_left
            · intro w9 hS9; obtain ⟨q0, q1, q2, q3⟩ := HCX.out _ hS9; go_simp; first | done | with_reducible rfl
            simp only [Act.put, List.setIfInBounds_toArray, List.set_cons_zero, List.set_cons_succ]
            refine hTake (by kernel_rfl) (fun d _ _ _ _ h => by cases d <;> exact h) hS 10 (some 83) _ rfl (v := ?_) (by kernel_rfl) ?_ ?_
            rotate_left
            · intro w9 hS9; have q0 := (HQX.out _ hS9).cell 0; have q1 := (HQX.out _ hS9).cell 1; have q2 := (HQX.out _ hS9).cell 2; have q3 := (HQX.out _ hS9).cell 3; go_simp; first | done | with_reducible rfl
            simp only [Act.put, List.setIfInBounds_toArray, List.set_cons_zero, List.set_cons_succ]
            clear HCX HQX
            refine wpAnyH_ready (rs := [5]) (by kernel_rfl) (by simp) ?_
            refine AllReadyH.cons (o := _) rfl (fun K9 hK9 => ?_) AllReadyH.nil
            go_simp
            refine (isIn_any (k : Int) _ (HOX.out _ hS)).mono ?_
            rintro e wq ⟨rfl, rfl⟩
            rw [HSM.out]
            try go_wp2_with fail
            refine hK9.out _ _ hS (fun hS => ?_)
            clear hK9 K9
            try simp only [Act.put, List.setIfInBounds_toArray, List.set_cons_zero, List.set_cons_succ]
            refine wpAnyH_ready (rs := [11]) (by kernel_rfl) (by simp) ?_
            refine AllReadyH.cons (o := _) rfl (fun K9 hK9 => ?_) AllReadyH.nil
            go_simp
            refine (inside_any (r := r) (s := q) _ hrs hqs).mono ?_
            rintro e w9 ⟨rfl, hx9⟩
            try go_wp2_with fail
            refine hK9.out _ _ (after hS hx9 (Nat.le_refl _)) (fun hS => ?_)
            clear hK9 K9
            try simp only [Act.put, List.setIfInBounds_toArray, List.set_cons_zero, List.set_cons_succ]
            clear hx9
            refine hTake (by kernel_rfl) (fun d _ _ _ _ h => by cases d <;> exact h) hS 12 (some 85) _ rfl (v := ?_) (by kernel_rfl) ?_ ?_
            rotate_left
            · intro _ _; go_simp; first | done | with_reducible rfl
            simp only [Act.put, List.setIfInBounds_toArray, List.set_cons_zero, List.set_cons_succ]
            refine hTake (by kernel_rfl) (fun d _ _ _ _ h => by cases d <;> exact h) hS 13 (some 86) _ rfl (v := ?_) (by kernel_rfl) ?_ ?_
            rotate_left
            · intro _ _; go_simp; first | done | with_reducible rfl
            simp only [Act.put, List.setIfInBounds_toArray, List.set_cons_zero, List.set_cons_succ]
            refine wpAnyH_done (by kernel_rfl) ?_ _
            have HB6 := Lib.hid (after hb1 hS (Nat.le_refl _))
            have HR6 := Lib.hid (HRX.out _ hS)
            have HT6 := Lib.hid (HTX.out _ hS)
            have HO6 := Lib.hid (HOX.out _ hS)
            clear hS hb1 HRX HTX HOX
            rw [HSB.out]
            clear HSB HSM
            cases bynd r q with
            | _ =>
              go_wp2
              go_roundw
              case rel => exact ⟨k + 1, by go_num, by omega, by omega, HT6.out, HR6.out, HO6.out, HB6.out⟩
              case measure => simp [intOf]; omega
        · obtain rfl : k = l.length := by omega
          go_wp2_with (fail)
          refine (isIn_any 0 _ hrO).mono ?_
          rintro e wq ⟨rfl, rfl⟩
          rw [spl_zero]
          go_wp2
          go_ret
          exact ⟨rfl, hb⟩
end Go.Proofs.Ytkbgmfapcekakaa
