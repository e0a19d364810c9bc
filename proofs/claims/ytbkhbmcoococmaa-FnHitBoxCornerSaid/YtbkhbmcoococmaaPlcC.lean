/-
  Boxes are placed: spec.place, a column.
-/
import Derived.Test.YtbkhbmcoococmaaAh
namespace Go.Proofs.Ytbkhbmcoococmaa
open Go Go.RowKit

set_option maxRecDepth 100000 in
set_option maxHeartbeats 40000000 in
theorem place_col_step {S : Nat} {tv : Value} {l : List Bx} {sw sh : Int} (hv : Valid l) (hsw : 0 ≤ sw ∧ sw ≤ 10000) (hsh : 0 ≤ sh ∧ sh ≤ 10000) {f : Nat} (ih0 : PlI S tv l sw sh f) : PlS S tv l sw sh f (fun p => kid l (p : Int) ≠ [] ∧ (bx l p).kind = 3) := by
  intro p hf hp hcas w R hR htv ho
  have HCAS := Lib.hid hcas
  clear hcas
  obtain ⟨at_, ct, rfl, hnt, hct, _⟩ := (htv w (gr_refl S w)).boxes
  unfold maxLen at hct
  have ih := Lib.hid ih0
  have HT := Lib.hid htv
  have HV := Lib.hid hv
  have hkn := (hv.kids p hp).1
  have hhi := hv.hi
  have hbd := okB_bounds (hv.ok p hp)
  have hrb := rect_ok hv hsw hsh hp
  have hrs : RS (rect l sw sh p) := hrb.rs (by omega)
  have hin := inset_ok (r := rect l sw sh p) (e := (bx l p).pad) (by omega) (by obtain ⟨_, _, _, _, h5, h6, _, _⟩ := hrb; exact ⟨h5, h6⟩) (by obtain ⟨_, _, _, _, _, _, h7, h8⟩ := hrb; exact ⟨h7, h8⟩)
  have HPZ := Lib.hid (plT_zero (l := l) hv (sw := sw) (sh := sh) (p := p) hp hR)
  have HRK := Lib.hid (fun j k (h : (kid l (p : Int))[j]? = some k) => rect_kid hv (w := sw) (h := sh) (p := p) h)
  have hSl := rects_lt ho (by omega)
  obtain ⟨bt, ot, rfl, hbt, _, ⟨d0, d1, d2, d3, d4, d5, d6, d7, d8⟩⟩ := bx_cells (htv w (gr_refl S w)) hp
  have hpi : (p : Int) < l.length := by omega
  obtain ⟨r, hr⟩ : ∃ r, rect l sw sh p = r := ⟨_, rfl⟩
  rw [hr] at hrb hrs hin ⊢
  have HR := Lib.hid hr
  have HRR := Lib.hid hR
  have hoA := (ho.alloc (.cells r.arr 39)).alloc (.cells (bx l p).arr 30)
  have kr := (Keep.new w (.cells r.arr 39)).alloc (.cells (bx l p).arr 30)
  have kb := keep_next w (.cells r.arr 39) (.cells (bx l p).arr 30)
  have hgA : Gr S w _ := gr_ext (ext_two w (.cells r.arr 39) (.cells (bx l p).arr 30))
  unfold Rc.arr Bx.arr at hoA kr kb hgA
  unfold Rc.agg
  clear hr htv ho hv hR
  go_enter Try.func90, Try.ntmps90
  go_upto_region 2 with fail
  generalize (w.alloc (.cells #[.int .i64 r.x, .int .i64 r.y, .int .i64 r.w, .int .i64 r.h] 39)).alloc (.cells #[.int .i64 (bx l p).parent, .int .i64 (bx l p).kind, .int .i64 (bx l p).w, .int .i64 (bx l p).h, .int .i64 (bx l p).pad, .int .i64 (bx l p).gap, .int .i64 (bx l p).grow, .int .i64 (bx l p).shrink, .int .i64 (bx l p).justify] 30) = W1 at *
  obtain ⟨g, hg⟩ : ∃ g, w.heap.size = g := ⟨_, rfl⟩
  rw [hg] at kr kb hSl
  obtain ⟨hfz, ⟨z, ⟨z0, z1, z2, z3⟩⟩, hset⟩ := rects_at hoA HRR.out hp
  have hoB := hset r
  have f0 := hfz (p * 4)
  have f1 := hfz (p * 4 + 1)
  have f2 := hfz (p * 4 + 2)
  have f3 := hfz (p * 4 + 3)
  have r0 := kr.cell 0
  have r1 := kr.cell 1
  have r2 := kr.cell 2
  have r3 := kr.cell 3
  have hgs : Gr S W1 ((((W1.setCell ⟨S, p * 4, none⟩ (.int .i64 r.x)).setCell ⟨S, p * 4 + 1, none⟩ (.int .i64 r.y)).setCell ⟨S, p * 4 + 2, none⟩ (.int .i64 r.w)).setCell ⟨S, p * 4 + 3, none⟩ (.int .i64 r.h)) := gr_set (gr_set (gr_set (gr_set (gr_refl S W1) _ _) _ _) _ _) _ _
  have krB := kr.gr hgs (by omega)
  have kbB := kb.gr hgs (by omega)
  have hgB := gr_trans hgA hgs
  rw [hg]
  clear hoA kr kb hgA hset hfz hgs d0 d1 d2 d3 d4 d5 d6 d7 d8 hbt
  go_upto_region 3 with fail
  clear z0 z1 z2 z3 f0 f1 f2 f3 r0 r1 r2 r3
  generalize (((W1.setCell ⟨S, p * 4, none⟩ (.int .i64 r.x)).setCell ⟨S, p * 4 + 1, none⟩ (.int .i64 r.y)).setCell ⟨S, p * 4 + 2, none⟩ (.int .i64 r.w)).setCell ⟨S, p * 4 + 3, none⟩ (.int .i64 r.h) = W2 at *
  have r0 := krB.cell 0
  have r1 := krB.cell 1
  have r2 := krB.cell 2
  have r3 := krB.cell 3
  have b4 := kbB.cell 4
  have hs2 := kbB.lt
  obtain ⟨q, hq⟩ : ∃ q, insetR r (bx l p).pad = q := ⟨_, rfl⟩
  have HQ := Lib.hid hq
  go_wp2_with (fail)
  refine (sinset_any (r := r) (e := (bx l p).pad) _ hrs (by omega)).mono ?_
  rintro e w3 ⟨rfl, hx⟩
  have hqx : (0 ≤ r.x ∧ r.x ≤ 100000) ∧ 0 ≤ r.y ∧ r.y ≤ 100000 := by obtain ⟨h1, h2, h3, h4, _⟩ := hrb; exact ⟨⟨h1, h2⟩, h3, h4⟩
  rw [hq] at hin ⊢
  have hoC := (hoB.below hx (Nat.le_refl _)).alloc (.cells q.arr 39)
  have kbC := (kbB.gr (S := S) (gr_ext hx) (by omega)).alloc (.cells q.arr 39)
  have kqC := Keep.new w3 (.cells q.arr 39)
  have hgC := gr_trans (gr_trans hgB (gr_ext hx)) (gr_ext (Below.of_alloc w3 (.cells q.arr 39)))
  have hs3 := hx.size
  clear hoB kbB krB hgB hx r0 r1 r2 r3 b4 hq hrs hrb
  unfold Rc.arr at hoC kbC kqC hgC
  unfold Rc.agg
  go_upto_region 4 with fail
  generalize w3.alloc (.cells #[.int .i64 q.x, .int .i64 q.y, .int .i64 q.w, .int .i64 q.h] 39) = W4 at *
  obtain ⟨g9, hg9⟩ : ∃ g9, w3.heap.size = g9 := ⟨_, rfl⟩
  rw [hg9] at kqC hs3 ⊢
  clear hg9
  have hs4 := kqC.lt
  go_wp2_with (fail)
  refine (skids_any (l := l) W4 (by omega) hpi (HT.out _ hgC) (by omega)).mono ?_
  rintro e w5 ⟨v5, rfl, ho5, hx⟩
  rw [Int.toNat_natCast, skid_valid HV.out] at ho5
  have hM : PlM S (g + 1) g9 w w5 v5 l p q := ⟨gr_trans hgC (gr_ext hx), kbC.gr (S := S) (gr_ext hx) (by omega), kqC.gr (S := S) (gr_ext hx) (by omega), ho5.weak (by omega), by omega, by omega⟩
  have hoD := hoC.below hx (Nat.le_refl _)
  clear hoC kbC kqC hgC ho5 hx
  obtain ⟨al, cl, rfl, hnl, hcl, _⟩ := hM.L.rd.ints
  rw [ni_length] at hnl hM ⊢
  unfold maxLen at hcl
  have HBF := Lib.hid (hM.b)
  have m1 : w5.cell? ⟨g + 1, 1, none⟩ = some (.int .i64 (bx l p).kind) := hM.b.cell 1
  have m5 : w5.cell? ⟨g + 1, 5, none⟩ = some (.int .i64 (bx l p).gap) := hM.b.cell 5
  clear ih0
  obtain ⟨hnil, hkd⟩ := HCAS.out
  have hpos : 0 < (kid l (p : Int)).length := List.length_pos_iff.2 hnil
  have hz : (((kid l (p : Int)).length : Int) == 0) = false := beq_eq_false_iff_ne.2 (by omega)
  have hgp := gap_le HV.out hp (n := ((kid l (p : Int)).length : Int) - 1) (by omega) (by omega)
  clear hnil
  · have e2 : ((bx l p).kind == 2) = false := by rw [hkd]; rfl
    have e3 : ((bx l p).kind == 3) = true := by rw [hkd]; rfl
    have HPL := Lib.hid (fun j k => place_col (l := l) (p := p) hkd j k r)
    have hsp := spc_le HV.out hp hpos (space := q.h) (by omega)
    have hszr : (szs false l p q.h).length = (kid l (p : Int)).length := szs_length HV.out _ _ _
    have HSZ := Lib.hid (szs_mem HV.out false p q.h)
    have HSL := Lib.hid hszr
    have hofl : (offL (szs false l p q.h) q.h (bx l p).gap (bx l p).justify).length = (kid l (p : Int)).length := by rw [offL_length, hszr]
    have HOL := Lib.hid hofl
    have hjw : IntKind.i64.wrap (((kid l (p : Int)).length : Int) - 1) = ((kid l (p : Int)).length : Int) - 1 := by rw [IntKind.wrap_i64]; omega
    have hqw : IntKind.i64.wrap (q.h - (bx l p).gap * (((kid l (p : Int)).length : Int) - 1)) = q.h - (bx l p).gap * (((kid l (p : Int)).length : Int) - 1) := by rw [IntKind.wrap_i64]; omega
    have HMX := Lib.hid (fun w9 (h : Below w5.heap.size w5 w9) => hM.gr (gr_ext h))
    have HOX := Lib.hid (fun w9 (h : Below w5.heap.size w5 w9) => hoD.below h (Nat.le_refl _))
    have HFX := Lib.hid (fun (W : World) (v : Value) (h : Rd W 5 v (Fs (flxsOf false l p))) => flex_any (space := spc l p q.h) W h (flxs_ok HV.out _ _) (by rw [flxs_length]; exact hkn) ⟨hsp.1, by omega⟩)
    have HOFF := Lib.hid (fun (W : World) (v : Value) (h : Rd W 1 v (Is (szs false l p q.h))) => soffsets_any (space := q.h) (gap := (bx l p).gap) (j := (bx l p).justify) W h (by rw [HSL.out]; omega) (by rw [HSL.out]; omega) HSZ.out (by omega) (by omega) (by omega))
    have HOG := Lib.hid (fun j (h : j < (kid l (p : Int)).length) => show (offL (szs false l p q.h) q.h (bx l p).gap (bx l p).justify)[j]? = some (offK false l p q.h j) from offL_get (by rw [HSL.out]; exact h))
    have HBD := Lib.hid (fun j (h : j < (kid l (p : Int)).length) => offK_le HV.out false (space := q.h) hp (by omega) (szs_get HV.out false q.h (List.getElem?_eq_getElem h)))
    clear hszr hofl hkd hsp
    by_cases hneg : q.h - (bx l p).gap * (((kid l (p : Int)).length : Int) - 1) ≤ 0
    · have hse : spc l p q.h = 0 := by unfold spc; omega
      have HSE : Hid (flexL (flxsOf false l p) 0 = szs false l p q.h) := by
        show flexL (flxsOf false l p) 0 = flexL (flxsOf false l p) (spc l p q.h)
        rw [hse]
      rw [hse] at HFX
      clear hse
      go_upto_region 23 with fail
      refine wp_region_held_drew (S := fun w' => Below w5.heap.size w5 w') (by kernel_rfl) (Below.refl _ _).drew (fun hS => ?_)
      clear m1 m5
      change wpAnyH _ _ _ _ _ _ _ _ w5.drew
      obtain ⟨w6, hw6⟩ : ∃ w6, w5.drew = w6 := ⟨_, rfl⟩
      rw [hw6] at hS ⊢
      clear hw6
      have hs65 := hS.size
      refine hTake (by kernel_rfl) (fun d _ _ _ _ h => by cases d <;> exact h) hS 0 (some 135) _ rfl (v := ?_) (by kernel_rfl) ?_ ?_
      rotate_left
      · intro _ _; go_simp; first | done | with_reducible rfl
      simp only [Act.put, List.setIfInBounds_toArray, List.set_cons_zero, List.set_cons_succ]
      refine hTake (by kernel_rfl) (fun d _ _ _ _ h => by cases d <;> exact h) hS 1 (some 136) _ rfl (v := ?_) (by kernel_rfl) ?_ ?_
      rotate_left
      · intro _ _; go_simp; first | done | with_reducible rfl
      simp only [Act.put, List.setIfInBounds_toArray, List.set_cons_zero, List.set_cons_succ]
      refine hTake (by kernel_rfl) (fun d _ _ _ _ h => by cases d <;> exact h) hS 3 (some 138) _ rfl (v := ?_) (by kernel_rfl) ?_ ?_
      rotate_left
      · intro _ _; go_simp; first | done | with_reducible rfl
      simp only [Act.put, List.setIfInBounds_toArray, List.set_cons_zero, List.set_cons_succ]
      refine hTake (by kernel_rfl) (fun d _ _ _ _ h => by cases d <;> exact h) hS 4 (some 139) _ rfl (v := ?_) (by kernel_rfl) ?_ ?_
      rotate_left
      · intro w9 hS9; have qq : w9.cell? ⟨g9, 3, none⟩ = some (.int .i64 q.h) := (HMX.out _ hS9).r.cell 3; go_simp; first | done | with_reducible rfl
      simp only [Act.put, List.setIfInBounds_toArray, List.set_cons_zero, List.set_cons_succ]
      refine hTake (by kernel_rfl) (fun d _ _ _ _ h => by cases d <;> exact h) hS 5 (some 140) _ rfl (v := ?_) (by kernel_rfl) ?_ ?_
      rotate_left
      · intro _ _; go_simp; first | done | with_reducible rfl
      simp only [Act.put, List.setIfInBounds_toArray, List.set_cons_zero, List.set_cons_succ]
      refine hTake (by kernel_rfl) (fun d _ _ _ _ h => by cases d <;> exact h) hS 6 (some 141) _ rfl (v := ?_) (by kernel_rfl) ?_ ?_
      rotate_left
      · intro _ _; go_simp; first | done | with_reducible rfl
      simp only [Act.put, List.setIfInBounds_toArray, List.set_cons_zero, List.set_cons_succ]
      refine hTake (by kernel_rfl) (fun d _ _ _ _ h => by cases d <;> exact h) hS 7 (some 142) _ rfl (v := ?_) (by kernel_rfl) ?_ ?_
      rotate_left
      · intro _ _; go_simp; first | done | with_reducible rfl
      simp only [Act.put, List.setIfInBounds_toArray, List.set_cons_zero, List.set_cons_succ]
      refine wpAnyH_ready (rs := [2]) (by kernel_rfl) (by simp) ?_
      refine AllReadyH.cons (o := _) rfl (fun K9 hK9 => ?_) AllReadyH.nil
      go_simp
      refine (sflexes_false w6 HV.out (HT.out _ (HMX.out _ hS).g) hp (HMX.out _ hS).L.rd).mono ?_
      rintro e w7 ⟨v7, rfl, ho7, hx7⟩
      try go_wp2_with fail
      have hS7 := after hS hx7 (Nat.le_refl _)
      refine hK9.out _ _ hS7 (fun hS => ?_)
      clear hK9 K9
      try simp only [Act.put, List.setIfInBounds_toArray, List.set_cons_zero, List.set_cons_succ]
      clear hS7
      refine wpAnyH_ready (rs := [8]) (by kernel_rfl) (by simp) ?_
      refine AllReadyH.cons (o := _) rfl (fun K9 hK9 => ?_) AllReadyH.nil
      go_simp
      refine (HFX.out w7 v7 ho7.rd).mono ?_
      rintro e w8 ⟨v8, rfl, ho8, hx8⟩
      try go_wp2_with fail
      have hS8 := after hS hx8 (Nat.le_refl _)
      refine hK9.out _ _ hS8 (fun hS => ?_)
      clear hK9 K9
      try simp only [Act.put, List.setIfInBounds_toArray, List.set_cons_zero, List.set_cons_succ]
      clear hS8
      rw [HSE.out] at ho8
      have hlo8 : S + 1 ≤ w7.heap.size := by have := hx7.size; have := hM.g.size; have := hS.size; omega
      have hoS := ho8.weak hlo8
      have hM8 := HMX.out _ hS
      have hO8 := HOX.out _ hS
      clear ho7 ho8 hx7 hx8 hlo8
      obtain ⟨az, cs, rfl, hns, hcs, _⟩ := hoS.rd.ints
      rw [HSL.out] at hns hoS ⊢
      unfold maxLen at hcs
      refine hTake (by kernel_rfl) (fun d _ _ _ _ h => by cases d <;> exact h) hS 9 (some 15) _ rfl (v := ?_) (by kernel_rfl) ?_ ?_
      rotate_left
      · intro _ _; go_simp; first | done | with_reducible rfl
      simp only [Act.put, List.setIfInBounds_toArray, List.set_cons_zero, List.set_cons_succ]
      refine wpAnyH_done (by kernel_rfl) ?_ _
      have HS := Lib.hid hS
      clear hS
      have m2 : w8.cell? ⟨g9, 3, none⟩ = some (.int .i64 q.h) := hM8.r.cell 3
      have m5 : w8.cell? ⟨g + 1, 5, none⟩ = some (.int .i64 (bx l p).gap) := hM8.b.cell 5
      have m8 : w8.cell? ⟨g + 1, 8, none⟩ = some (.int .i64 (bx l p).justify) := hM8.b.cell 8
      go_wp2_with (fail)
      refine (HOFF.out w8 _ hoS.rd).mono ?_
      rintro e w10 ⟨v10, rfl, ho10, hx10⟩
      have hoF := ho10.weak (show S + 1 ≤ w8.heap.size by have := hM8.g.size; omega)
      have hM10 := hM8.gr (gr_ext hx10)
      have hO10 := hO8.below hx10 (Nat.le_refl _)
      have hoT := hoS.below hx10 (Nat.le_refl _)
      clear ho10 hM8 hO8 hoS hx10 m2 m5 m8 HS
      obtain ⟨ao, co, rfl, hno, hco, _⟩ := hoF.rd.ints
      rw [HOL.out] at hno hoF ⊢
      unfold maxLen at hco
      go_wp2_with (fail)
      go_loopw [17] (fun i wr => ∃ (j : Nat) (R' : List Rc), j ≤ (kid l (p : Int)).length ∧ i = .int .i64 j ∧ PlM S (g + 1) g9 w wr (.slice al (kid l (p : Int)).length cl) l p q ∧ Own wr (S + 1) 1 (.slice az (kid l (p : Int)).length cs) (Is (szs false l p q.h)) ∧ Own wr (S + 1) 1 (.slice ao (kid l (p : Int)).length co) (Is (offL (szs false l p q.h) q.h (bx l p).gap (bx l p).justify)) ∧ Own wr S 4 (.slice (some ⟨S, 0, none⟩) l.length l.length) (Rs R') ∧ Hid (PlT l sw sh p j R R')) (fun i _ => (kid l (p : Int)).length - (intOf i).toNat)
      case atStart => exact ⟨0, _, Nat.zero_le _, rfl, hM10, hoT, hoF, hO10, by rw [← HR.out]; exact HPZ.out⟩
      case round =>
        clear hM hoD hM10 hoT hoF hO10 HMX HOX HFX HOFF HBF
        obtain ⟨j, R', hj, rfl, hM, hoT, hoF, hO, hP⟩ := hrel
        by_cases hlt : j < (kid l (p : Int)).length
        · obtain ⟨k, hk⟩ : ∃ k, (kid l (p : Int))[j]? = some k := ⟨_, List.getElem?_eq_getElem hlt⟩
          obtain ⟨hkl, hkp⟩ := mem_kid_iff.1 (List.mem_of_getElem? hk)
          have hM2 := hM.gr (gr_drew (gr_refl S wr))
          have hoT2 := hoT.drew
          have hoF2 := hoF.drew
          have hO2 := hO.drew
          clear hM hoT hoF hO
          obtain ⟨ga, oa, rfl, _, ck⟩ := hM2.L.intAt (show (ni (kid l (p : Int)))[j]? = some (k : Int) by simp [ni, hk])
          obtain ⟨gs, os, rfl, _, cz⟩ := hoT2.intAt (szs_get HV.out false q.h hk)
          obtain ⟨go_, oo, rfl, _, co_⟩ := hoF2.intAt (HOG.out j hlt)
          have hji : (j : Int) < (kid l (p : Int)).length := by omega
          have hkw : IntKind.i64.wrap ((j : Int) + 1) = (j : Int) + 1 := by rw [IntKind.wrap_i64]; omega
          have hbo := HBD.out j hlt
          have hzb := HSZ.out _ (List.mem_of_getElem? (szs_get HV.out false q.h hk))
          have HPS := Lib.hid (fun (R' R'' : List Rc) (h : PlT l sw sh p j R R') (h2 : PlA l sw sh k R' R'') => plT_step HV.out h hk h2)
          have HQR : Hid ((rect l sw sh k).agg = .agg #[.int .i64 q.x, .int .i64 (q.y + offK false l p q.h j), .int .i64 q.w, .int .i64 ((szs false l p q.h).getD j 0)]) := by
            show _ = _
            rw [HRK.out j k hk, HR.out, HPL.out, HQ.out]
            rfl
          have hkd := (HV.out.down hkl) k (Nat.le_refl _)
          have HMS := Lib.hid (show l.length - k ≤ f by omega)
          have d0 : wr.drew.cell? ⟨g9, 0, none⟩ = some (.int .i64 q.x) := hM2.r.cell 0
          have d1 : wr.drew.cell? ⟨g9, 1, none⟩ = some (.int .i64 q.y) := hM2.r.cell 1
          have d3 : wr.drew.cell? ⟨g9, 2, none⟩ = some (.int .i64 q.w) := hM2.r.cell 2
          generalize (szs false l p q.h).getD j 0 = sz at *
          obtain ⟨of_, hof⟩ : ∃ of_, offK false l p q.h j = of_ := ⟨_, rfl⟩
          rw [hof] at hbo co_ HQR
          have hsw : IntKind.i64.wrap (q.y + of_) = q.y + of_ := by rw [IntKind.wrap_i64]; omega
          clear hk hkp hkd hof
          go_upto_region 28 with fail
          go_still_tail 22, (by kernel_rfl)
          repeat still_step
          try refine wpStill_nil ?_
          change wpList _ _ _ _ _ wr.drew
          generalize wr.drew = w11 at *
          clear d0 d1 d3 ck cz co_
          go_wp2_with (fail)
          have hC := ih.out k HMS.out hkl w11 R' hP.out.1 (fun w' h => HT.out w' (gr_trans hM2.g h)) hO2
          rw [HQR.out] at hC
          refine hC.mono ?_
          rintro e w12 ⟨rfl, hg12, R'', hO12, hA12⟩
          have hM12 := hM2.gr hg12
          have hoT12 := hoT2.gr (Nat.lt_succ_self S) hg12
          have hoF12 := hoF2.gr (Nat.lt_succ_self S) hg12
          have HP12 := Lib.hid (HPS.out R' R'' hP.out hA12)
          clear hM2 hO2 hg12 hA12 hC hoT2 hoF2 HQR
          go_wp2
          go_roundw
          case rel => exact ⟨j + 1, R'', by omega, by go_num, hM12, hoT12, hoF12, hO12, HP12⟩
          case measure => simp [intOf]; omega
        · obtain rfl : j = (kid l (p : Int)).length := by omega
          have HEND := Lib.hid (plT_end HV.out hP.out)
          go_wp2
          go_end0
          exact ⟨rfl, hM.g, _, hO, HEND.out⟩
    · have hse : spc l p q.h = q.h - (bx l p).gap * (((kid l (p : Int)).length : Int) - 1) := by unfold spc; omega
      have HSE : Hid (flexL (flxsOf false l p) (q.h - (bx l p).gap * (((kid l (p : Int)).length : Int) - 1)) = szs false l p q.h) := by
        show flexL (flxsOf false l p) _ = flexL (flxsOf false l p) (spc l p q.h)
        rw [hse]
      rw [hse] at HFX
      clear hse
      go_upto_region 23 with fail
      refine wp_region_held_drew (S := fun w' => Below w5.heap.size w5 w') (by kernel_rfl) (Below.refl _ _).drew (fun hS => ?_)
      clear m1 m5
      change wpAnyH _ _ _ _ _ _ _ _ w5.drew
      obtain ⟨w6, hw6⟩ : ∃ w6, w5.drew = w6 := ⟨_, rfl⟩
      rw [hw6] at hS ⊢
      clear hw6
      have hs65 := hS.size
      refine hTake (by kernel_rfl) (fun d _ _ _ _ h => by cases d <;> exact h) hS 0 (some 135) _ rfl (v := ?_) (by kernel_rfl) ?_ ?_
      rotate_left
      · intro _ _; go_simp; first | done | with_reducible rfl
      simp only [Act.put, List.setIfInBounds_toArray, List.set_cons_zero, List.set_cons_succ]
      refine hTake (by kernel_rfl) (fun d _ _ _ _ h => by cases d <;> exact h) hS 1 (some 136) _ rfl (v := ?_) (by kernel_rfl) ?_ ?_
      rotate_left
      · intro _ _; go_simp; first | done | with_reducible rfl
      simp only [Act.put, List.setIfInBounds_toArray, List.set_cons_zero, List.set_cons_succ]
      refine hTake (by kernel_rfl) (fun d _ _ _ _ h => by cases d <;> exact h) hS 3 (some 138) _ rfl (v := ?_) (by kernel_rfl) ?_ ?_
      rotate_left
      · intro _ _; go_simp; first | done | with_reducible rfl
      simp only [Act.put, List.setIfInBounds_toArray, List.set_cons_zero, List.set_cons_succ]
      refine hTake (by kernel_rfl) (fun d _ _ _ _ h => by cases d <;> exact h) hS 4 (some 139) _ rfl (v := ?_) (by kernel_rfl) ?_ ?_
      rotate_left
      · intro w9 hS9; have qq : w9.cell? ⟨g9, 3, none⟩ = some (.int .i64 q.h) := (HMX.out _ hS9).r.cell 3; go_simp; first | done | with_reducible rfl
      simp only [Act.put, List.setIfInBounds_toArray, List.set_cons_zero, List.set_cons_succ]
      refine hTake (by kernel_rfl) (fun d _ _ _ _ h => by cases d <;> exact h) hS 5 (some 140) _ rfl (v := ?_) (by kernel_rfl) ?_ ?_
      rotate_left
      · intro _ _; go_simp; first | done | with_reducible rfl
      simp only [Act.put, List.setIfInBounds_toArray, List.set_cons_zero, List.set_cons_succ]
      refine hTake (by kernel_rfl) (fun d _ _ _ _ h => by cases d <;> exact h) hS 6 (some 141) _ rfl (v := ?_) (by kernel_rfl) ?_ ?_
      rotate_left
      · intro _ _; go_simp; first | done | with_reducible rfl
      simp only [Act.put, List.setIfInBounds_toArray, List.set_cons_zero, List.set_cons_succ]
      refine hTake (by kernel_rfl) (fun d _ _ _ _ h => by cases d <;> exact h) hS 7 (some 142) _ rfl (v := ?_) (by kernel_rfl) ?_ ?_
      rotate_left
      · intro _ _; go_simp; first | done | with_reducible rfl
      simp only [Act.put, List.setIfInBounds_toArray, List.set_cons_zero, List.set_cons_succ]
      refine wpAnyH_ready (rs := [2]) (by kernel_rfl) (by simp) ?_
      refine AllReadyH.cons (o := _) rfl (fun K9 hK9 => ?_) AllReadyH.nil
      go_simp
      refine (sflexes_false w6 HV.out (HT.out _ (HMX.out _ hS).g) hp (HMX.out _ hS).L.rd).mono ?_
      rintro e w7 ⟨v7, rfl, ho7, hx7⟩
      try go_wp2_with fail
      have hS7 := after hS hx7 (Nat.le_refl _)
      refine hK9.out _ _ hS7 (fun hS => ?_)
      clear hK9 K9
      try simp only [Act.put, List.setIfInBounds_toArray, List.set_cons_zero, List.set_cons_succ]
      clear hS7
      refine wpAnyH_ready (rs := [8]) (by kernel_rfl) (by simp) ?_
      refine AllReadyH.cons (o := _) rfl (fun K9 hK9 => ?_) AllReadyH.nil
      go_simp
      refine (HFX.out w7 v7 ho7.rd).mono ?_
      rintro e w8 ⟨v8, rfl, ho8, hx8⟩
      try go_wp2_with fail
      have hS8 := after hS hx8 (Nat.le_refl _)
      refine hK9.out _ _ hS8 (fun hS => ?_)
      clear hK9 K9
      try simp only [Act.put, List.setIfInBounds_toArray, List.set_cons_zero, List.set_cons_succ]
      clear hS8
      rw [HSE.out] at ho8
      have hlo8 : S + 1 ≤ w7.heap.size := by have := hx7.size; have := hM.g.size; have := hS.size; omega
      have hoS := ho8.weak hlo8
      have hM8 := HMX.out _ hS
      have hO8 := HOX.out _ hS
      clear ho7 ho8 hx7 hx8 hlo8
      obtain ⟨az, cs, rfl, hns, hcs, _⟩ := hoS.rd.ints
      rw [HSL.out] at hns hoS ⊢
      unfold maxLen at hcs
      refine hTake (by kernel_rfl) (fun d _ _ _ _ h => by cases d <;> exact h) hS 9 (some 15) _ rfl (v := ?_) (by kernel_rfl) ?_ ?_
      rotate_left
      · intro _ _; go_simp; first | done | with_reducible rfl
      simp only [Act.put, List.setIfInBounds_toArray, List.set_cons_zero, List.set_cons_succ]
      refine wpAnyH_done (by kernel_rfl) ?_ _
      have HS := Lib.hid hS
      clear hS
      have m2 : w8.cell? ⟨g9, 3, none⟩ = some (.int .i64 q.h) := hM8.r.cell 3
      have m5 : w8.cell? ⟨g + 1, 5, none⟩ = some (.int .i64 (bx l p).gap) := hM8.b.cell 5
      have m8 : w8.cell? ⟨g + 1, 8, none⟩ = some (.int .i64 (bx l p).justify) := hM8.b.cell 8
      go_wp2_with (fail)
      refine (HOFF.out w8 _ hoS.rd).mono ?_
      rintro e w10 ⟨v10, rfl, ho10, hx10⟩
      have hoF := ho10.weak (show S + 1 ≤ w8.heap.size by have := hM8.g.size; omega)
      have hM10 := hM8.gr (gr_ext hx10)
      have hO10 := hO8.below hx10 (Nat.le_refl _)
      have hoT := hoS.below hx10 (Nat.le_refl _)
      clear ho10 hM8 hO8 hoS hx10 m2 m5 m8 HS
      obtain ⟨ao, co, rfl, hno, hco, _⟩ := hoF.rd.ints
      rw [HOL.out] at hno hoF ⊢
      unfold maxLen at hco
      go_wp2_with (fail)
      go_loopw [17] (fun i wr => ∃ (j : Nat) (R' : List Rc), j ≤ (kid l (p : Int)).length ∧ i = .int .i64 j ∧ PlM S (g + 1) g9 w wr (.slice al (kid l (p : Int)).length cl) l p q ∧ Own wr (S + 1) 1 (.slice az (kid l (p : Int)).length cs) (Is (szs false l p q.h)) ∧ Own wr (S + 1) 1 (.slice ao (kid l (p : Int)).length co) (Is (offL (szs false l p q.h) q.h (bx l p).gap (bx l p).justify)) ∧ Own wr S 4 (.slice (some ⟨S, 0, none⟩) l.length l.length) (Rs R') ∧ Hid (PlT l sw sh p j R R')) (fun i _ => (kid l (p : Int)).length - (intOf i).toNat)
      case atStart => exact ⟨0, _, Nat.zero_le _, rfl, hM10, hoT, hoF, hO10, by rw [← HR.out]; exact HPZ.out⟩
      case round =>
        clear hM hoD hM10 hoT hoF hO10 HMX HOX HFX HOFF HBF
        obtain ⟨j, R', hj, rfl, hM, hoT, hoF, hO, hP⟩ := hrel
        by_cases hlt : j < (kid l (p : Int)).length
        · obtain ⟨k, hk⟩ : ∃ k, (kid l (p : Int))[j]? = some k := ⟨_, List.getElem?_eq_getElem hlt⟩
          obtain ⟨hkl, hkp⟩ := mem_kid_iff.1 (List.mem_of_getElem? hk)
          have hM2 := hM.gr (gr_drew (gr_refl S wr))
          have hoT2 := hoT.drew
          have hoF2 := hoF.drew
          have hO2 := hO.drew
          clear hM hoT hoF hO
          obtain ⟨ga, oa, rfl, _, ck⟩ := hM2.L.intAt (show (ni (kid l (p : Int)))[j]? = some (k : Int) by simp [ni, hk])
          obtain ⟨gs, os, rfl, _, cz⟩ := hoT2.intAt (szs_get HV.out false q.h hk)
          obtain ⟨go_, oo, rfl, _, co_⟩ := hoF2.intAt (HOG.out j hlt)
          have hji : (j : Int) < (kid l (p : Int)).length := by omega
          have hkw : IntKind.i64.wrap ((j : Int) + 1) = (j : Int) + 1 := by rw [IntKind.wrap_i64]; omega
          have hbo := HBD.out j hlt
          have hzb := HSZ.out _ (List.mem_of_getElem? (szs_get HV.out false q.h hk))
          have HPS := Lib.hid (fun (R' R'' : List Rc) (h : PlT l sw sh p j R R') (h2 : PlA l sw sh k R' R'') => plT_step HV.out h hk h2)
          have HQR : Hid ((rect l sw sh k).agg = .agg #[.int .i64 q.x, .int .i64 (q.y + offK false l p q.h j), .int .i64 q.w, .int .i64 ((szs false l p q.h).getD j 0)]) := by
            show _ = _
            rw [HRK.out j k hk, HR.out, HPL.out, HQ.out]
            rfl
          have hkd := (HV.out.down hkl) k (Nat.le_refl _)
          have HMS := Lib.hid (show l.length - k ≤ f by omega)
          have d0 : wr.drew.cell? ⟨g9, 0, none⟩ = some (.int .i64 q.x) := hM2.r.cell 0
          have d1 : wr.drew.cell? ⟨g9, 1, none⟩ = some (.int .i64 q.y) := hM2.r.cell 1
          have d3 : wr.drew.cell? ⟨g9, 2, none⟩ = some (.int .i64 q.w) := hM2.r.cell 2
          generalize (szs false l p q.h).getD j 0 = sz at *
          obtain ⟨of_, hof⟩ : ∃ of_, offK false l p q.h j = of_ := ⟨_, rfl⟩
          rw [hof] at hbo co_ HQR
          have hsw : IntKind.i64.wrap (q.y + of_) = q.y + of_ := by rw [IntKind.wrap_i64]; omega
          clear hk hkp hkd hof
          go_upto_region 28 with fail
          go_still_tail 22, (by kernel_rfl)
          repeat still_step
          try refine wpStill_nil ?_
          change wpList _ _ _ _ _ wr.drew
          generalize wr.drew = w11 at *
          clear d0 d1 d3 ck cz co_
          go_wp2_with (fail)
          have hC := ih.out k HMS.out hkl w11 R' hP.out.1 (fun w' h => HT.out w' (gr_trans hM2.g h)) hO2
          rw [HQR.out] at hC
          refine hC.mono ?_
          rintro e w12 ⟨rfl, hg12, R'', hO12, hA12⟩
          have hM12 := hM2.gr hg12
          have hoT12 := hoT2.gr (Nat.lt_succ_self S) hg12
          have hoF12 := hoF2.gr (Nat.lt_succ_self S) hg12
          have HP12 := Lib.hid (HPS.out R' R'' hP.out hA12)
          clear hM2 hO2 hg12 hA12 hC hoT2 hoF2 HQR
          go_wp2
          go_roundw
          case rel => exact ⟨j + 1, R'', by omega, by go_num, hM12, hoT12, hoF12, hO12, HP12⟩
          case measure => simp [intOf]; omega
        · obtain rfl : j = (kid l (p : Int)).length := by omega
          have HEND := Lib.hid (plT_end HV.out hP.out)
          go_wp2
          go_end0
          exact ⟨rfl, hM.g, _, hO, HEND.out⟩
end Go.Proofs.Ytbkhbmcoococmaa
