/-
  Parts of the proof: PlcI PlcN PlcB PlcR PlcC Place SLay.
-/
import Derived.Test.YthkkgleoikpfgaaGreatDoorKAn
import Derived.Test.YthkkgleoikpfgaaGreatDoorKAw
namespace Go.Proofs.YthkkgleoikpfgaaGreatDoor
open Go Go.RowKit
/-- one call -/
def PlC (S : Nat) (tv : Value) (l : List Bx) (sw sh : Int) (p : Nat) : Prop :=
 ∀ (w : World) (R : List Rc), R.length = l.length → (∀ w', Gr S w w' → Rd w' 9 tv (Bs l)) → Own w S 4 (.slice (some ⟨S, 0, none⟩) l.length l.length) (Rs R) →
  Calls Tryz.prog 123 #[tv, .int .i64 (p : Int), (rect l sw sh p).agg, .slice (some ⟨S, 0, none⟩) l.length l.length] w fun e w' => e = .returned (.tuple #[]) ∧ Gr S w w' ∧ ∃ R', Own w' S 4 (.slice (some ⟨S, 0, none⟩) l.length l.length) (Rs R') ∧ PlA l sw sh p R R'
/-- all calls that are near enough to the leaves -/
def PlI (S : Nat) (tv : Value) (l : List Bx) (sw sh : Int) (f : Nat) : Prop :=
 ∀ p : Nat, l.length - p ≤ f → p < l.length → PlC S tv l sw sh p
/-- the next calls, of boxes of one kind -/
def PlS (S : Nat) (tv : Value) (l : List Bx) (sw sh : Int) (f : Nat) (C : Nat → Prop) : Prop :=
 ∀ p : Nat, l.length - p ≤ f + 1 → p < l.length → C p → PlC S tv l sw sh p
set_option maxRecDepth 100000 in
set_option maxHeartbeats 40000000 in
theorem place_nil {S : Nat} {tv : Value} {l : List Bx} {sw sh : Int} (hv : Valid l) (hsw : 0 ≤ sw ∧ sw ≤ 10000) (hsh : 0 ≤ sh ∧ sh ≤ 10000) {f : Nat} (ih0 : PlI S tv l sw sh f) : PlS S tv l sw sh f (fun p => kid l (p : Int) = []) := by
 intro p hf hp hcas w R hR htv ho
 have HCAS := Lib.hid hcas
 clear hcas
 obtain ⟨at_, ct, rfl, hnt, hct, _⟩ := (htv w (gr_refl S w)).boxes
 unfold maxLen at hct
 have ih := Lib.hid ih0
 have HT := Lib.hid htv
 have HV := Lib.hid hv
 have hkn := (hv.kids p hp).1
 have hhi := hv.hi
 have hbd := okB_bounds (hv.ok p hp)
 have hrb := rect_ok hv hsw hsh hp
 have hrs : RS (rect l sw sh p) := hrb.rs (by omega)
 have hin := inset_ok (r := rect l sw sh p) (e := (bx l p).pad) (by omega) (by obtain ⟨_, _, _, _, h5, h6, _, _⟩ := hrb; exact ⟨h5, h6⟩) (by obtain ⟨_, _, _, _, _, _, h7, h8⟩ := hrb; exact ⟨h7, h8⟩)
 have HPZ := Lib.hid (plT_zero (l := l) hv (sw := sw) (sh := sh) (p := p) hp hR)
 have HRK := Lib.hid (fun j k (h : (kid l (p : Int))[j]? = some k) => rect_kid hv (w := sw) (h := sh) (p := p) h)
 have hSl := rects_lt ho (by omega)
 obtain ⟨bt, ot, rfl, hbt, _, ⟨d0, d1, d2, d3, d4, d5, d6, d7, d8⟩⟩ := bx_cells (htv w (gr_refl S w)) hp
 have hpi : (p : Int) < l.length := by omega
 obtain ⟨r, hr⟩ : ∃ r, rect l sw sh p = r := ⟨_, rfl⟩
 rw [hr] at hrb hrs hin ⊢
 have HR := Lib.hid hr
 have HRR := Lib.hid hR
 have hoA := (ho.alloc (.cells r.arr 96)).alloc (.cells (bx l p).arr 39)
 have kr := (Keep.new w (.cells r.arr 96)).alloc (.cells (bx l p).arr 39)
 have kb := keep_next w (.cells r.arr 96) (.cells (bx l p).arr 39)
 have hgA : Gr S w _ := gr_ext (ext_two w (.cells r.arr 96) (.cells (bx l p).arr 39))
 unfold Rc.arr Bx.arr at hoA kr kb hgA
 unfold Rc.agg
 clear hr htv ho hv hR
 go_enter Tryz.func123, Tryz.ntmps123
 go_upto_region 2 with fail
 generalize (w.alloc (.cells #[.int .i64 r.x, .int .i64 r.y, .int .i64 r.w, .int .i64 r.h] 96)).alloc (.cells #[.int .i64 (bx l p).parent, .int .i64 (bx l p).kind, .int .i64 (bx l p).w, .int .i64 (bx l p).h, .int .i64 (bx l p).pad, .int .i64 (bx l p).gap, .int .i64 (bx l p).grow, .int .i64 (bx l p).shrink, .int .i64 (bx l p).justify] 39) = W1 at *
 obtain ⟨g, hg⟩ : ∃ g, w.heap.size = g := ⟨_, rfl⟩
 rw [hg] at kr kb hSl
 obtain ⟨hfz, ⟨z, ⟨z0, z1, z2, z3⟩⟩, hset⟩ := rects_at hoA HRR.out hp
 have hoB := hset r
 have f0 := hfz (p * 4)
 have f1 := hfz (p * 4 + 1)
 have f2 := hfz (p * 4 + 2)
 have f3 := hfz (p * 4 + 3)
 have r0 := kr.cell 0
 have r1 := kr.cell 1
 have r2 := kr.cell 2
 have r3 := kr.cell 3
 have hgs : Gr S W1 ((((W1.setCell ⟨S, p * 4, none⟩ (.int .i64 r.x)).setCell ⟨S, p * 4 + 1, none⟩ (.int .i64 r.y)).setCell ⟨S, p * 4 + 2, none⟩ (.int .i64 r.w)).setCell ⟨S, p * 4 + 3, none⟩ (.int .i64 r.h)) := gr_set (gr_set (gr_set (gr_set (gr_refl S W1) _ _) _ _) _ _) _ _
 have krB := kr.gr hgs (by omega)
 have kbB := kb.gr hgs (by omega)
 have hgB := gr_trans hgA hgs
 rw [hg]
 clear hoA kr kb hgA hset hfz hgs d0 d1 d2 d3 d4 d5 d6 d7 d8 hbt
 go_upto_region 3 with fail
 clear z0 z1 z2 z3 f0 f1 f2 f3 r0 r1 r2 r3
 generalize (((W1.setCell ⟨S, p * 4, none⟩ (.int .i64 r.x)).setCell ⟨S, p * 4 + 1, none⟩ (.int .i64 r.y)).setCell ⟨S, p * 4 + 2, none⟩ (.int .i64 r.w)).setCell ⟨S, p * 4 + 3, none⟩ (.int .i64 r.h) = W2 at *
 have r0 := krB.cell 0
 have r1 := krB.cell 1
 have r2 := krB.cell 2
 have r3 := krB.cell 3
 have b4 := kbB.cell 4
 have hs2 := kbB.lt
 obtain ⟨q, hq⟩ : ∃ q, insetR r (bx l p).pad = q := ⟨_, rfl⟩
 have HQ := Lib.hid hq
 go_wp2_with (fail)
 refine (sinset_any (r := r) (e := (bx l p).pad) _ hrs (by omega)).mono ?_
 rintro e w3 ⟨rfl, hx⟩
 have hqx : (0 ≤ r.x ∧ r.x ≤ 100000) ∧ 0 ≤ r.y ∧ r.y ≤ 100000 := by obtain ⟨h1, h2, h3, h4, _⟩ := hrb; exact ⟨⟨h1, h2⟩, h3, h4⟩
 rw [hq] at hin ⊢
 have hoC := (hoB.below hx (Nat.le_refl _)).alloc (.cells q.arr 96)
 have kbC := (kbB.gr (S := S) (gr_ext hx) (by omega)).alloc (.cells q.arr 96)
 have kqC := Keep.new w3 (.cells q.arr 96)
 have hgC := gr_trans (gr_trans hgB (gr_ext hx)) (gr_ext (Below.of_alloc w3 (.cells q.arr 96)))
 have hs3 := hx.size
 clear hoB kbB krB hgB hx r0 r1 r2 r3 b4 hq hrs hrb
 unfold Rc.arr at hoC kbC kqC hgC
 unfold Rc.agg
 go_upto_region 4 with fail
 generalize w3.alloc (.cells #[.int .i64 q.x, .int .i64 q.y, .int .i64 q.w, .int .i64 q.h] 96) = W4 at *
 obtain ⟨g9, hg9⟩ : ∃ g9, w3.heap.size = g9 := ⟨_, rfl⟩
 rw [hg9] at kqC hs3 ⊢
 clear hg9
 have hs4 := kqC.lt
 go_wp2_with (fail)
 refine (skids_any (l := l) W4 (by omega) hpi (HT.out _ hgC) (by omega)).mono ?_
 rintro e w5 ⟨v5, rfl, ho5, hx⟩
 rw [Int.toNat_natCast, skid_valid HV.out] at ho5
 have hM : PlM S (g + 1) g9 w w5 v5 l p q := ⟨gr_trans hgC (gr_ext hx), kbC.gr (S := S) (gr_ext hx) (by omega), kqC.gr (S := S) (gr_ext hx) (by omega), ho5.weak (by omega), by omega, by omega⟩
 have hoD := hoC.below hx (Nat.le_refl _)
 clear hoC kbC kqC hgC ho5 hx
 obtain ⟨al, cl, rfl, hnl, hcl, _⟩ := hM.L.rd.ints
 rw [ni_length] at hnl hM ⊢
 unfold maxLen at hcl
 have HBF := Lib.hid (hM.b)
 have m1 : w5.cell? ⟨g + 1, 1, none⟩ = some (.int .i64 (bx l p).kind) := hM.b.cell 1
 have m5 : w5.cell? ⟨g + 1, 5, none⟩ = some (.int .i64 (bx l p).gap) := hM.b.cell 5
 clear ih0
 have hnil : kid l (p : Int) = [] := HCAS.out
 have hz : (((kid l (p : Int)).length : Int) == 0) = true := by rw [hnil]; rfl
 have HEND : Hid (PlA l sw sh p R (R.set p (rect l sw sh p))) := plT_end HV.out (by rw [hnil]; exact HPZ.out)
 rw [HR.out] at HEND
 clear hnil m1 m5
 go_wp2
 refine bodyPost_ret (v := .tuple #[]) ?_ rfl ⟨rfl, hM.g, _, hoD, HEND.out⟩
 simp [results, Tryz.results123, go_sem]
set_option maxRecDepth 100000 in
set_option maxHeartbeats 40000000 in
theorem place_blk_step {S : Nat} {tv : Value} {l : List Bx} {sw sh : Int} (hv : Valid l) (hsw : 0 ≤ sw ∧ sw ≤ 10000) (hsh : 0 ≤ sh ∧ sh ≤ 10000) {f : Nat} (ih0 : PlI S tv l sw sh f) : PlS S tv l sw sh f (fun p => kid l (p : Int) ≠ [] ∧ (bx l p).kind = 1) := by
 intro p hf hp hcas w R hR htv ho
 have HCAS := Lib.hid hcas
 clear hcas
 obtain ⟨at_, ct, rfl, hnt, hct, _⟩ := (htv w (gr_refl S w)).boxes
 unfold maxLen at hct
 have ih := Lib.hid ih0
 have HT := Lib.hid htv
 have HV := Lib.hid hv
 have hkn := (hv.kids p hp).1
 have hhi := hv.hi
 have hbd := okB_bounds (hv.ok p hp)
 have hrb := rect_ok hv hsw hsh hp
 have hrs : RS (rect l sw sh p) := hrb.rs (by omega)
 have hin := inset_ok (r := rect l sw sh p) (e := (bx l p).pad) (by omega) (by obtain ⟨_, _, _, _, h5, h6, _, _⟩ := hrb; exact ⟨h5, h6⟩) (by obtain ⟨_, _, _, _, _, _, h7, h8⟩ := hrb; exact ⟨h7, h8⟩)
 have HPZ := Lib.hid (plT_zero (l := l) hv (sw := sw) (sh := sh) (p := p) hp hR)
 have HRK := Lib.hid (fun j k (h : (kid l (p : Int))[j]? = some k) => rect_kid hv (w := sw) (h := sh) (p := p) h)
 have hSl := rects_lt ho (by omega)
 obtain ⟨bt, ot, rfl, hbt, _, ⟨d0, d1, d2, d3, d4, d5, d6, d7, d8⟩⟩ := bx_cells (htv w (gr_refl S w)) hp
 have hpi : (p : Int) < l.length := by omega
 obtain ⟨r, hr⟩ : ∃ r, rect l sw sh p = r := ⟨_, rfl⟩
 rw [hr] at hrb hrs hin ⊢
 have HR := Lib.hid hr
 have HRR := Lib.hid hR
 have hoA := (ho.alloc (.cells r.arr 96)).alloc (.cells (bx l p).arr 39)
 have kr := (Keep.new w (.cells r.arr 96)).alloc (.cells (bx l p).arr 39)
 have kb := keep_next w (.cells r.arr 96) (.cells (bx l p).arr 39)
 have hgA : Gr S w _ := gr_ext (ext_two w (.cells r.arr 96) (.cells (bx l p).arr 39))
 unfold Rc.arr Bx.arr at hoA kr kb hgA
 unfold Rc.agg
 clear hr htv ho hv hR
 go_enter Tryz.func123, Tryz.ntmps123
 go_upto_region 2 with fail
 generalize (w.alloc (.cells #[.int .i64 r.x, .int .i64 r.y, .int .i64 r.w, .int .i64 r.h] 96)).alloc (.cells #[.int .i64 (bx l p).parent, .int .i64 (bx l p).kind, .int .i64 (bx l p).w, .int .i64 (bx l p).h, .int .i64 (bx l p).pad, .int .i64 (bx l p).gap, .int .i64 (bx l p).grow, .int .i64 (bx l p).shrink, .int .i64 (bx l p).justify] 39) = W1 at *
 obtain ⟨g, hg⟩ : ∃ g, w.heap.size = g := ⟨_, rfl⟩
 rw [hg] at kr kb hSl
 obtain ⟨hfz, ⟨z, ⟨z0, z1, z2, z3⟩⟩, hset⟩ := rects_at hoA HRR.out hp
 have hoB := hset r
 have f0 := hfz (p * 4)
 have f1 := hfz (p * 4 + 1)
 have f2 := hfz (p * 4 + 2)
 have f3 := hfz (p * 4 + 3)
 have r0 := kr.cell 0
 have r1 := kr.cell 1
 have r2 := kr.cell 2
 have r3 := kr.cell 3
 have hgs : Gr S W1 ((((W1.setCell ⟨S, p * 4, none⟩ (.int .i64 r.x)).setCell ⟨S, p * 4 + 1, none⟩ (.int .i64 r.y)).setCell ⟨S, p * 4 + 2, none⟩ (.int .i64 r.w)).setCell ⟨S, p * 4 + 3, none⟩ (.int .i64 r.h)) := gr_set (gr_set (gr_set (gr_set (gr_refl S W1) _ _) _ _) _ _) _ _
 have krB := kr.gr hgs (by omega)
 have kbB := kb.gr hgs (by omega)
 have hgB := gr_trans hgA hgs
 rw [hg]
 clear hoA kr kb hgA hset hfz hgs d0 d1 d2 d3 d4 d5 d6 d7 d8 hbt
 go_upto_region 3 with fail
 clear z0 z1 z2 z3 f0 f1 f2 f3 r0 r1 r2 r3
 generalize (((W1.setCell ⟨S, p * 4, none⟩ (.int .i64 r.x)).setCell ⟨S, p * 4 + 1, none⟩ (.int .i64 r.y)).setCell ⟨S, p * 4 + 2, none⟩ (.int .i64 r.w)).setCell ⟨S, p * 4 + 3, none⟩ (.int .i64 r.h) = W2 at *
 have r0 := krB.cell 0
 have r1 := krB.cell 1
 have r2 := krB.cell 2
 have r3 := krB.cell 3
 have b4 := kbB.cell 4
 have hs2 := kbB.lt
 obtain ⟨q, hq⟩ : ∃ q, insetR r (bx l p).pad = q := ⟨_, rfl⟩
 have HQ := Lib.hid hq
 go_wp2_with (fail)
 refine (sinset_any (r := r) (e := (bx l p).pad) _ hrs (by omega)).mono ?_
 rintro e w3 ⟨rfl, hx⟩
 have hqx : (0 ≤ r.x ∧ r.x ≤ 100000) ∧ 0 ≤ r.y ∧ r.y ≤ 100000 := by obtain ⟨h1, h2, h3, h4, _⟩ := hrb; exact ⟨⟨h1, h2⟩, h3, h4⟩
 rw [hq] at hin ⊢
 have hoC := (hoB.below hx (Nat.le_refl _)).alloc (.cells q.arr 96)
 have kbC := (kbB.gr (S := S) (gr_ext hx) (by omega)).alloc (.cells q.arr 96)
 have kqC := Keep.new w3 (.cells q.arr 96)
 have hgC := gr_trans (gr_trans hgB (gr_ext hx)) (gr_ext (Below.of_alloc w3 (.cells q.arr 96)))
 have hs3 := hx.size
 clear hoB kbB krB hgB hx r0 r1 r2 r3 b4 hq hrs hrb
 unfold Rc.arr at hoC kbC kqC hgC
 unfold Rc.agg
 go_upto_region 4 with fail
 generalize w3.alloc (.cells #[.int .i64 q.x, .int .i64 q.y, .int .i64 q.w, .int .i64 q.h] 96) = W4 at *
 obtain ⟨g9, hg9⟩ : ∃ g9, w3.heap.size = g9 := ⟨_, rfl⟩
 rw [hg9] at kqC hs3 ⊢
 clear hg9
 have hs4 := kqC.lt
 go_wp2_with (fail)
 refine (skids_any (l := l) W4 (by omega) hpi (HT.out _ hgC) (by omega)).mono ?_
 rintro e w5 ⟨v5, rfl, ho5, hx⟩
 rw [Int.toNat_natCast, skid_valid HV.out] at ho5
 have hM : PlM S (g + 1) g9 w w5 v5 l p q := ⟨gr_trans hgC (gr_ext hx), kbC.gr (S := S) (gr_ext hx) (by omega), kqC.gr (S := S) (gr_ext hx) (by omega), ho5.weak (by omega), by omega, by omega⟩
 have hoD := hoC.below hx (Nat.le_refl _)
 clear hoC kbC kqC hgC ho5 hx
 obtain ⟨al, cl, rfl, hnl, hcl, _⟩ := hM.L.rd.ints
 rw [ni_length] at hnl hM ⊢
 unfold maxLen at hcl
 have HBF := Lib.hid (hM.b)
 have m1 : w5.cell? ⟨g + 1, 1, none⟩ = some (.int .i64 (bx l p).kind) := hM.b.cell 1
 have m5 : w5.cell? ⟨g + 1, 5, none⟩ = some (.int .i64 (bx l p).gap) := hM.b.cell 5
 clear ih0
 obtain ⟨hnil, hkd⟩ := HCAS.out
 have hpos : 0 < (kid l (p : Int)).length := List.length_pos_iff.2 hnil
 have hz : (((kid l (p : Int)).length : Int) == 0) = false := beq_eq_false_iff_ne.2 (by omega)
 have hgp := gap_le HV.out hp (n := ((kid l (p : Int)).length : Int) - 1) (by omega) (by omega)
 clear hnil
 have e2 : ((bx l p).kind == 2) = false := by rw [hkd]; rfl
 have e3 : ((bx l p).kind == 3) = false := by rw [hkd]; rfl
 have HPL := Lib.hid (fun j k => place_blk (l := l) (p := p) hkd j k r)
 have q1 : w5.cell? ⟨g9, 1, none⟩ = some (.int .i64 q.y) := hM.r.cell 1
 clear hkd
 go_wp2_with (fail)
 clear m1 m5 q1
 go_loopw [18, 19] (fun y i wr => ∃ (j : Nat) (R' : List Rc), j ≤ (kid l (p : Int)).length ∧ i = .int .i64 j ∧ y = .int .i64 (q.y + blkO l p j) ∧ PlM S (g + 1) g9 w wr (.slice al (kid l (p : Int)).length cl) l p q ∧ Own wr S 4 (.slice (some ⟨S, 0, none⟩) l.length l.length) (Rs R') ∧ Hid (PlT l sw sh p j R R')) (fun _ i _ => (kid l (p : Int)).length - (intOf i).toNat)
 case atStart => exact ⟨0, _, Nat.zero_le _, rfl, by simp [blkO, isum], hM, hoD, by rw [← HR.out]; exact HPZ.out⟩
 case round =>
  clear hM hoD HBF
  obtain ⟨j, R', hj, rfl, rfl, hM, hO, hP⟩ := hrel
  by_cases hlt : j < (kid l (p : Int)).length
  ·obtain ⟨k, hk⟩ : ∃ k, (kid l (p : Int))[j]? = some k := ⟨_, List.getElem?_eq_getElem hlt⟩
   obtain ⟨hkl, hkp⟩ := mem_kid_iff.1 (List.mem_of_getElem? hk)
   have hkd := (HV.out.down hkl) k (Nat.le_refl _)
   obtain ⟨ga, oa, rfl, hne, ck⟩ := hM.L.intAt (show (ni (kid l (p : Int)))[j]? = some (k : Int) by simp [ni, hk])
   have hji : (j : Int) < (kid l (p : Int)).length := by omega
   have hkw : IntKind.i64.wrap ((j : Int) + 1) = (j : Int) + 1 := by rw [IntKind.wrap_i64]; omega
   have HN := Lib.hid (snatural_any HV.out wr (i := (k : Int)) (by omega) (by omega) (HT.out wr hM.g))
   rw [Int.toNat_natCast] at HN
   have hn4 := nat_4000 HV.out hkl
   have hbo := blkO_le (j := j) HV.out hp hj
   have hbo2 := blkO_le (j := j + 1) HV.out hp hlt
   have HBS := Lib.hid (blkO_succ hk)
   have HPS := Lib.hid (fun (R' R'' : List Rc) (h : PlT l sw sh p j R R') (h2 : PlA l sw sh k R' R'') => plT_step HV.out h hk h2)
   have HQR : Hid ((rect l sw sh k).agg = .agg #[.int .i64 q.x, .int .i64 (q.y + blkO l p j), .int .i64 q.w, .int .i64 (natS l k).2]) := by
    show _ = _
    rw [HRK.out j k hk, HR.out, HPL.out, HQ.out]
    rfl
   have HMS := Lib.hid (show l.length - k ≤ f by omega)
   clear hk hkp hkd
   go_wp2_with (fail)
   refine HN.out.mono ?_
   rintro e w6 ⟨rfl, hx⟩
   have hM2 := (hM.gr (gr_ext hx)).gr (gr_drew (gr_refl S w6))
   have hO2 := (hO.below hx (Nat.le_refl _)).drew
   have ck2 : w6.drew.cell? ⟨ga, oa + j, none⟩ = some (.int .i64 (k : Int)) := gr_cell (gr_drew (gr_ext hx)) ck hne
   clear hx hM hO ck
   have d0 : w6.drew.cell? ⟨g9, 0, none⟩ = some (.int .i64 q.x) := hM2.r.cell 0
   have d2 : w6.drew.cell? ⟨g9, 2, none⟩ = some (.int .i64 q.w) := hM2.r.cell 2
   go_upto_region 13 with fail
   go_still_tail 13, (by kernel_rfl)
   repeat still_step
   try refine wpStill_nil ?_
   change wpList _ _ _ _ _ w6.drew
   generalize w6.drew = w7 at *
   clear d0 d2 ck2
   go_wp2_with (fail)
   have hC := ih.out k HMS.out hkl w7 R' hP.out.1 (fun w' h => HT.out w' (gr_trans hM2.g h)) hO2
   rw [HQR.out] at hC
   refine hC.mono ?_
   rintro e w8 ⟨rfl, hg8, R'', hO8, hA8⟩
   have hM8 := hM2.gr hg8
   have HP8 := Lib.hid (HPS.out R' R'' hP.out hA8)
   have m5 : w8.cell? ⟨g + 1, 5, none⟩ = some (.int .i64 (bx l p).gap) := hM8.b.cell 5
   have HM8 := Lib.hid hM8
   have HO8 := Lib.hid hO8
   clear hM2 hO2 hg8 hA8 hC hM8 hO8
   go_wp2
   go_roundw
   case rel => exact ⟨j + 1, R'', by omega, by go_num, by rw [HBS.out]; congr 1; omega, HM8.out, HO8.out, HP8⟩
   case measure => simp [intOf]; omega
  ·obtain rfl : j = (kid l (p : Int)).length := by omega
   have HEND := Lib.hid (plT_end HV.out hP.out)
   go_wp2
   go_end0
   exact ⟨rfl, hM.g, _, hO, HEND.out⟩
set_option maxRecDepth 100000 in
set_option maxHeartbeats 40000000 in
theorem place_row_step {S : Nat} {tv : Value} {l : List Bx} {sw sh : Int} (hv : Valid l) (hsw : 0 ≤ sw ∧ sw ≤ 10000) (hsh : 0 ≤ sh ∧ sh ≤ 10000) {f : Nat} (ih0 : PlI S tv l sw sh f) : PlS S tv l sw sh f (fun p => kid l (p : Int) ≠ [] ∧ (bx l p).kind = 2) := by
 intro p hf hp hcas w R hR htv ho
 have HCAS := Lib.hid hcas
 clear hcas
 obtain ⟨at_, ct, rfl, hnt, hct, _⟩ := (htv w (gr_refl S w)).boxes
 unfold maxLen at hct
 have ih := Lib.hid ih0
 have HT := Lib.hid htv
 have HV := Lib.hid hv
 have hkn := (hv.kids p hp).1
 have hhi := hv.hi
 have hbd := okB_bounds (hv.ok p hp)
 have hrb := rect_ok hv hsw hsh hp
 have hrs : RS (rect l sw sh p) := hrb.rs (by omega)
 have hin := inset_ok (r := rect l sw sh p) (e := (bx l p).pad) (by omega) (by obtain ⟨_, _, _, _, h5, h6, _, _⟩ := hrb; exact ⟨h5, h6⟩) (by obtain ⟨_, _, _, _, _, _, h7, h8⟩ := hrb; exact ⟨h7, h8⟩)
 have HPZ := Lib.hid (plT_zero (l := l) hv (sw := sw) (sh := sh) (p := p) hp hR)
 have HRK := Lib.hid (fun j k (h : (kid l (p : Int))[j]? = some k) => rect_kid hv (w := sw) (h := sh) (p := p) h)
 have hSl := rects_lt ho (by omega)
 obtain ⟨bt, ot, rfl, hbt, _, ⟨d0, d1, d2, d3, d4, d5, d6, d7, d8⟩⟩ := bx_cells (htv w (gr_refl S w)) hp
 have hpi : (p : Int) < l.length := by omega
 obtain ⟨r, hr⟩ : ∃ r, rect l sw sh p = r := ⟨_, rfl⟩
 rw [hr] at hrb hrs hin ⊢
 have HR := Lib.hid hr
 have HRR := Lib.hid hR
 have hoA := (ho.alloc (.cells r.arr 96)).alloc (.cells (bx l p).arr 39)
 have kr := (Keep.new w (.cells r.arr 96)).alloc (.cells (bx l p).arr 39)
 have kb := keep_next w (.cells r.arr 96) (.cells (bx l p).arr 39)
 have hgA : Gr S w _ := gr_ext (ext_two w (.cells r.arr 96) (.cells (bx l p).arr 39))
 unfold Rc.arr Bx.arr at hoA kr kb hgA
 unfold Rc.agg
 clear hr htv ho hv hR
 go_enter Tryz.func123, Tryz.ntmps123
 go_upto_region 2 with fail
 generalize (w.alloc (.cells #[.int .i64 r.x, .int .i64 r.y, .int .i64 r.w, .int .i64 r.h] 96)).alloc (.cells #[.int .i64 (bx l p).parent, .int .i64 (bx l p).kind, .int .i64 (bx l p).w, .int .i64 (bx l p).h, .int .i64 (bx l p).pad, .int .i64 (bx l p).gap, .int .i64 (bx l p).grow, .int .i64 (bx l p).shrink, .int .i64 (bx l p).justify] 39) = W1 at *
 obtain ⟨g, hg⟩ : ∃ g, w.heap.size = g := ⟨_, rfl⟩
 rw [hg] at kr kb hSl
 obtain ⟨hfz, ⟨z, ⟨z0, z1, z2, z3⟩⟩, hset⟩ := rects_at hoA HRR.out hp
 have hoB := hset r
 have f0 := hfz (p * 4)
 have f1 := hfz (p * 4 + 1)
 have f2 := hfz (p * 4 + 2)
 have f3 := hfz (p * 4 + 3)
 have r0 := kr.cell 0
 have r1 := kr.cell 1
 have r2 := kr.cell 2
 have r3 := kr.cell 3
 have hgs : Gr S W1 ((((W1.setCell ⟨S, p * 4, none⟩ (.int .i64 r.x)).setCell ⟨S, p * 4 + 1, none⟩ (.int .i64 r.y)).setCell ⟨S, p * 4 + 2, none⟩ (.int .i64 r.w)).setCell ⟨S, p * 4 + 3, none⟩ (.int .i64 r.h)) := gr_set (gr_set (gr_set (gr_set (gr_refl S W1) _ _) _ _) _ _) _ _
 have krB := kr.gr hgs (by omega)
 have kbB := kb.gr hgs (by omega)
 have hgB := gr_trans hgA hgs
 rw [hg]
 clear hoA kr kb hgA hset hfz hgs d0 d1 d2 d3 d4 d5 d6 d7 d8 hbt
 go_upto_region 3 with fail
 clear z0 z1 z2 z3 f0 f1 f2 f3 r0 r1 r2 r3
 generalize (((W1.setCell ⟨S, p * 4, none⟩ (.int .i64 r.x)).setCell ⟨S, p * 4 + 1, none⟩ (.int .i64 r.y)).setCell ⟨S, p * 4 + 2, none⟩ (.int .i64 r.w)).setCell ⟨S, p * 4 + 3, none⟩ (.int .i64 r.h) = W2 at *
 have r0 := krB.cell 0
 have r1 := krB.cell 1
 have r2 := krB.cell 2
 have r3 := krB.cell 3
 have b4 := kbB.cell 4
 have hs2 := kbB.lt
 obtain ⟨q, hq⟩ : ∃ q, insetR r (bx l p).pad = q := ⟨_, rfl⟩
 have HQ := Lib.hid hq
 go_wp2_with (fail)
 refine (sinset_any (r := r) (e := (bx l p).pad) _ hrs (by omega)).mono ?_
 rintro e w3 ⟨rfl, hx⟩
 have hqx : (0 ≤ r.x ∧ r.x ≤ 100000) ∧ 0 ≤ r.y ∧ r.y ≤ 100000 := by obtain ⟨h1, h2, h3, h4, _⟩ := hrb; exact ⟨⟨h1, h2⟩, h3, h4⟩
 rw [hq] at hin ⊢
 have hoC := (hoB.below hx (Nat.le_refl _)).alloc (.cells q.arr 96)
 have kbC := (kbB.gr (S := S) (gr_ext hx) (by omega)).alloc (.cells q.arr 96)
 have kqC := Keep.new w3 (.cells q.arr 96)
 have hgC := gr_trans (gr_trans hgB (gr_ext hx)) (gr_ext (Below.of_alloc w3 (.cells q.arr 96)))
 have hs3 := hx.size
 clear hoB kbB krB hgB hx r0 r1 r2 r3 b4 hq hrs hrb
 unfold Rc.arr at hoC kbC kqC hgC
 unfold Rc.agg
 go_upto_region 4 with fail
 generalize w3.alloc (.cells #[.int .i64 q.x, .int .i64 q.y, .int .i64 q.w, .int .i64 q.h] 96) = W4 at *
 obtain ⟨g9, hg9⟩ : ∃ g9, w3.heap.size = g9 := ⟨_, rfl⟩
 rw [hg9] at kqC hs3 ⊢
 clear hg9
 have hs4 := kqC.lt
 go_wp2_with (fail)
 refine (skids_any (l := l) W4 (by omega) hpi (HT.out _ hgC) (by omega)).mono ?_
 rintro e w5 ⟨v5, rfl, ho5, hx⟩
 rw [Int.toNat_natCast, skid_valid HV.out] at ho5
 have hM : PlM S (g + 1) g9 w w5 v5 l p q := ⟨gr_trans hgC (gr_ext hx), kbC.gr (S := S) (gr_ext hx) (by omega), kqC.gr (S := S) (gr_ext hx) (by omega), ho5.weak (by omega), by omega, by omega⟩
 have hoD := hoC.below hx (Nat.le_refl _)
 clear hoC kbC kqC hgC ho5 hx
 obtain ⟨al, cl, rfl, hnl, hcl, _⟩ := hM.L.rd.ints
 rw [ni_length] at hnl hM ⊢
 unfold maxLen at hcl
 have HBF := Lib.hid (hM.b)
 have m1 : w5.cell? ⟨g + 1, 1, none⟩ = some (.int .i64 (bx l p).kind) := hM.b.cell 1
 have m5 : w5.cell? ⟨g + 1, 5, none⟩ = some (.int .i64 (bx l p).gap) := hM.b.cell 5
 clear ih0
 obtain ⟨hnil, hkd⟩ := HCAS.out
 have hpos : 0 < (kid l (p : Int)).length := List.length_pos_iff.2 hnil
 have hz : (((kid l (p : Int)).length : Int) == 0) = false := beq_eq_false_iff_ne.2 (by omega)
 have hgp := gap_le HV.out hp (n := ((kid l (p : Int)).length : Int) - 1) (by omega) (by omega)
 clear hnil
 ·have e2 : ((bx l p).kind == 2) = true := by rw [hkd]; rfl
  have e3 : ((bx l p).kind == 3) = false := by rw [hkd]; rfl
  have HPL := Lib.hid (fun j k => place_row (l := l) (p := p) hkd j k r)
  have hsp := spc_le HV.out hp hpos (space := q.w) (by omega)
  have hszr : (szs true l p q.w).length = (kid l (p : Int)).length := szs_length HV.out _ _ _
  have HSZ := Lib.hid (szs_mem HV.out true p q.w)
  have HSL := Lib.hid hszr
  have hofl : (offL (szs true l p q.w) q.w (bx l p).gap (bx l p).justify).length = (kid l (p : Int)).length := by rw [offL_length, hszr]
  have HOL := Lib.hid hofl
  have hjw : IntKind.i64.wrap (((kid l (p : Int)).length : Int) - 1) = ((kid l (p : Int)).length : Int) - 1 := by rw [IntKind.wrap_i64]; omega
  have hqw : IntKind.i64.wrap (q.w - (bx l p).gap * (((kid l (p : Int)).length : Int) - 1)) = q.w - (bx l p).gap * (((kid l (p : Int)).length : Int) - 1) := by rw [IntKind.wrap_i64]; omega
  have HMX := Lib.hid (fun w9 (h : Below w5.heap.size w5 w9) => hM.gr (gr_ext h))
  have HOX := Lib.hid (fun w9 (h : Below w5.heap.size w5 w9) => hoD.below h (Nat.le_refl _))
  have HFX := Lib.hid (fun (W : World) (v : Value) (h : Rd W 5 v (Fs (flxsOf true l p))) => flex_any (space := spc l p q.w) W h (flxs_ok HV.out _ _) (by rw [flxs_length]; exact hkn) ⟨hsp.1, by omega⟩)
  have HOFF := Lib.hid (fun (W : World) (v : Value) (h : Rd W 1 v (Is (szs true l p q.w))) => soffsets_any (space := q.w) (gap := (bx l p).gap) (j := (bx l p).justify) W h (by rw [HSL.out]; omega) (by rw [HSL.out]; omega) HSZ.out (by omega) (by omega) (by omega))
  have HOG := Lib.hid (fun j (h : j < (kid l (p : Int)).length) => show (offL (szs true l p q.w) q.w (bx l p).gap (bx l p).justify)[j]? = some (offK true l p q.w j) from offL_get (by rw [HSL.out]; exact h))
  have HBD := Lib.hid (fun j (h : j < (kid l (p : Int)).length) => offK_le HV.out true (space := q.w) hp (by omega) (szs_get HV.out true q.w (List.getElem?_eq_getElem h)))
  clear hszr hofl hkd hsp
  by_cases hneg : q.w - (bx l p).gap * (((kid l (p : Int)).length : Int) - 1) ≤ 0
  ·have hse : spc l p q.w = 0 := by unfold spc; omega
   have HSE : Hid (flexL (flxsOf true l p) 0 = szs true l p q.w) := by
    show flexL (flxsOf true l p) 0 = flexL (flxsOf true l p) (spc l p q.w)
    rw [hse]
   rw [hse] at HFX
   clear hse
   go_upto_region 16 with fail
   refine wp_region_held_drew (S := fun w' => Below w5.heap.size w5 w') (by kernel_rfl) (Below.refl _ _).drew (fun hS => ?_)
   clear m1 m5
   change wpAnyH _ _ _ _ _ _ _ _ w5.drew
   obtain ⟨w6, hw6⟩ : ∃ w6, w5.drew = w6 := ⟨_, rfl⟩
   rw [hw6] at hS ⊢
   clear hw6
   have hs65 := hS.size
   refine hTk hS 0 87 rfl (v := ?_) ?_ ?_
   rotate_left
   ·intro _ _; go_simp; first | done | with_reducible rfl
   simp only [Act.put, lsA, ls0, ls1]
   refine hTk hS 1 88 rfl (v := ?_) ?_ ?_
   rotate_left
   ·intro _ _; go_simp; first | done | with_reducible rfl
   simp only [Act.put, lsA, ls0, ls1]
   refine hTk hS 3 90 rfl (v := ?_) ?_ ?_
   rotate_left
   ·intro _ _; go_simp; first | done | with_reducible rfl
   simp only [Act.put, lsA, ls0, ls1]
   refine hTk hS 4 91 rfl (v := ?_) ?_ ?_
   rotate_left
   ·intro w9 hS9; have qq : w9.cell? ⟨g9, 2, none⟩ = some (.int .i64 q.w) := (HMX.out _ hS9).r.cell 2; go_simp; first | done | with_reducible rfl
   simp only [Act.put, lsA, ls0, ls1]
   refine hTk hS 5 92 rfl (v := ?_) ?_ ?_
   rotate_left
   ·intro _ _; go_simp; first | done | with_reducible rfl
   simp only [Act.put, lsA, ls0, ls1]
   refine hTk hS 6 93 rfl (v := ?_) ?_ ?_
   rotate_left
   ·intro _ _; go_simp; first | done | with_reducible rfl
   simp only [Act.put, lsA, ls0, ls1]
   refine hTk hS 7 94 rfl (v := ?_) ?_ ?_
   rotate_left
   ·intro _ _; go_simp; first | done | with_reducible rfl
   simp only [Act.put, lsA, ls0, ls1]
   refine wpAnyH_ready (rs := [2]) (by kernel_rfl) (by simp) ?_
   refine AllReadyH.cons (o := _) rfl (fun K9 hK9 => ?_) AllReadyH.nil
   go_simp
   refine (sflexes_true w6 HV.out (HT.out _ (HMX.out _ hS).g) hp (HMX.out _ hS).L.rd).mono ?_
   rintro e w7 ⟨v7, rfl, ho7, hx7⟩
   try go_wp2_with fail
   have hS7 := after hS hx7 (Nat.le_refl _)
   refine hK9.out _ _ hS7 (fun hS => ?_)
   clear hK9 K9
   try simp only [Act.put, lsA, ls0, ls1]
   clear hS7
   refine wpAnyH_ready (rs := [8]) (by kernel_rfl) (by simp) ?_
   refine AllReadyH.cons (o := _) rfl (fun K9 hK9 => ?_) AllReadyH.nil
   go_simp
   refine (HFX.out w7 v7 ho7.rd).mono ?_
   rintro e w8 ⟨v8, rfl, ho8, hx8⟩
   try go_wp2_with fail
   have hS8 := after hS hx8 (Nat.le_refl _)
   refine hK9.out _ _ hS8 (fun hS => ?_)
   clear hK9 K9
   try simp only [Act.put, lsA, ls0, ls1]
   clear hS8
   rw [HSE.out] at ho8
   have hlo8 : S + 1 ≤ w7.heap.size := by have := hx7.size; have := hM.g.size; have := hS.size; omega
   have hoS := ho8.weak hlo8
   have hM8 := HMX.out _ hS
   have hO8 := HOX.out _ hS
   clear ho7 ho8 hx7 hx8 hlo8
   obtain ⟨az, cs, rfl, hns, hcs, _⟩ := hoS.rd.ints
   rw [HSL.out] at hns hoS ⊢
   unfold maxLen at hcs
   refine hTk hS 9 12 rfl (v := ?_) ?_ ?_
   rotate_left
   ·intro _ _; go_simp; first | done | with_reducible rfl
   simp only [Act.put, lsA, ls0, ls1]
   refine wpAnyH_done (by kernel_rfl) ?_ _
   have HS := Lib.hid hS
   clear hS
   have m2 : w8.cell? ⟨g9, 2, none⟩ = some (.int .i64 q.w) := hM8.r.cell 2
   have m5 : w8.cell? ⟨g + 1, 5, none⟩ = some (.int .i64 (bx l p).gap) := hM8.b.cell 5
   have m8 : w8.cell? ⟨g + 1, 8, none⟩ = some (.int .i64 (bx l p).justify) := hM8.b.cell 8
   go_wp2_with (fail)
   refine (HOFF.out w8 _ hoS.rd).mono ?_
   rintro e w10 ⟨v10, rfl, ho10, hx10⟩
   have hoF := ho10.weak (show S + 1 ≤ w8.heap.size by have := hM8.g.size; omega)
   have hM10 := hM8.gr (gr_ext hx10)
   have hO10 := hO8.below hx10 (Nat.le_refl _)
   have hoT := hoS.below hx10 (Nat.le_refl _)
   clear ho10 hM8 hO8 hoS hx10 m2 m5 m8 HS
   obtain ⟨ao, co, rfl, hno, hco, _⟩ := hoF.rd.ints
   rw [HOL.out] at hno hoF ⊢
   unfold maxLen at hco
   go_wp2_with (fail)
   go_loopw [14] (fun i wr => ∃ (j : Nat) (R' : List Rc), j ≤ (kid l (p : Int)).length ∧ i = .int .i64 j ∧ PlM S (g + 1) g9 w wr (.slice al (kid l (p : Int)).length cl) l p q ∧ Own wr (S + 1) 1 (.slice az (kid l (p : Int)).length cs) (Is (szs true l p q.w)) ∧ Own wr (S + 1) 1 (.slice ao (kid l (p : Int)).length co) (Is (offL (szs true l p q.w) q.w (bx l p).gap (bx l p).justify)) ∧ Own wr S 4 (.slice (some ⟨S, 0, none⟩) l.length l.length) (Rs R') ∧ Hid (PlT l sw sh p j R R')) (fun i _ => (kid l (p : Int)).length - (intOf i).toNat)
   case atStart => exact ⟨0, _, Nat.zero_le _, rfl, hM10, hoT, hoF, hO10, by rw [← HR.out]; exact HPZ.out⟩
   case round =>
    clear hM hoD hM10 hoT hoF hO10 HMX HOX HFX HOFF HBF
    obtain ⟨j, R', hj, rfl, hM, hoT, hoF, hO, hP⟩ := hrel
    by_cases hlt : j < (kid l (p : Int)).length
    ·obtain ⟨k, hk⟩ : ∃ k, (kid l (p : Int))[j]? = some k := ⟨_, List.getElem?_eq_getElem hlt⟩
     obtain ⟨hkl, hkp⟩ := mem_kid_iff.1 (List.mem_of_getElem? hk)
     have hM2 := hM.gr (gr_drew (gr_refl S wr))
     have hoT2 := hoT.drew
     have hoF2 := hoF.drew
     have hO2 := hO.drew
     clear hM hoT hoF hO
     obtain ⟨ga, oa, rfl, _, ck⟩ := hM2.L.intAt (show (ni (kid l (p : Int)))[j]? = some (k : Int) by simp [ni, hk])
     obtain ⟨gs, os, rfl, _, cz⟩ := hoT2.intAt (szs_get HV.out true q.w hk)
     obtain ⟨go_, oo, rfl, _, co_⟩ := hoF2.intAt (HOG.out j hlt)
     have hji : (j : Int) < (kid l (p : Int)).length := by omega
     have hkw : IntKind.i64.wrap ((j : Int) + 1) = (j : Int) + 1 := by rw [IntKind.wrap_i64]; omega
     have hbo := HBD.out j hlt
     have hzb := HSZ.out _ (List.mem_of_getElem? (szs_get HV.out true q.w hk))
     have HPS := Lib.hid (fun (R' R'' : List Rc) (h : PlT l sw sh p j R R') (h2 : PlA l sw sh k R' R'') => plT_step HV.out h hk h2)
     have HQR : Hid ((rect l sw sh k).agg = .agg #[.int .i64 (q.x + offK true l p q.w j), .int .i64 q.y, .int .i64 ((szs true l p q.w).getD j 0), .int .i64 q.h]) := by
      show _ = _
      rw [HRK.out j k hk, HR.out, HPL.out, HQ.out]
      rfl
     have hkd := (HV.out.down hkl) k (Nat.le_refl _)
     have HMS := Lib.hid (show l.length - k ≤ f by omega)
     have d0 : wr.drew.cell? ⟨g9, 0, none⟩ = some (.int .i64 q.x) := hM2.r.cell 0
     have d1 : wr.drew.cell? ⟨g9, 1, none⟩ = some (.int .i64 q.y) := hM2.r.cell 1
     have d3 : wr.drew.cell? ⟨g9, 3, none⟩ = some (.int .i64 q.h) := hM2.r.cell 3
     generalize (szs true l p q.w).getD j 0 = sz at *
     obtain ⟨of_, hof⟩ : ∃ of_, offK true l p q.w j = of_ := ⟨_, rfl⟩
     rw [hof] at hbo co_ HQR
     have hsw : IntKind.i64.wrap (q.x + of_) = q.x + of_ := by rw [IntKind.wrap_i64]; omega
     clear hk hkp hkd hof
     go_upto_region 21 with fail
     go_still_tail 22, (by kernel_rfl)
     repeat still_step
     try refine wpStill_nil ?_
     change wpList _ _ _ _ _ wr.drew
     generalize wr.drew = w11 at *
     clear d0 d1 d3 ck cz co_
     go_wp2_with (fail)
     have hC := ih.out k HMS.out hkl w11 R' hP.out.1 (fun w' h => HT.out w' (gr_trans hM2.g h)) hO2
     rw [HQR.out] at hC
     refine hC.mono ?_
     rintro e w12 ⟨rfl, hg12, R'', hO12, hA12⟩
     have hM12 := hM2.gr hg12
     have hoT12 := hoT2.gr (Nat.lt_succ_self S) hg12
     have hoF12 := hoF2.gr (Nat.lt_succ_self S) hg12
     have HP12 := Lib.hid (HPS.out R' R'' hP.out hA12)
     clear hM2 hO2 hg12 hA12 hC hoT2 hoF2 HQR
     go_wp2
     go_roundw
     case rel => exact ⟨j + 1, R'', by omega, by go_num, hM12, hoT12, hoF12, hO12, HP12⟩
     case measure => simp [intOf]; omega
    ·obtain rfl : j = (kid l (p : Int)).length := by omega
     have HEND := Lib.hid (plT_end HV.out hP.out)
     go_wp2
     go_end0
     exact ⟨rfl, hM.g, _, hO, HEND.out⟩
  ·have hse : spc l p q.w = q.w - (bx l p).gap * (((kid l (p : Int)).length : Int) - 1) := by unfold spc; omega
   have HSE : Hid (flexL (flxsOf true l p) (q.w - (bx l p).gap * (((kid l (p : Int)).length : Int) - 1)) = szs true l p q.w) := by
    show flexL (flxsOf true l p) _ = flexL (flxsOf true l p) (spc l p q.w)
    rw [hse]
   rw [hse] at HFX
   clear hse
   go_upto_region 16 with fail
   refine wp_region_held_drew (S := fun w' => Below w5.heap.size w5 w') (by kernel_rfl) (Below.refl _ _).drew (fun hS => ?_)
   clear m1 m5
   change wpAnyH _ _ _ _ _ _ _ _ w5.drew
   obtain ⟨w6, hw6⟩ : ∃ w6, w5.drew = w6 := ⟨_, rfl⟩
   rw [hw6] at hS ⊢
   clear hw6
   have hs65 := hS.size
   refine hTk hS 0 87 rfl (v := ?_) ?_ ?_
   rotate_left
   ·intro _ _; go_simp; first | done | with_reducible rfl
   simp only [Act.put, lsA, ls0, ls1]
   refine hTk hS 1 88 rfl (v := ?_) ?_ ?_
   rotate_left
   ·intro _ _; go_simp; first | done | with_reducible rfl
   simp only [Act.put, lsA, ls0, ls1]
   refine hTk hS 3 90 rfl (v := ?_) ?_ ?_
   rotate_left
   ·intro _ _; go_simp; first | done | with_reducible rfl
   simp only [Act.put, lsA, ls0, ls1]
   refine hTk hS 4 91 rfl (v := ?_) ?_ ?_
   rotate_left
   ·intro w9 hS9; have qq : w9.cell? ⟨g9, 2, none⟩ = some (.int .i64 q.w) := (HMX.out _ hS9).r.cell 2; go_simp; first | done | with_reducible rfl
   simp only [Act.put, lsA, ls0, ls1]
   refine hTk hS 5 92 rfl (v := ?_) ?_ ?_
   rotate_left
   ·intro _ _; go_simp; first | done | with_reducible rfl
   simp only [Act.put, lsA, ls0, ls1]
   refine hTk hS 6 93 rfl (v := ?_) ?_ ?_
   rotate_left
   ·intro _ _; go_simp; first | done | with_reducible rfl
   simp only [Act.put, lsA, ls0, ls1]
   refine hTk hS 7 94 rfl (v := ?_) ?_ ?_
   rotate_left
   ·intro _ _; go_simp; first | done | with_reducible rfl
   simp only [Act.put, lsA, ls0, ls1]
   refine wpAnyH_ready (rs := [2]) (by kernel_rfl) (by simp) ?_
   refine AllReadyH.cons (o := _) rfl (fun K9 hK9 => ?_) AllReadyH.nil
   go_simp
   refine (sflexes_true w6 HV.out (HT.out _ (HMX.out _ hS).g) hp (HMX.out _ hS).L.rd).mono ?_
   rintro e w7 ⟨v7, rfl, ho7, hx7⟩
   try go_wp2_with fail
   have hS7 := after hS hx7 (Nat.le_refl _)
   refine hK9.out _ _ hS7 (fun hS => ?_)
   clear hK9 K9
   try simp only [Act.put, lsA, ls0, ls1]
   clear hS7
   refine wpAnyH_ready (rs := [8]) (by kernel_rfl) (by simp) ?_
   refine AllReadyH.cons (o := _) rfl (fun K9 hK9 => ?_) AllReadyH.nil
   go_simp
   refine (HFX.out w7 v7 ho7.rd).mono ?_
   rintro e w8 ⟨v8, rfl, ho8, hx8⟩
   try go_wp2_with fail
   have hS8 := after hS hx8 (Nat.le_refl _)
   refine hK9.out _ _ hS8 (fun hS => ?_)
   clear hK9 K9
   try simp only [Act.put, lsA, ls0, ls1]
   clear hS8
   rw [HSE.out] at ho8
   have hlo8 : S + 1 ≤ w7.heap.size := by have := hx7.size; have := hM.g.size; have := hS.size; omega
   have hoS := ho8.weak hlo8
   have hM8 := HMX.out _ hS
   have hO8 := HOX.out _ hS
   clear ho7 ho8 hx7 hx8 hlo8
   obtain ⟨az, cs, rfl, hns, hcs, _⟩ := hoS.rd.ints
   rw [HSL.out] at hns hoS ⊢
   unfold maxLen at hcs
   refine hTk hS 9 12 rfl (v := ?_) ?_ ?_
   rotate_left
   ·intro _ _; go_simp; first | done | with_reducible rfl
   simp only [Act.put, lsA, ls0, ls1]
   refine wpAnyH_done (by kernel_rfl) ?_ _
   have HS := Lib.hid hS
   clear hS
   have m2 : w8.cell? ⟨g9, 2, none⟩ = some (.int .i64 q.w) := hM8.r.cell 2
   have m5 : w8.cell? ⟨g + 1, 5, none⟩ = some (.int .i64 (bx l p).gap) := hM8.b.cell 5
   have m8 : w8.cell? ⟨g + 1, 8, none⟩ = some (.int .i64 (bx l p).justify) := hM8.b.cell 8
   go_wp2_with (fail)
   refine (HOFF.out w8 _ hoS.rd).mono ?_
   rintro e w10 ⟨v10, rfl, ho10, hx10⟩
   have hoF := ho10.weak (show S + 1 ≤ w8.heap.size by have := hM8.g.size; omega)
   have hM10 := hM8.gr (gr_ext hx10)
   have hO10 := hO8.below hx10 (Nat.le_refl _)
   have hoT := hoS.below hx10 (Nat.le_refl _)
   clear ho10 hM8 hO8 hoS hx10 m2 m5 m8 HS
   obtain ⟨ao, co, rfl, hno, hco, _⟩ := hoF.rd.ints
   rw [HOL.out] at hno hoF ⊢
   unfold maxLen at hco
   go_wp2_with (fail)
   go_loopw [14] (fun i wr => ∃ (j : Nat) (R' : List Rc), j ≤ (kid l (p : Int)).length ∧ i = .int .i64 j ∧ PlM S (g + 1) g9 w wr (.slice al (kid l (p : Int)).length cl) l p q ∧ Own wr (S + 1) 1 (.slice az (kid l (p : Int)).length cs) (Is (szs true l p q.w)) ∧ Own wr (S + 1) 1 (.slice ao (kid l (p : Int)).length co) (Is (offL (szs true l p q.w) q.w (bx l p).gap (bx l p).justify)) ∧ Own wr S 4 (.slice (some ⟨S, 0, none⟩) l.length l.length) (Rs R') ∧ Hid (PlT l sw sh p j R R')) (fun i _ => (kid l (p : Int)).length - (intOf i).toNat)
   case atStart => exact ⟨0, _, Nat.zero_le _, rfl, hM10, hoT, hoF, hO10, by rw [← HR.out]; exact HPZ.out⟩
   case round =>
    clear hM hoD hM10 hoT hoF hO10 HMX HOX HFX HOFF HBF
    obtain ⟨j, R', hj, rfl, hM, hoT, hoF, hO, hP⟩ := hrel
    by_cases hlt : j < (kid l (p : Int)).length
    ·obtain ⟨k, hk⟩ : ∃ k, (kid l (p : Int))[j]? = some k := ⟨_, List.getElem?_eq_getElem hlt⟩
     obtain ⟨hkl, hkp⟩ := mem_kid_iff.1 (List.mem_of_getElem? hk)
     have hM2 := hM.gr (gr_drew (gr_refl S wr))
     have hoT2 := hoT.drew
     have hoF2 := hoF.drew
     have hO2 := hO.drew
     clear hM hoT hoF hO
     obtain ⟨ga, oa, rfl, _, ck⟩ := hM2.L.intAt (show (ni (kid l (p : Int)))[j]? = some (k : Int) by simp [ni, hk])
     obtain ⟨gs, os, rfl, _, cz⟩ := hoT2.intAt (szs_get HV.out true q.w hk)
     obtain ⟨go_, oo, rfl, _, co_⟩ := hoF2.intAt (HOG.out j hlt)
     have hji : (j : Int) < (kid l (p : Int)).length := by omega
     have hkw : IntKind.i64.wrap ((j : Int) + 1) = (j : Int) + 1 := by rw [IntKind.wrap_i64]; omega
     have hbo := HBD.out j hlt
     have hzb := HSZ.out _ (List.mem_of_getElem? (szs_get HV.out true q.w hk))
     have HPS := Lib.hid (fun (R' R'' : List Rc) (h : PlT l sw sh p j R R') (h2 : PlA l sw sh k R' R'') => plT_step HV.out h hk h2)
     have HQR : Hid ((rect l sw sh k).agg = .agg #[.int .i64 (q.x + offK true l p q.w j), .int .i64 q.y, .int .i64 ((szs true l p q.w).getD j 0), .int .i64 q.h]) := by
      show _ = _
      rw [HRK.out j k hk, HR.out, HPL.out, HQ.out]
      rfl
     have hkd := (HV.out.down hkl) k (Nat.le_refl _)
     have HMS := Lib.hid (show l.length - k ≤ f by omega)
     have d0 : wr.drew.cell? ⟨g9, 0, none⟩ = some (.int .i64 q.x) := hM2.r.cell 0
     have d1 : wr.drew.cell? ⟨g9, 1, none⟩ = some (.int .i64 q.y) := hM2.r.cell 1
     have d3 : wr.drew.cell? ⟨g9, 3, none⟩ = some (.int .i64 q.h) := hM2.r.cell 3
     generalize (szs true l p q.w).getD j 0 = sz at *
     obtain ⟨of_, hof⟩ : ∃ of_, offK true l p q.w j = of_ := ⟨_, rfl⟩
     rw [hof] at hbo co_ HQR
     have hsw : IntKind.i64.wrap (q.x + of_) = q.x + of_ := by rw [IntKind.wrap_i64]; omega
     clear hk hkp hkd hof
     go_upto_region 21 with fail
     go_still_tail 22, (by kernel_rfl)
     repeat still_step
     try refine wpStill_nil ?_
     change wpList _ _ _ _ _ wr.drew
     generalize wr.drew = w11 at *
     clear d0 d1 d3 ck cz co_
     go_wp2_with (fail)
     have hC := ih.out k HMS.out hkl w11 R' hP.out.1 (fun w' h => HT.out w' (gr_trans hM2.g h)) hO2
     rw [HQR.out] at hC
     refine hC.mono ?_
     rintro e w12 ⟨rfl, hg12, R'', hO12, hA12⟩
     have hM12 := hM2.gr hg12
     have hoT12 := hoT2.gr (Nat.lt_succ_self S) hg12
     have hoF12 := hoF2.gr (Nat.lt_succ_self S) hg12
     have HP12 := Lib.hid (HPS.out R' R'' hP.out hA12)
     clear hM2 hO2 hg12 hA12 hC hoT2 hoF2 HQR
     go_wp2
     go_roundw
     case rel => exact ⟨j + 1, R'', by omega, by go_num, hM12, hoT12, hoF12, hO12, HP12⟩
     case measure => simp [intOf]; omega
    ·obtain rfl : j = (kid l (p : Int)).length := by omega
     have HEND := Lib.hid (plT_end HV.out hP.out)
     go_wp2
     go_end0
     exact ⟨rfl, hM.g, _, hO, HEND.out⟩
set_option maxRecDepth 100000 in
set_option maxHeartbeats 40000000 in
theorem place_col_step {S : Nat} {tv : Value} {l : List Bx} {sw sh : Int} (hv : Valid l) (hsw : 0 ≤ sw ∧ sw ≤ 10000) (hsh : 0 ≤ sh ∧ sh ≤ 10000) {f : Nat} (ih0 : PlI S tv l sw sh f) : PlS S tv l sw sh f (fun p => kid l (p : Int) ≠ [] ∧ (bx l p).kind = 3) := by
 intro p hf hp hcas w R hR htv ho
 have HCAS := Lib.hid hcas
 clear hcas
 obtain ⟨at_, ct, rfl, hnt, hct, _⟩ := (htv w (gr_refl S w)).boxes
 unfold maxLen at hct
 have ih := Lib.hid ih0
 have HT := Lib.hid htv
 have HV := Lib.hid hv
 have hkn := (hv.kids p hp).1
 have hhi := hv.hi
 have hbd := okB_bounds (hv.ok p hp)
 have hrb := rect_ok hv hsw hsh hp
 have hrs : RS (rect l sw sh p) := hrb.rs (by omega)
 have hin := inset_ok (r := rect l sw sh p) (e := (bx l p).pad) (by omega) (by obtain ⟨_, _, _, _, h5, h6, _, _⟩ := hrb; exact ⟨h5, h6⟩) (by obtain ⟨_, _, _, _, _, _, h7, h8⟩ := hrb; exact ⟨h7, h8⟩)
 have HPZ := Lib.hid (plT_zero (l := l) hv (sw := sw) (sh := sh) (p := p) hp hR)
 have HRK := Lib.hid (fun j k (h : (kid l (p : Int))[j]? = some k) => rect_kid hv (w := sw) (h := sh) (p := p) h)
 have hSl := rects_lt ho (by omega)
 obtain ⟨bt, ot, rfl, hbt, _, ⟨d0, d1, d2, d3, d4, d5, d6, d7, d8⟩⟩ := bx_cells (htv w (gr_refl S w)) hp
 have hpi : (p : Int) < l.length := by omega
 obtain ⟨r, hr⟩ : ∃ r, rect l sw sh p = r := ⟨_, rfl⟩
 rw [hr] at hrb hrs hin ⊢
 have HR := Lib.hid hr
 have HRR := Lib.hid hR
 have hoA := (ho.alloc (.cells r.arr 96)).alloc (.cells (bx l p).arr 39)
 have kr := (Keep.new w (.cells r.arr 96)).alloc (.cells (bx l p).arr 39)
 have kb := keep_next w (.cells r.arr 96) (.cells (bx l p).arr 39)
 have hgA : Gr S w _ := gr_ext (ext_two w (.cells r.arr 96) (.cells (bx l p).arr 39))
 unfold Rc.arr Bx.arr at hoA kr kb hgA
 unfold Rc.agg
 clear hr htv ho hv hR
 go_enter Tryz.func123, Tryz.ntmps123
 go_upto_region 2 with fail
 generalize (w.alloc (.cells #[.int .i64 r.x, .int .i64 r.y, .int .i64 r.w, .int .i64 r.h] 96)).alloc (.cells #[.int .i64 (bx l p).parent, .int .i64 (bx l p).kind, .int .i64 (bx l p).w, .int .i64 (bx l p).h, .int .i64 (bx l p).pad, .int .i64 (bx l p).gap, .int .i64 (bx l p).grow, .int .i64 (bx l p).shrink, .int .i64 (bx l p).justify] 39) = W1 at *
 obtain ⟨g, hg⟩ : ∃ g, w.heap.size = g := ⟨_, rfl⟩
 rw [hg] at kr kb hSl
 obtain ⟨hfz, ⟨z, ⟨z0, z1, z2, z3⟩⟩, hset⟩ := rects_at hoA HRR.out hp
 have hoB := hset r
 have f0 := hfz (p * 4)
 have f1 := hfz (p * 4 + 1)
 have f2 := hfz (p * 4 + 2)
 have f3 := hfz (p * 4 + 3)
 have r0 := kr.cell 0
 have r1 := kr.cell 1
 have r2 := kr.cell 2
 have r3 := kr.cell 3
 have hgs : Gr S W1 ((((W1.setCell ⟨S, p * 4, none⟩ (.int .i64 r.x)).setCell ⟨S, p * 4 + 1, none⟩ (.int .i64 r.y)).setCell ⟨S, p * 4 + 2, none⟩ (.int .i64 r.w)).setCell ⟨S, p * 4 + 3, none⟩ (.int .i64 r.h)) := gr_set (gr_set (gr_set (gr_set (gr_refl S W1) _ _) _ _) _ _) _ _
 have krB := kr.gr hgs (by omega)
 have kbB := kb.gr hgs (by omega)
 have hgB := gr_trans hgA hgs
 rw [hg]
 clear hoA kr kb hgA hset hfz hgs d0 d1 d2 d3 d4 d5 d6 d7 d8 hbt
 go_upto_region 3 with fail
 clear z0 z1 z2 z3 f0 f1 f2 f3 r0 r1 r2 r3
 generalize (((W1.setCell ⟨S, p * 4, none⟩ (.int .i64 r.x)).setCell ⟨S, p * 4 + 1, none⟩ (.int .i64 r.y)).setCell ⟨S, p * 4 + 2, none⟩ (.int .i64 r.w)).setCell ⟨S, p * 4 + 3, none⟩ (.int .i64 r.h) = W2 at *
 have r0 := krB.cell 0
 have r1 := krB.cell 1
 have r2 := krB.cell 2
 have r3 := krB.cell 3
 have b4 := kbB.cell 4
 have hs2 := kbB.lt
 obtain ⟨q, hq⟩ : ∃ q, insetR r (bx l p).pad = q := ⟨_, rfl⟩
 have HQ := Lib.hid hq
 go_wp2_with (fail)
 refine (sinset_any (r := r) (e := (bx l p).pad) _ hrs (by omega)).mono ?_
 rintro e w3 ⟨rfl, hx⟩
 have hqx : (0 ≤ r.x ∧ r.x ≤ 100000) ∧ 0 ≤ r.y ∧ r.y ≤ 100000 := by obtain ⟨h1, h2, h3, h4, _⟩ := hrb; exact ⟨⟨h1, h2⟩, h3, h4⟩
 rw [hq] at hin ⊢
 have hoC := (hoB.below hx (Nat.le_refl _)).alloc (.cells q.arr 96)
 have kbC := (kbB.gr (S := S) (gr_ext hx) (by omega)).alloc (.cells q.arr 96)
 have kqC := Keep.new w3 (.cells q.arr 96)
 have hgC := gr_trans (gr_trans hgB (gr_ext hx)) (gr_ext (Below.of_alloc w3 (.cells q.arr 96)))
 have hs3 := hx.size
 clear hoB kbB krB hgB hx r0 r1 r2 r3 b4 hq hrs hrb
 unfold Rc.arr at hoC kbC kqC hgC
 unfold Rc.agg
 go_upto_region 4 with fail
 generalize w3.alloc (.cells #[.int .i64 q.x, .int .i64 q.y, .int .i64 q.w, .int .i64 q.h] 96) = W4 at *
 obtain ⟨g9, hg9⟩ : ∃ g9, w3.heap.size = g9 := ⟨_, rfl⟩
 rw [hg9] at kqC hs3 ⊢
 clear hg9
 have hs4 := kqC.lt
 go_wp2_with (fail)
 refine (skids_any (l := l) W4 (by omega) hpi (HT.out _ hgC) (by omega)).mono ?_
 rintro e w5 ⟨v5, rfl, ho5, hx⟩
 rw [Int.toNat_natCast, skid_valid HV.out] at ho5
 have hM : PlM S (g + 1) g9 w w5 v5 l p q := ⟨gr_trans hgC (gr_ext hx), kbC.gr (S := S) (gr_ext hx) (by omega), kqC.gr (S := S) (gr_ext hx) (by omega), ho5.weak (by omega), by omega, by omega⟩
 have hoD := hoC.below hx (Nat.le_refl _)
 clear hoC kbC kqC hgC ho5 hx
 obtain ⟨al, cl, rfl, hnl, hcl, _⟩ := hM.L.rd.ints
 rw [ni_length] at hnl hM ⊢
 unfold maxLen at hcl
 have HBF := Lib.hid (hM.b)
 have m1 : w5.cell? ⟨g + 1, 1, none⟩ = some (.int .i64 (bx l p).kind) := hM.b.cell 1
 have m5 : w5.cell? ⟨g + 1, 5, none⟩ = some (.int .i64 (bx l p).gap) := hM.b.cell 5
 clear ih0
 obtain ⟨hnil, hkd⟩ := HCAS.out
 have hpos : 0 < (kid l (p : Int)).length := List.length_pos_iff.2 hnil
 have hz : (((kid l (p : Int)).length : Int) == 0) = false := beq_eq_false_iff_ne.2 (by omega)
 have hgp := gap_le HV.out hp (n := ((kid l (p : Int)).length : Int) - 1) (by omega) (by omega)
 clear hnil
 ·have e2 : ((bx l p).kind == 2) = false := by rw [hkd]; rfl
  have e3 : ((bx l p).kind == 3) = true := by rw [hkd]; rfl
  have HPL := Lib.hid (fun j k => place_col (l := l) (p := p) hkd j k r)
  have hsp := spc_le HV.out hp hpos (space := q.h) (by omega)
  have hszr : (szs false l p q.h).length = (kid l (p : Int)).length := szs_length HV.out _ _ _
  have HSZ := Lib.hid (szs_mem HV.out false p q.h)
  have HSL := Lib.hid hszr
  have hofl : (offL (szs false l p q.h) q.h (bx l p).gap (bx l p).justify).length = (kid l (p : Int)).length := by rw [offL_length, hszr]
  have HOL := Lib.hid hofl
  have hjw : IntKind.i64.wrap (((kid l (p : Int)).length : Int) - 1) = ((kid l (p : Int)).length : Int) - 1 := by rw [IntKind.wrap_i64]; omega
  have hqw : IntKind.i64.wrap (q.h - (bx l p).gap * (((kid l (p : Int)).length : Int) - 1)) = q.h - (bx l p).gap * (((kid l (p : Int)).length : Int) - 1) := by rw [IntKind.wrap_i64]; omega
  have HMX := Lib.hid (fun w9 (h : Below w5.heap.size w5 w9) => hM.gr (gr_ext h))
  have HOX := Lib.hid (fun w9 (h : Below w5.heap.size w5 w9) => hoD.below h (Nat.le_refl _))
  have HFX := Lib.hid (fun (W : World) (v : Value) (h : Rd W 5 v (Fs (flxsOf false l p))) => flex_any (space := spc l p q.h) W h (flxs_ok HV.out _ _) (by rw [flxs_length]; exact hkn) ⟨hsp.1, by omega⟩)
  have HOFF := Lib.hid (fun (W : World) (v : Value) (h : Rd W 1 v (Is (szs false l p q.h))) => soffsets_any (space := q.h) (gap := (bx l p).gap) (j := (bx l p).justify) W h (by rw [HSL.out]; omega) (by rw [HSL.out]; omega) HSZ.out (by omega) (by omega) (by omega))
  have HOG := Lib.hid (fun j (h : j < (kid l (p : Int)).length) => show (offL (szs false l p q.h) q.h (bx l p).gap (bx l p).justify)[j]? = some (offK false l p q.h j) from offL_get (by rw [HSL.out]; exact h))
  have HBD := Lib.hid (fun j (h : j < (kid l (p : Int)).length) => offK_le HV.out false (space := q.h) hp (by omega) (szs_get HV.out false q.h (List.getElem?_eq_getElem h)))
  clear hszr hofl hkd hsp
  by_cases hneg : q.h - (bx l p).gap * (((kid l (p : Int)).length : Int) - 1) ≤ 0
  ·have hse : spc l p q.h = 0 := by unfold spc; omega
   have HSE : Hid (flexL (flxsOf false l p) 0 = szs false l p q.h) := by
    show flexL (flxsOf false l p) 0 = flexL (flxsOf false l p) (spc l p q.h)
    rw [hse]
   rw [hse] at HFX
   clear hse
   go_upto_region 23 with fail
   refine wp_region_held_drew (S := fun w' => Below w5.heap.size w5 w') (by kernel_rfl) (Below.refl _ _).drew (fun hS => ?_)
   clear m1 m5
   change wpAnyH _ _ _ _ _ _ _ _ w5.drew
   obtain ⟨w6, hw6⟩ : ∃ w6, w5.drew = w6 := ⟨_, rfl⟩
   rw [hw6] at hS ⊢
   clear hw6
   have hs65 := hS.size
   refine hTk hS 0 135 rfl (v := ?_) ?_ ?_
   rotate_left
   ·intro _ _; go_simp; first | done | with_reducible rfl
   simp only [Act.put, lsA, ls0, ls1]
   refine hTk hS 1 136 rfl (v := ?_) ?_ ?_
   rotate_left
   ·intro _ _; go_simp; first | done | with_reducible rfl
   simp only [Act.put, lsA, ls0, ls1]
   refine hTk hS 3 138 rfl (v := ?_) ?_ ?_
   rotate_left
   ·intro _ _; go_simp; first | done | with_reducible rfl
   simp only [Act.put, lsA, ls0, ls1]
   refine hTk hS 4 139 rfl (v := ?_) ?_ ?_
   rotate_left
   ·intro w9 hS9; have qq : w9.cell? ⟨g9, 3, none⟩ = some (.int .i64 q.h) := (HMX.out _ hS9).r.cell 3; go_simp; first | done | with_reducible rfl
   simp only [Act.put, lsA, ls0, ls1]
   refine hTk hS 5 140 rfl (v := ?_) ?_ ?_
   rotate_left
   ·intro _ _; go_simp; first | done | with_reducible rfl
   simp only [Act.put, lsA, ls0, ls1]
   refine hTk hS 6 141 rfl (v := ?_) ?_ ?_
   rotate_left
   ·intro _ _; go_simp; first | done | with_reducible rfl
   simp only [Act.put, lsA, ls0, ls1]
   refine hTk hS 7 142 rfl (v := ?_) ?_ ?_
   rotate_left
   ·intro _ _; go_simp; first | done | with_reducible rfl
   simp only [Act.put, lsA, ls0, ls1]
   refine wpAnyH_ready (rs := [2]) (by kernel_rfl) (by simp) ?_
   refine AllReadyH.cons (o := _) rfl (fun K9 hK9 => ?_) AllReadyH.nil
   go_simp
   refine (sflexes_false w6 HV.out (HT.out _ (HMX.out _ hS).g) hp (HMX.out _ hS).L.rd).mono ?_
   rintro e w7 ⟨v7, rfl, ho7, hx7⟩
   try go_wp2_with fail
   have hS7 := after hS hx7 (Nat.le_refl _)
   refine hK9.out _ _ hS7 (fun hS => ?_)
   clear hK9 K9
   try simp only [Act.put, lsA, ls0, ls1]
   clear hS7
   refine wpAnyH_ready (rs := [8]) (by kernel_rfl) (by simp) ?_
   refine AllReadyH.cons (o := _) rfl (fun K9 hK9 => ?_) AllReadyH.nil
   go_simp
   refine (HFX.out w7 v7 ho7.rd).mono ?_
   rintro e w8 ⟨v8, rfl, ho8, hx8⟩
   try go_wp2_with fail
   have hS8 := after hS hx8 (Nat.le_refl _)
   refine hK9.out _ _ hS8 (fun hS => ?_)
   clear hK9 K9
   try simp only [Act.put, lsA, ls0, ls1]
   clear hS8
   rw [HSE.out] at ho8
   have hlo8 : S + 1 ≤ w7.heap.size := by have := hx7.size; have := hM.g.size; have := hS.size; omega
   have hoS := ho8.weak hlo8
   have hM8 := HMX.out _ hS
   have hO8 := HOX.out _ hS
   clear ho7 ho8 hx7 hx8 hlo8
   obtain ⟨az, cs, rfl, hns, hcs, _⟩ := hoS.rd.ints
   rw [HSL.out] at hns hoS ⊢
   unfold maxLen at hcs
   refine hTk hS 9 15 rfl (v := ?_) ?_ ?_
   rotate_left
   ·intro _ _; go_simp; first | done | with_reducible rfl
   simp only [Act.put, lsA, ls0, ls1]
   refine wpAnyH_done (by kernel_rfl) ?_ _
   have HS := Lib.hid hS
   clear hS
   have m2 : w8.cell? ⟨g9, 3, none⟩ = some (.int .i64 q.h) := hM8.r.cell 3
   have m5 : w8.cell? ⟨g + 1, 5, none⟩ = some (.int .i64 (bx l p).gap) := hM8.b.cell 5
   have m8 : w8.cell? ⟨g + 1, 8, none⟩ = some (.int .i64 (bx l p).justify) := hM8.b.cell 8
   go_wp2_with (fail)
   refine (HOFF.out w8 _ hoS.rd).mono ?_
   rintro e w10 ⟨v10, rfl, ho10, hx10⟩
   have hoF := ho10.weak (show S + 1 ≤ w8.heap.size by have := hM8.g.size; omega)
   have hM10 := hM8.gr (gr_ext hx10)
   have hO10 := hO8.below hx10 (Nat.le_refl _)
   have hoT := hoS.below hx10 (Nat.le_refl _)
   clear ho10 hM8 hO8 hoS hx10 m2 m5 m8 HS
   obtain ⟨ao, co, rfl, hno, hco, _⟩ := hoF.rd.ints
   rw [HOL.out] at hno hoF ⊢
   unfold maxLen at hco
   go_wp2_with (fail)
   go_loopw [17] (fun i wr => ∃ (j : Nat) (R' : List Rc), j ≤ (kid l (p : Int)).length ∧ i = .int .i64 j ∧ PlM S (g + 1) g9 w wr (.slice al (kid l (p : Int)).length cl) l p q ∧ Own wr (S + 1) 1 (.slice az (kid l (p : Int)).length cs) (Is (szs false l p q.h)) ∧ Own wr (S + 1) 1 (.slice ao (kid l (p : Int)).length co) (Is (offL (szs false l p q.h) q.h (bx l p).gap (bx l p).justify)) ∧ Own wr S 4 (.slice (some ⟨S, 0, none⟩) l.length l.length) (Rs R') ∧ Hid (PlT l sw sh p j R R')) (fun i _ => (kid l (p : Int)).length - (intOf i).toNat)
   case atStart => exact ⟨0, _, Nat.zero_le _, rfl, hM10, hoT, hoF, hO10, by rw [← HR.out]; exact HPZ.out⟩
   case round =>
    clear hM hoD hM10 hoT hoF hO10 HMX HOX HFX HOFF HBF
    obtain ⟨j, R', hj, rfl, hM, hoT, hoF, hO, hP⟩ := hrel
    by_cases hlt : j < (kid l (p : Int)).length
    ·obtain ⟨k, hk⟩ : ∃ k, (kid l (p : Int))[j]? = some k := ⟨_, List.getElem?_eq_getElem hlt⟩
     obtain ⟨hkl, hkp⟩ := mem_kid_iff.1 (List.mem_of_getElem? hk)
     have hM2 := hM.gr (gr_drew (gr_refl S wr))
     have hoT2 := hoT.drew
     have hoF2 := hoF.drew
     have hO2 := hO.drew
     clear hM hoT hoF hO
     obtain ⟨ga, oa, rfl, _, ck⟩ := hM2.L.intAt (show (ni (kid l (p : Int)))[j]? = some (k : Int) by simp [ni, hk])
     obtain ⟨gs, os, rfl, _, cz⟩ := hoT2.intAt (szs_get HV.out false q.h hk)
     obtain ⟨go_, oo, rfl, _, co_⟩ := hoF2.intAt (HOG.out j hlt)
     have hji : (j : Int) < (kid l (p : Int)).length := by omega
     have hkw : IntKind.i64.wrap ((j : Int) + 1) = (j : Int) + 1 := by rw [IntKind.wrap_i64]; omega
     have hbo := HBD.out j hlt
     have hzb := HSZ.out _ (List.mem_of_getElem? (szs_get HV.out false q.h hk))
     have HPS := Lib.hid (fun (R' R'' : List Rc) (h : PlT l sw sh p j R R') (h2 : PlA l sw sh k R' R'') => plT_step HV.out h hk h2)
     have HQR : Hid ((rect l sw sh k).agg = .agg #[.int .i64 q.x, .int .i64 (q.y + offK false l p q.h j), .int .i64 q.w, .int .i64 ((szs false l p q.h).getD j 0)]) := by
      show _ = _
      rw [HRK.out j k hk, HR.out, HPL.out, HQ.out]
      rfl
     have hkd := (HV.out.down hkl) k (Nat.le_refl _)
     have HMS := Lib.hid (show l.length - k ≤ f by omega)
     have d0 : wr.drew.cell? ⟨g9, 0, none⟩ = some (.int .i64 q.x) := hM2.r.cell 0
     have d1 : wr.drew.cell? ⟨g9, 1, none⟩ = some (.int .i64 q.y) := hM2.r.cell 1
     have d3 : wr.drew.cell? ⟨g9, 2, none⟩ = some (.int .i64 q.w) := hM2.r.cell 2
     generalize (szs false l p q.h).getD j 0 = sz at *
     obtain ⟨of_, hof⟩ : ∃ of_, offK false l p q.h j = of_ := ⟨_, rfl⟩
     rw [hof] at hbo co_ HQR
     have hsw : IntKind.i64.wrap (q.y + of_) = q.y + of_ := by rw [IntKind.wrap_i64]; omega
     clear hk hkp hkd hof
     go_upto_region 28 with fail
     go_still_tail 22, (by kernel_rfl)
     repeat still_step
     try refine wpStill_nil ?_
     change wpList _ _ _ _ _ wr.drew
     generalize wr.drew = w11 at *
     clear d0 d1 d3 ck cz co_
     go_wp2_with (fail)
     have hC := ih.out k HMS.out hkl w11 R' hP.out.1 (fun w' h => HT.out w' (gr_trans hM2.g h)) hO2
     rw [HQR.out] at hC
     refine hC.mono ?_
     rintro e w12 ⟨rfl, hg12, R'', hO12, hA12⟩
     have hM12 := hM2.gr hg12
     have hoT12 := hoT2.gr (Nat.lt_succ_self S) hg12
     have hoF12 := hoF2.gr (Nat.lt_succ_self S) hg12
     have HP12 := Lib.hid (HPS.out R' R'' hP.out hA12)
     clear hM2 hO2 hg12 hA12 hC hoT2 hoF2 HQR
     go_wp2
     go_roundw
     case rel => exact ⟨j + 1, R'', by omega, by go_num, hM12, hoT12, hoF12, hO12, HP12⟩
     case measure => simp [intOf]; omega
    ·obtain rfl : j = (kid l (p : Int)).length := by omega
     have HEND := Lib.hid (plT_end HV.out hP.out)
     go_wp2
     go_end0
     exact ⟨rfl, hM.g, _, hO, HEND.out⟩
  ·have hse : spc l p q.h = q.h - (bx l p).gap * (((kid l (p : Int)).length : Int) - 1) := by unfold spc; omega
   have HSE : Hid (flexL (flxsOf false l p) (q.h - (bx l p).gap * (((kid l (p : Int)).length : Int) - 1)) = szs false l p q.h) := by
    show flexL (flxsOf false l p) _ = flexL (flxsOf false l p) (spc l p q.h)
    rw [hse]
   rw [hse] at HFX
   clear hse
   go_upto_region 23 with fail
   refine wp_region_held_drew (S := fun w' => Below w5.heap.size w5 w') (by kernel_rfl) (Below.refl _ _).drew (fun hS => ?_)
   clear m1 m5
   change wpAnyH _ _ _ _ _ _ _ _ w5.drew
   obtain ⟨w6, hw6⟩ : ∃ w6, w5.drew = w6 := ⟨_, rfl⟩
   rw [hw6] at hS ⊢
   clear hw6
   have hs65 := hS.size
   refine hTk hS 0 135 rfl (v := ?_) ?_ ?_
   rotate_left
   ·intro _ _; go_simp; first | done | with_reducible rfl
   simp only [Act.put, lsA, ls0, ls1]
   refine hTk hS 1 136 rfl (v := ?_) ?_ ?_
   rotate_left
   ·intro _ _; go_simp; first | done | with_reducible rfl
   simp only [Act.put, lsA, ls0, ls1]
   refine hTk hS 3 138 rfl (v := ?_) ?_ ?_
   rotate_left
   ·intro _ _; go_simp; first | done | with_reducible rfl
   simp only [Act.put, lsA, ls0, ls1]
   refine hTk hS 4 139 rfl (v := ?_) ?_ ?_
   rotate_left
   ·intro w9 hS9; have qq : w9.cell? ⟨g9, 3, none⟩ = some (.int .i64 q.h) := (HMX.out _ hS9).r.cell 3; go_simp; first | done | with_reducible rfl
   simp only [Act.put, lsA, ls0, ls1]
   refine hTk hS 5 140 rfl (v := ?_) ?_ ?_
   rotate_left
   ·intro _ _; go_simp; first | done | with_reducible rfl
   simp only [Act.put, lsA, ls0, ls1]
   refine hTk hS 6 141 rfl (v := ?_) ?_ ?_
   rotate_left
   ·intro _ _; go_simp; first | done | with_reducible rfl
   simp only [Act.put, lsA, ls0, ls1]
   refine hTk hS 7 142 rfl (v := ?_) ?_ ?_
   rotate_left
   ·intro _ _; go_simp; first | done | with_reducible rfl
   simp only [Act.put, lsA, ls0, ls1]
   refine wpAnyH_ready (rs := [2]) (by kernel_rfl) (by simp) ?_
   refine AllReadyH.cons (o := _) rfl (fun K9 hK9 => ?_) AllReadyH.nil
   go_simp
   refine (sflexes_false w6 HV.out (HT.out _ (HMX.out _ hS).g) hp (HMX.out _ hS).L.rd).mono ?_
   rintro e w7 ⟨v7, rfl, ho7, hx7⟩
   try go_wp2_with fail
   have hS7 := after hS hx7 (Nat.le_refl _)
   refine hK9.out _ _ hS7 (fun hS => ?_)
   clear hK9 K9
   try simp only [Act.put, lsA, ls0, ls1]
   clear hS7
   refine wpAnyH_ready (rs := [8]) (by kernel_rfl) (by simp) ?_
   refine AllReadyH.cons (o := _) rfl (fun K9 hK9 => ?_) AllReadyH.nil
   go_simp
   refine (HFX.out w7 v7 ho7.rd).mono ?_
   rintro e w8 ⟨v8, rfl, ho8, hx8⟩
   try go_wp2_with fail
   have hS8 := after hS hx8 (Nat.le_refl _)
   refine hK9.out _ _ hS8 (fun hS => ?_)
   clear hK9 K9
   try simp only [Act.put, lsA, ls0, ls1]
   clear hS8
   rw [HSE.out] at ho8
   have hlo8 : S + 1 ≤ w7.heap.size := by have := hx7.size; have := hM.g.size; have := hS.size; omega
   have hoS := ho8.weak hlo8
   have hM8 := HMX.out _ hS
   have hO8 := HOX.out _ hS
   clear ho7 ho8 hx7 hx8 hlo8
   obtain ⟨az, cs, rfl, hns, hcs, _⟩ := hoS.rd.ints
   rw [HSL.out] at hns hoS ⊢
   unfold maxLen at hcs
   refine hTk hS 9 15 rfl (v := ?_) ?_ ?_
   rotate_left
   ·intro _ _; go_simp; first | done | with_reducible rfl
   simp only [Act.put, lsA, ls0, ls1]
   refine wpAnyH_done (by kernel_rfl) ?_ _
   have HS := Lib.hid hS
   clear hS
   have m2 : w8.cell? ⟨g9, 3, none⟩ = some (.int .i64 q.h) := hM8.r.cell 3
   have m5 : w8.cell? ⟨g + 1, 5, none⟩ = some (.int .i64 (bx l p).gap) := hM8.b.cell 5
   have m8 : w8.cell? ⟨g + 1, 8, none⟩ = some (.int .i64 (bx l p).justify) := hM8.b.cell 8
   go_wp2_with (fail)
   refine (HOFF.out w8 _ hoS.rd).mono ?_
   rintro e w10 ⟨v10, rfl, ho10, hx10⟩
   have hoF := ho10.weak (show S + 1 ≤ w8.heap.size by have := hM8.g.size; omega)
   have hM10 := hM8.gr (gr_ext hx10)
   have hO10 := hO8.below hx10 (Nat.le_refl _)
   have hoT := hoS.below hx10 (Nat.le_refl _)
   clear ho10 hM8 hO8 hoS hx10 m2 m5 m8 HS
   obtain ⟨ao, co, rfl, hno, hco, _⟩ := hoF.rd.ints
   rw [HOL.out] at hno hoF ⊢
   unfold maxLen at hco
   go_wp2_with (fail)
   go_loopw [17] (fun i wr => ∃ (j : Nat) (R' : List Rc), j ≤ (kid l (p : Int)).length ∧ i = .int .i64 j ∧ PlM S (g + 1) g9 w wr (.slice al (kid l (p : Int)).length cl) l p q ∧ Own wr (S + 1) 1 (.slice az (kid l (p : Int)).length cs) (Is (szs false l p q.h)) ∧ Own wr (S + 1) 1 (.slice ao (kid l (p : Int)).length co) (Is (offL (szs false l p q.h) q.h (bx l p).gap (bx l p).justify)) ∧ Own wr S 4 (.slice (some ⟨S, 0, none⟩) l.length l.length) (Rs R') ∧ Hid (PlT l sw sh p j R R')) (fun i _ => (kid l (p : Int)).length - (intOf i).toNat)
   case atStart => exact ⟨0, _, Nat.zero_le _, rfl, hM10, hoT, hoF, hO10, by rw [← HR.out]; exact HPZ.out⟩
   case round =>
    clear hM hoD hM10 hoT hoF hO10 HMX HOX HFX HOFF HBF
    obtain ⟨j, R', hj, rfl, hM, hoT, hoF, hO, hP⟩ := hrel
    by_cases hlt : j < (kid l (p : Int)).length
    ·obtain ⟨k, hk⟩ : ∃ k, (kid l (p : Int))[j]? = some k := ⟨_, List.getElem?_eq_getElem hlt⟩
     obtain ⟨hkl, hkp⟩ := mem_kid_iff.1 (List.mem_of_getElem? hk)
     have hM2 := hM.gr (gr_drew (gr_refl S wr))
     have hoT2 := hoT.drew
     have hoF2 := hoF.drew
     have hO2 := hO.drew
     clear hM hoT hoF hO
     obtain ⟨ga, oa, rfl, _, ck⟩ := hM2.L.intAt (show (ni (kid l (p : Int)))[j]? = some (k : Int) by simp [ni, hk])
     obtain ⟨gs, os, rfl, _, cz⟩ := hoT2.intAt (szs_get HV.out false q.h hk)
     obtain ⟨go_, oo, rfl, _, co_⟩ := hoF2.intAt (HOG.out j hlt)
     have hji : (j : Int) < (kid l (p : Int)).length := by omega
     have hkw : IntKind.i64.wrap ((j : Int) + 1) = (j : Int) + 1 := by rw [IntKind.wrap_i64]; omega
     have hbo := HBD.out j hlt
     have hzb := HSZ.out _ (List.mem_of_getElem? (szs_get HV.out false q.h hk))
     have HPS := Lib.hid (fun (R' R'' : List Rc) (h : PlT l sw sh p j R R') (h2 : PlA l sw sh k R' R'') => plT_step HV.out h hk h2)
     have HQR : Hid ((rect l sw sh k).agg = .agg #[.int .i64 q.x, .int .i64 (q.y + offK false l p q.h j), .int .i64 q.w, .int .i64 ((szs false l p q.h).getD j 0)]) := by
      show _ = _
      rw [HRK.out j k hk, HR.out, HPL.out, HQ.out]
      rfl
     have hkd := (HV.out.down hkl) k (Nat.le_refl _)
     have HMS := Lib.hid (show l.length - k ≤ f by omega)
     have d0 : wr.drew.cell? ⟨g9, 0, none⟩ = some (.int .i64 q.x) := hM2.r.cell 0
     have d1 : wr.drew.cell? ⟨g9, 1, none⟩ = some (.int .i64 q.y) := hM2.r.cell 1
     have d3 : wr.drew.cell? ⟨g9, 2, none⟩ = some (.int .i64 q.w) := hM2.r.cell 2
     generalize (szs false l p q.h).getD j 0 = sz at *
     obtain ⟨of_, hof⟩ : ∃ of_, offK false l p q.h j = of_ := ⟨_, rfl⟩
     rw [hof] at hbo co_ HQR
     have hsw : IntKind.i64.wrap (q.y + of_) = q.y + of_ := by rw [IntKind.wrap_i64]; omega
     clear hk hkp hkd hof
     go_upto_region 28 with fail
     go_still_tail 22, (by kernel_rfl)
     repeat still_step
     try refine wpStill_nil ?_
     change wpList _ _ _ _ _ wr.drew
     generalize wr.drew = w11 at *
     clear d0 d1 d3 ck cz co_
     go_wp2_with (fail)
     have hC := ih.out k HMS.out hkl w11 R' hP.out.1 (fun w' h => HT.out w' (gr_trans hM2.g h)) hO2
     rw [HQR.out] at hC
     refine hC.mono ?_
     rintro e w12 ⟨rfl, hg12, R'', hO12, hA12⟩
     have hM12 := hM2.gr hg12
     have hoT12 := hoT2.gr (Nat.lt_succ_self S) hg12
     have hoF12 := hoF2.gr (Nat.lt_succ_self S) hg12
     have HP12 := Lib.hid (HPS.out R' R'' hP.out hA12)
     clear hM2 hO2 hg12 hA12 hC hoT2 hoF2 HQR
     go_wp2
     go_roundw
     case rel => exact ⟨j + 1, R'', by omega, by go_num, hM12, hoT12, hoF12, hO12, HP12⟩
     case measure => simp [intOf]; omega
    ·obtain rfl : j = (kid l (p : Int)).length := by omega
     have HEND := Lib.hid (plT_end HV.out hP.out)
     go_wp2
     go_end0
     exact ⟨rfl, hM.g, _, hO, HEND.out⟩
theorem place_ind {S : Nat} {tv : Value} {l : List Bx} {sw sh : Int} (hv : Valid l) (hsw : 0 ≤ sw ∧ sw ≤ 10000) (hsh : 0 ≤ sh ∧ sh ≤ 10000) : ∀ f : Nat, PlI S tv l sw sh f
 | 0 => fun p h hp => by omega
 | f + 1 => fun p hf hp => by
  have ih := place_ind (S := S) (tv := tv) hv hsw hsh f
  by_cases hnil : kid l (p : Int) = []
  ·exact place_nil hv hsw hsh ih p hf hp hnil
  ·have hkn := hv.kids p hp
   have hkd := (okB_bounds (hv.ok p hp))
   have hk0 : (bx l p).kind ≠ 0 := fun h => hnil (hkn.2 h)
   rcases (show (bx l p).kind = 1 ∨ (bx l p).kind = 2 ∨ (bx l p).kind = 3 by omega) with h | h | h
   ·exact place_blk_step hv hsw hsh ih p hf hp ⟨hnil, h⟩
   ·exact place_row_step hv hsw hsh ih p hf hp ⟨hnil, h⟩
   ·exact place_col_step hv hsw hsh ih p hf hp ⟨hnil, h⟩
set_option maxRecDepth 100000 in
set_option maxHeartbeats 1000000 in
theorem slayout_any {tv : Value} {l : List Bx} {sw sh : Int} (W : World) (hrd : Rd W 9 tv (Bs l)) (hv : Valid l) (hsw : 0 ≤ sw ∧ sw ≤ 10000) (hsh : 0 ≤ sh ∧ sh ≤ 10000) :
 Calls Tryz.prog 101 #[tv, .int .i64 sw, .int .i64 sh] W fun e w' => ∃ v', e = .returned v' ∧ Own w' W.heap.size 4 v' (Rs (rectL l sw sh)) ∧ Ext W w' := by
 obtain ⟨at_, ct, rfl, hnt, hct, HXX⟩ := hrd.boxes
 clear HXX
 have hlo := hv.lo
 have hhi := hv.hi
 unfold maxLen at hct
 have hmk := fun W => mk_run (P := Tryz.prog) el_rect l.length l.length (Nat.le_refl _) (by omega) W
 have hoR := Own.madeRects W W.heap.size l.length 96 (Nat.le_refl _) (by omega)
 have hx0 := Below.of_alloc W (.cells (madeCells zr.agg.cells (l.length * 4)) 96)
 have HC := Lib.hid (place_ind (S := W.heap.size) (tv := .slice at_ l.length ct) hv hsw hsh l.length 0 (by omega) hlo _ (List.replicate l.length zr) (by simp) (fun w' h => hrd.below (hx0.trans (gr_below h (by simp))) (Nat.le_refl _)) hoR)
 have HX0 := Lib.hid hx0
 have HPA := Lib.hid (fun R' (h : PlA l sw sh 0 (List.replicate l.length zr) R') => plA_all hv h)
 rw [rect_root hv, show zr.agg.cells = #[.int .i64 0, .int .i64 0, .int .i64 0, .int .i64 0] from rfl] at HC
 rw [show zr.agg.cells = #[.int .i64 0, .int .i64 0, .int .i64 0, .int .i64 0] from rfl] at HX0
 clear hoR hx0 hv hrd
 go_enter Tryz.func101, Tryz.ntmps101
 go_wp2_with (fail)
 refine HC.out.mono ?_
 rintro e w1 ⟨rfl, hg, R', ho, hA⟩
 have hb := HX0.out.trans (gr_below hg (by simp))
 have HA := Lib.hid (HPA.out R' hA)
 clear hg hA
 go_wp2
 go_ret
 exact ⟨_, rfl, by rw [← HA.out]; exact ho, hb⟩
set_option maxHeartbeats 1000000 in
theorem sLayoutTree_any {v : Value} {l : List Bx} (sw sh : Int) (w : World) (hv : Rd w 9 v (Bs l)) (hl : l.length ≤ 1048576) :
 Calls Tryz.prog 72 #[v, .int .i64 sw, .int .i64 sh] w fun e w' => ∃ v', e = .returned v' ∧ Own w' w.heap.size 4 v' (Rs (rectsOr l sw sh)) ∧ Ext w w' := by
 have hrd := hv
 obtain ⟨a, c, rfl, hn, hc, _⟩ := hv.boxes
 unfold maxLen at hc
 have HF := Lib.hid (fun h => rectsOr_f (l := l) (sw := sw) (sh := sh) h)
 have HT := Lib.hid (fun h => rectsOr_t (l := l) (sw := sw) (sh := sh) h)
 go_enter Tryz.func72, Tryz.ntmps72
 cases h : vldB l with
 | true =>
  go_wp2_with (fail)
  refine (validTree_any (l := l) _ hrd (by omega)).mono ?_
  rintro e w1 ⟨he, hx⟩
  rw [h] at he
  subst he
  go_wp2_with (fail)
  refine (inRange_any _ _ _ _).mono ?_
  rintro e w2 ⟨he, rfl⟩
  cases h1 : inR sw 0 10000 with
  | true =>
   rw [h1] at he
   subst he
   go_wp2_with (fail)
   refine (inRange_any _ _ _ _).mono ?_
   rintro e w3 ⟨he, rfl⟩
   cases h2 : inR sh 0 10000 with
   | true =>
    rw [h2] at he
    subst he
    have hok : scrB l sw sh = true := by unfold scrB; rw [h, h1, h2]; rfl
    obtain ⟨hval, hsw, hsh⟩ := scrB_iff.1 hok
    have HC := Lib.hid (slayout_any _ (hrd.below hx (Nat.le_refl _)) hval hsw hsh)
    have HO := Lib.hid (HT.out hok)
    clear h h1 h2 hok hval hsw hsh
    go_wp2_with (fail)
    refine HC.out.mono ?_
    rintro e w4 ⟨v4, rfl, ho, hx2⟩
    have hb := after hx hx2 (Nat.le_refl _)
    go_wp2
    go_ret
    exact ⟨_, rfl, by rw [HO.out]; exact ho.weak hx.size, hb⟩
   | false =>
    rw [h2] at he
    subst he
    have HO := Lib.hid (HF.out (by unfold scrB; rw [h, h1, h2]; rfl))
    clear h h1 h2
    go_wp2
    go_ret
    exact ⟨_, rfl, by rw [HO.out]; exact Own.nil _ _ _, hx⟩
  | false =>
   rw [h1] at he
   subst he
   have HO := Lib.hid (HF.out (by unfold scrB; rw [h, h1]; rfl))
   clear h h1
   go_wp2
   go_ret
   exact ⟨_, rfl, by rw [HO.out]; exact Own.nil _ _ _, hx⟩
 | false =>
  go_wp2_with (fail)
  refine (validTree_any (l := l) _ hrd (by omega)).mono ?_
  rintro e w1 ⟨he, hx⟩
  rw [h] at he
  subst he
  have HO := Lib.hid (HF.out (by unfold scrB; rw [h]; rfl))
  clear h
  go_wp2
  go_ret
  exact ⟨_, rfl, by rw [HO.out]; exact Own.nil _ _ _, hx⟩
end Go.Proofs.YthkkgleoikpfgaaGreatDoor
