/-
  Boxes are placed: what spec.place is to do.
-/
import Derived.Test.YtbkhbmcoococmaaAj
import Derived.Test.YtbkhbmcoococmaaSFlex
import Derived.Test.YtbkhbmcoococmaaSOff
namespace Go.Proofs.Ytbkhbmcoococmaa
open Go Go.RowKit
/-- one call -/
def PlC (S : Nat) (tv : Value) (l : List Bx) (sw sh : Int) (p : Nat) : Prop :=
  ∀ (w : World) (R : List Rc), R.length = l.length → (∀ w', Gr S w w' → Rd w' 9 tv (Bs l)) → Own w S 4 (.slice (some ⟨S, 0, none⟩) l.length l.length) (Rs R) →
    Calls Try.prog 90 #[tv, .int .i64 (p : Int), (rect l sw sh p).agg, .slice (some ⟨S, 0, none⟩) l.length l.length] w fun e w' => e = .returned (.tuple #[]) ∧ Gr S w w' ∧ ∃ R', Own w' S 4 (.slice (some ⟨S, 0, none⟩) l.length l.length) (Rs R') ∧ PlA l sw sh p R R'
/-- all calls that are near enough to the leaves -/
def PlI (S : Nat) (tv : Value) (l : List Bx) (sw sh : Int) (f : Nat) : Prop :=
  ∀ p : Nat, l.length - p ≤ f → p < l.length → PlC S tv l sw sh p
/-- the next calls, of boxes of one kind -/
def PlS (S : Nat) (tv : Value) (l : List Bx) (sw sh : Int) (f : Nat) (C : Nat → Prop) : Prop :=
  ∀ p : Nat, l.length - p ≤ f + 1 → p < l.length → C p → PlC S tv l sw sh p
end Go.Proofs.Ytbkhbmcoococmaa
namespace Go.Proofs.Ytbkhbmcoococmaa
open Go Go.RowKit
set_option maxRecDepth 100000 in
set_option maxHeartbeats 40000000 in
theorem place_nil {S : Nat} {tv : Value} {l : List Bx} {sw sh : Int} (hv : Valid l) (hsw : 0 ≤ sw ∧ sw ≤ 10000) (hsh : 0 ≤ sh ∧ sh ≤ 10000) {f : Nat} (ih0 : PlI S tv l sw sh f) : PlS S tv l sw sh f (fun p => kid l (p : Int) = []) := by
  intro p hf hp hcas w R hR htv ho
  have HCAS := Lib.hid hcas
  clear hcas
  obtain ⟨at_, ct, rfl, hnt, hct, _⟩ := (htv w (gr_refl S w)).boxes
  unfold maxLen at hct
  have ih := Lib.hid ih0
  have HT := Lib.hid htv
  have HV := Lib.hid hv
  have hkn := (hv.kids p hp).1
  have hhi := hv.hi
  have hbd := okB_bounds (hv.ok p hp)
  have hrb := rect_ok hv hsw hsh hp
  have hrs : RS (rect l sw sh p) := hrb.rs (by omega)
  have hin := inset_ok (r := rect l sw sh p) (e := (bx l p).pad) (by omega) (by obtain ⟨_, _, _, _, h5, h6, _, _⟩ := hrb; exact ⟨h5, h6⟩) (by obtain ⟨_, _, _, _, _, _, h7, h8⟩ := hrb; exact ⟨h7, h8⟩)
  have HPZ := Lib.hid (plT_zero (l := l) hv (sw := sw) (sh := sh) (p := p) hp hR)
  have HRK := Lib.hid (fun j k (h : (kid l (p : Int))[j]? = some k) => rect_kid hv (w := sw) (h := sh) (p := p) h)
  have hSl := rects_lt ho (by omega)
  obtain ⟨bt, ot, rfl, hbt, _, ⟨d0, d1, d2, d3, d4, d5, d6, d7, d8⟩⟩ := bx_cells (htv w (gr_refl S w)) hp
  have hpi : (p : Int) < l.length := by omega
  obtain ⟨r, hr⟩ : ∃ r, rect l sw sh p = r := ⟨_, rfl⟩
  rw [hr] at hrb hrs hin ⊢
  have HR := Lib.hid hr
  have HRR := Lib.hid hR
  have hoA := (ho.alloc (.cells r.arr 39)).alloc (.cells (bx l p).arr 30)
  have kr := (Keep.new w (.cells r.arr 39)).alloc (.cells (bx l p).arr 30)
  have kb := keep_next w (.cells r.arr 39) (.cells (bx l p).arr 30)
  have hgA : Gr S w _ := gr_ext (ext_two w (.cells r.arr 39) (.cells (bx l p).arr 30))
  unfold Rc.arr Bx.arr at hoA kr kb hgA
  unfold Rc.agg
  clear hr htv ho hv hR
  go_enter Try.func90, Try.ntmps90
  go_upto_region 2 with fail
  generalize (w.alloc (.cells #[.int .i64 r.x, .int .i64 r.y, .int .i64 r.w, .int .i64 r.h] 39)).alloc (.cells #[.int .i64 (bx l p).parent, .int .i64 (bx l p).kind, .int .i64 (bx l p).w, .int .i64 (bx l p).h, .int .i64 (bx l p).pad, .int .i64 (bx l p).gap, .int .i64 (bx l p).grow, .int .i64 (bx l p).shrink, .int .i64 (bx l p).justify] 30) = W1 at *
  obtain ⟨g, hg⟩ : ∃ g, w.heap.size = g := ⟨_, rfl⟩
  rw [hg] at kr kb hSl
  obtain ⟨hfz, ⟨z, ⟨z0, z1, z2, z3⟩⟩, hset⟩ := rects_at hoA HRR.out hp
  have hoB := hset r
  have f0 := hfz (p * 4)
  have f1 := hfz (p * 4 + 1)
  have f2 := hfz (p * 4 + 2)
  have f3 := hfz (p * 4 + 3)
  have r0 := kr.cell 0
  have r1 := kr.cell 1
  have r2 := kr.cell 2
  have r3 := kr.cell 3
  have hgs : Gr S W1 ((((W1.setCell ⟨S, p * 4, none⟩ (.int .i64 r.x)).setCell ⟨S, p * 4 + 1, none⟩ (.int .i64 r.y)).setCell ⟨S, p * 4 + 2, none⟩ (.int .i64 r.w)).setCell ⟨S, p * 4 + 3, none⟩ (.int .i64 r.h)) := gr_set (gr_set (gr_set (gr_set (gr_refl S W1) _ _) _ _) _ _) _ _
  have krB := kr.gr hgs (by omega)
  have kbB := kb.gr hgs (by omega)
  have hgB := gr_trans hgA hgs
  rw [hg]
  clear hoA kr kb hgA hset hfz hgs d0 d1 d2 d3 d4 d5 d6 d7 d8 hbt
  go_upto_region 3 with fail
  clear z0 z1 z2 z3 f0 f1 f2 f3 r0 r1 r2 r3
  generalize (((W1.setCell ⟨S, p * 4, none⟩ (.int .i64 r.x)).setCell ⟨S, p * 4 + 1, none⟩ (.int .i64 r.y)).setCell ⟨S, p * 4 + 2, none⟩ (.int .i64 r.w)).setCell ⟨S, p * 4 + 3, none⟩ (.int .i64 r.h) = W2 at *
  have r0 := krB.cell 0
  have r1 := krB.cell 1
  have r2 := krB.cell 2
  have r3 := krB.cell 3
  have b4 := kbB.cell 4
  have hs2 := kbB.lt
  obtain ⟨q, hq⟩ : ∃ q, insetR r (bx l p).pad = q := ⟨_, rfl⟩
  have HQ := Lib.hid hq
  go_wp2_with (fail)
  refine (sinset_any (r := r) (e := (bx l p).pad) _ hrs (by omega)).mono ?_
  rintro e w3 ⟨rfl, hx⟩
  have hqx : (0 ≤ r.x ∧ r.x ≤ 100000) ∧ 0 ≤ r.y ∧ r.y ≤ 100000 := by obtain ⟨h1, h2, h3, h4, _⟩ := hrb; exact ⟨⟨h1, h2⟩, h3, h4⟩
  rw [hq] at hin ⊢
  have hoC := (hoB.below hx (Nat.le_refl _)).alloc (.cells q.arr 39)
  have kbC := (kbB.gr (S := S) (gr_ext hx) (by omega)).alloc (.cells q.arr 39)
  have kqC := Keep.new w3 (.cells q.arr 39)
  have hgC := gr_trans (gr_trans hgB (gr_ext hx)) (gr_ext (Below.of_alloc w3 (.cells q.arr 39)))
  have hs3 := hx.size
  clear hoB kbB krB hgB hx r0 r1 r2 r3 b4 hq hrs hrb
  unfold Rc.arr at hoC kbC kqC hgC
  unfold Rc.agg
  go_upto_region 4 with fail
  generalize w3.alloc (.cells #[.int .i64 q.x, .int .i64 q.y, .int .i64 q.w, .int .i64 q.h] 39) = W4 at *
  obtain ⟨g9, hg9⟩ : ∃ g9, w3.heap.size = g9 := ⟨_, rfl⟩
  rw [hg9] at kqC hs3 ⊢
  clear hg9
  have hs4 := kqC.lt
  go_wp2_with (fail)
  refine (skids_any (l := l) W4 (by omega) hpi (HT.out _ hgC) (by omega)).mono ?_
  rintro e w5 ⟨v5, rfl, ho5, hx⟩
  rw [Int.toNat_natCast, skid_valid HV.out] at ho5
  have hM : PlM S (g + 1) g9 w w5 v5 l p q := ⟨gr_trans hgC (gr_ext hx), kbC.gr (S := S) (gr_ext hx) (by omega), kqC.gr (S := S) (gr_ext hx) (by omega), ho5.weak (by omega), by omega, by omega⟩
  have hoD := hoC.below hx (Nat.le_refl _)
  clear hoC kbC kqC hgC ho5 hx
  obtain ⟨al, cl, rfl, hnl, hcl, _⟩ := hM.L.rd.ints
  rw [ni_length] at hnl hM ⊢
  unfold maxLen at hcl
  have HBF := Lib.hid (hM.b)
  have m1 : w5.cell? ⟨g + 1, 1, none⟩ = some (.int .i64 (bx l p).kind) := hM.b.cell 1
  have m5 : w5.cell? ⟨g + 1, 5, none⟩ = some (.int .i64 (bx l p).gap) := hM.b.cell 5
  clear ih0
  have hnil : kid l (p : Int) = [] := HCAS.out
  have hz : (((kid l (p : Int)).length : Int) == 0) = true := by rw [hnil]; rfl
  have HEND : Hid (PlA l sw sh p R (R.set p (rect l sw sh p))) := plT_end HV.out (by rw [hnil]; exact HPZ.out)
  rw [HR.out] at HEND
  clear hnil m1 m5
  go_wp2
  refine bodyPost_ret (v := .tuple #[]) ?_ rfl ⟨rfl, hM.g, _, hoD, HEND.out⟩
  simp [results, Try.results90, go_sem]
end Go.Proofs.Ytbkhbmcoococmaa
namespace Go.Proofs.Ytbkhbmcoococmaa
open Go Go.RowKit
set_option maxRecDepth 100000 in
set_option maxHeartbeats 40000000 in
theorem place_blk_step {S : Nat} {tv : Value} {l : List Bx} {sw sh : Int} (hv : Valid l) (hsw : 0 ≤ sw ∧ sw ≤ 10000) (hsh : 0 ≤ sh ∧ sh ≤ 10000) {f : Nat} (ih0 : PlI S tv l sw sh f) : PlS S tv l sw sh f (fun p => kid l (p : Int) ≠ [] ∧ (bx l p).kind = 1) := by
  intro p hf hp hcas w R hR htv ho
  have HCAS := Lib.hid hcas
  clear hcas
  obtain ⟨at_, ct, rfl, hnt, hct, _⟩ := (htv w (gr_refl S w)).boxes
  unfold maxLen at hct
  have ih := Lib.hid ih0
  have HT := Lib.hid htv
  have HV := Lib.hid hv
  have hkn := (hv.kids p hp).1
  have hhi := hv.hi
  have hbd := okB_bounds (hv.ok p hp)
  have hrb := rect_ok hv hsw hsh hp
  have hrs : RS (rect l sw sh p) := hrb.rs (by omega)
  have hin := inset_ok (r := rect l sw sh p) (e := (bx l p).pad) (by omega) (by obtain ⟨_, _, _, _, h5, h6, _, _⟩ := hrb; exact ⟨h5, h6⟩) (by obtain ⟨_, _, _, _, _, _, h7, h8⟩ := hrb; exact ⟨h7, h8⟩)
  have HPZ := Lib.hid (plT_zero (l := l) hv (sw := sw) (sh := sh) (p := p) hp hR)
  have HRK := Lib.hid (fun j k (h : (kid l (p : Int))[j]? = some k) => rect_kid hv (w := sw) (h := sh) (p := p) h)
  have hSl := rects_lt ho (by omega)
  obtain ⟨bt, ot, rfl, hbt, _, ⟨d0, d1, d2, d3, d4, d5, d6, d7, d8⟩⟩ := bx_cells (htv w (gr_refl S w)) hp
  have hpi : (p : Int) < l.length := by omega
  obtain ⟨r, hr⟩ : ∃ r, rect l sw sh p = r := ⟨_, rfl⟩
  rw [hr] at hrb hrs hin ⊢
  have HR := Lib.hid hr
  have HRR := Lib.hid hR
  have hoA := (ho.alloc (.cells r.arr 39)).alloc (.cells (bx l p).arr 30)
  have kr := (Keep.new w (.cells r.arr 39)).alloc (.cells (bx l p).arr 30)
  have kb := keep_next w (.cells r.arr 39) (.cells (bx l p).arr 30)
  have hgA : Gr S w _ := gr_ext (ext_two w (.cells r.arr 39) (.cells (bx l p).arr 30))
  unfold Rc.arr Bx.arr at hoA kr kb hgA
  unfold Rc.agg
  clear hr htv ho hv hR
  go_enter Try.func90, Try.ntmps90
  go_upto_region 2 with fail
  generalize (w.alloc (.cells #[.int .i64 r.x, .int .i64 r.y, .int .i64 r.w, .int .i64 r.h] 39)).alloc (.cells #[.int .i64 (bx l p).parent, .int .i64 (bx l p).kind, .int .i64 (bx l p).w, .int .i64 (bx l p).h, .int .i64 (bx l p).pad, .int .i64 (bx l p).gap, .int .i64 (bx l p).grow, .int .i64 (bx l p).shrink, .int .i64 (bx l p).justify] 30) = W1 at *
  obtain ⟨g, hg⟩ : ∃ g, w.heap.size = g := ⟨_, rfl⟩
  rw [hg] at kr kb hSl
  obtain ⟨hfz, ⟨z, ⟨z0, z1, z2, z3⟩⟩, hset⟩ := rects_at hoA HRR.out hp
  have hoB := hset r
  have f0 := hfz (p * 4)
  have f1 := hfz (p * 4 + 1)
  have f2 := hfz (p * 4 + 2)
  have f3 := hfz (p * 4 + 3)
  have r0 := kr.cell 0
  have r1 := kr.cell 1
  have r2 := kr.cell 2
  have r3 := kr.cell 3
  have hgs : Gr S W1 ((((W1.setCell ⟨S, p * 4, none⟩ (.int .i64 r.x)).setCell ⟨S, p * 4 + 1, none⟩ (.int .i64 r.y)).setCell ⟨S, p * 4 + 2, none⟩ (.int .i64 r.w)).setCell ⟨S, p * 4 + 3, none⟩ (.int .i64 r.h)) := gr_set (gr_set (gr_set (gr_set (gr_refl S W1) _ _) _ _) _ _) _ _
  have krB := kr.gr hgs (by omega)
  have kbB := kb.gr hgs (by omega)
  have hgB := gr_trans hgA hgs
  rw [hg]
  clear hoA kr kb hgA hset hfz hgs d0 d1 d2 d3 d4 d5 d6 d7 d8 hbt
  go_upto_region 3 with fail
  clear z0 z1 z2 z3 f0 f1 f2 f3 r0 r1 r2 r3
  generalize (((W1.setCell ⟨S, p * 4, none⟩ (.int .i64 r.x)).setCell ⟨S, p * 4 + 1, none⟩ (.int .i64 r.y)).setCell ⟨S, p * 4 + 2, none⟩ (.int .i64 r.w)).setCell ⟨S, p * 4 + 3, none⟩ (.int .i64 r.h) = W2 at *
  have r0 := krB.cell 0
  have r1 := krB.cell 1
  have r2 := krB.cell 2
  have r3 := krB.cell 3
  have b4 := kbB.cell 4
  have hs2 := kbB.lt
  obtain ⟨q, hq⟩ : ∃ q, insetR r (bx l p).pad = q := ⟨_, rfl⟩
  have HQ := Lib.hid hq
  go_wp2_with (fail)
  refine (sinset_any (r := r) (e := (bx l p).pad) _ hrs (by omega)).mono ?_
  rintro e w3 ⟨rfl, hx⟩
  have hqx : (0 ≤ r.x ∧ r.x ≤ 100000) ∧ 0 ≤ r.y ∧ r.y ≤ 100000 := by obtain ⟨h1, h2, h3, h4, _⟩ := hrb; exact ⟨⟨h1, h2⟩, h3, h4⟩
  rw [hq] at hin ⊢
  have hoC := (hoB.below hx (Nat.le_refl _)).alloc (.cells q.arr 39)
  have kbC := (kbB.gr (S := S) (gr_ext hx) (by omega)).alloc (.cells q.arr 39)
  have kqC := Keep.new w3 (.cells q.arr 39)
  have hgC := gr_trans (gr_trans hgB (gr_ext hx)) (gr_ext (Below.of_alloc w3 (.cells q.arr 39)))
  have hs3 := hx.size
  clear hoB kbB krB hgB hx r0 r1 r2 r3 b4 hq hrs hrb
  unfold Rc.arr at hoC kbC kqC hgC
  unfold Rc.agg
  go_upto_region 4 with fail
  generalize w3.alloc (.cells #[.int .i64 q.x, .int .i64 q.y, .int .i64 q.w, .int .i64 q.h] 39) = W4 at *
  obtain ⟨g9, hg9⟩ : ∃ g9, w3.heap.size = g9 := ⟨_, rfl⟩
  rw [hg9] at kqC hs3 ⊢
  clear hg9
  have hs4 := kqC.lt
  go_wp2_with (fail)
  refine (skids_any (l := l) W4 (by omega) hpi (HT.out _ hgC) (by omega)).mono ?_
  rintro e w5 ⟨v5, rfl, ho5, hx⟩
  rw [Int.toNat_natCast, skid_valid HV.out] at ho5
  have hM : PlM S (g + 1) g9 w w5 v5 l p q := ⟨gr_trans hgC (gr_ext hx), kbC.gr (S := S) (gr_ext hx) (by omega), kqC.gr (S := S) (gr_ext hx) (by omega), ho5.weak (by omega), by omega, by omega⟩
  have hoD := hoC.below hx (Nat.le_refl _)
  clear hoC kbC kqC hgC ho5 hx
  obtain ⟨al, cl, rfl, hnl, hcl, _⟩ := hM.L.rd.ints
  rw [ni_length] at hnl hM ⊢
  unfold maxLen at hcl
  have HBF := Lib.hid (hM.b)
  have m1 : w5.cell? ⟨g + 1, 1, none⟩ = some (.int .i64 (bx l p).kind) := hM.b.cell 1
  have m5 : w5.cell? ⟨g + 1, 5, none⟩ = some (.int .i64 (bx l p).gap) := hM.b.cell 5
  clear ih0
  obtain ⟨hnil, hkd⟩ := HCAS.out
  have hpos : 0 < (kid l (p : Int)).length := List.length_pos_iff.2 hnil
  have hz : (((kid l (p : Int)).length : Int) == 0) = false := beq_eq_false_iff_ne.2 (by omega)
  have hgp := gap_le HV.out hp (n := ((kid l (p : Int)).length : Int) - 1) (by omega) (by omega)
  clear hnil
  have e2 : ((bx l p).kind == 2) = false := by rw [hkd]; rfl
  have e3 : ((bx l p).kind == 3) = false := by rw [hkd]; rfl
  have HPL := Lib.hid (fun j k => place_blk (l := l) (p := p) hkd j k r)
  have q1 : w5.cell? ⟨g9, 1, none⟩ = some (.int .i64 q.y) := hM.r.cell 1
  clear hkd
  go_wp2_with (fail)
  clear m1 m5 q1
  go_loopw [18, 19] (fun y i wr => ∃ (j : Nat) (R' : List Rc), j ≤ (kid l (p : Int)).length ∧ i = .int .i64 j ∧ y = .int .i64 (q.y + blkO l p j) ∧ PlM S (g + 1) g9 w wr (.slice al (kid l (p : Int)).length cl) l p q ∧ Own wr S 4 (.slice (some ⟨S, 0, none⟩) l.length l.length) (Rs R') ∧ Hid (PlT l sw sh p j R R')) (fun _ i _ => (kid l (p : Int)).length - (intOf i).toNat)
  case atStart => exact ⟨0, _, Nat.zero_le _, rfl, by simp [blkO, isum], hM, hoD, by rw [← HR.out]; exact HPZ.out⟩
  case round =>
    clear hM hoD HBF
    obtain ⟨j, R', hj, rfl, rfl, hM, hO, hP⟩ := hrel
    by_cases hlt : j < (kid l (p : Int)).length
    · obtain ⟨k, hk⟩ : ∃ k, (kid l (p : Int))[j]? = some k := ⟨_, List.getElem?_eq_getElem hlt⟩
      obtain ⟨hkl, hkp⟩ := mem_kid_iff.1 (List.mem_of_getElem? hk)
      have hkd := (HV.out.down hkl) k (Nat.le_refl _)
      obtain ⟨ga, oa, rfl, hne, ck⟩ := hM.L.intAt (show (ni (kid l (p : Int)))[j]? = some (k : Int) by simp [ni, hk])
      have hji : (j : Int) < (kid l (p : Int)).length := by omega
      have hkw : IntKind.i64.wrap ((j : Int) + 1) = (j : Int) + 1 := by rw [IntKind.wrap_i64]; omega
      have HN := Lib.hid (snatural_any HV.out wr (i := (k : Int)) (by omega) (by omega) (HT.out wr hM.g))
      rw [Int.toNat_natCast] at HN
      have hn4 := nat_4000 HV.out hkl
      have hbo := blkO_le (j := j) HV.out hp hj
      have hbo2 := blkO_le (j := j + 1) HV.out hp hlt
      have HBS := Lib.hid (blkO_succ hk)
      have HPS := Lib.hid (fun (R' R'' : List Rc) (h : PlT l sw sh p j R R') (h2 : PlA l sw sh k R' R'') => plT_step HV.out h hk h2)
      have HQR : Hid ((rect l sw sh k).agg = .agg #[.int .i64 q.x, .int .i64 (q.y + blkO l p j), .int .i64 q.w, .int .i64 (natS l k).2]) := by
        show _ = _
        rw [HRK.out j k hk, HR.out, HPL.out, HQ.out]
        rfl
      have HMS := Lib.hid (show l.length - k ≤ f by omega)
      clear hk hkp hkd
      go_wp2_with (fail)
      refine HN.out.mono ?_
      rintro e w6 ⟨rfl, hx⟩
      have hM2 := (hM.gr (gr_ext hx)).gr (gr_drew (gr_refl S w6))
      have hO2 := (hO.below hx (Nat.le_refl _)).drew
      have ck2 : w6.drew.cell? ⟨ga, oa + j, none⟩ = some (.int .i64 (k : Int)) := gr_cell (gr_drew (gr_ext hx)) ck hne
      clear hx hM hO ck
      have d0 : w6.drew.cell? ⟨g9, 0, none⟩ = some (.int .i64 q.x) := hM2.r.cell 0
      have d2 : w6.drew.cell? ⟨g9, 2, none⟩ = some (.int .i64 q.w) := hM2.r.cell 2
      go_upto_region 13 with fail
      go_still_tail 13, (by kernel_rfl)
      repeat still_step
      try refine wpStill_nil ?_
      change wpList _ _ _ _ _ w6.drew
      generalize w6.drew = w7 at *
      clear d0 d2 ck2
      go_wp2_with (fail)
      have hC := ih.out k HMS.out hkl w7 R' hP.out.1 (fun w' h => HT.out w' (gr_trans hM2.g h)) hO2
      rw [HQR.out] at hC
      refine hC.mono ?_
      rintro e w8 ⟨rfl, hg8, R'', hO8, hA8⟩
      have hM8 := hM2.gr hg8
      have HP8 := Lib.hid (HPS.out R' R'' hP.out hA8)
      have m5 : w8.cell? ⟨g + 1, 5, none⟩ = some (.int .i64 (bx l p).gap) := hM8.b.cell 5
      have HM8 := Lib.hid hM8
      have HO8 := Lib.hid hO8
      clear hM2 hO2 hg8 hA8 hC hM8 hO8
      go_wp2
      go_roundw
      case rel => exact ⟨j + 1, R'', by omega, by go_num, by rw [HBS.out]; congr 1; omega, HM8.out, HO8.out, HP8⟩
      case measure => simp [intOf]; omega
    · obtain rfl : j = (kid l (p : Int)).length := by omega
      have HEND := Lib.hid (plT_end HV.out hP.out)
      go_wp2
      go_end0
      exact ⟨rfl, hM.g, _, hO, HEND.out⟩
end Go.Proofs.Ytbkhbmcoococmaa
