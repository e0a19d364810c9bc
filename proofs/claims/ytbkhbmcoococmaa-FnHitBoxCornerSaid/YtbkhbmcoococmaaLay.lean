/-
  The layout of a tree: impl.layoutOf.
-/
import Derived.IntWalk
import Derived.Test.YtbkhbmcoococmaaLine
namespace Go.Proofs.Ytbkhbmcoococmaa
open Go Go.RowKit

/-- the boxes directly in the first k boxes have their rectangles -/
def Laid (l : List Bx) (w h : Int) (k : Nat) (R : List Rc) : Prop := ∀ i, i < l.length → par l i < (k : Int) → R[i]? = some (rect l w h i)
theorem laid_zero {l : List Bx} (hv : Valid l) (w h : Int) : Laid l w h 0 ((List.replicate l.length zr).set 0 ⟨0, 0, w, h⟩) := by
  intro i hi hp
  have h0 : i = 0 := by
    rcases Nat.eq_zero_or_pos i with h | h
    · exact h
    · have := (hv.par i h hi).1
      omega
  subst h0
  rw [List.getElem?_set_self (by simpa using hi), rect_root hv]
theorem laid_step {l : List Bx} (hv : Valid l) {w h : Int} {k : Nat} {R R' : List Rc} (hL : Laid l w h k R) (hP : PutTo l k (rect l w h k) (kid l (k : Int)).length R R') : Laid l w h (k + 1) R' := by
  intro i hi hp
  by_cases hk : par l i = (k : Int)
  · obtain ⟨j, hj⟩ := List.getElem?_of_mem (mem_kid_iff.2 ⟨hi, hk⟩)
    rw [hP.1 j i (List.getElem?_eq_some_iff.1 hj).1 hj, rect_kid hv hj]
  · rw [hP.2 i (fun j _ e => hk (mem_kid_iff.1 (List.mem_of_getElem? e)).2)]
    exact hL i hi (by omega)
theorem laid_full {l : List Bx} (hv : Valid l) {w h : Int} {R : List Rc} (hl : R.length = l.length) (hL : Laid l w h l.length R) : R = rectL l w h :=
  rectL_of hl fun i hi => hL i hi (by
    have := (hv.down hi) i (Nat.le_refl _)
    omega)
set_option maxRecDepth 100000 in
set_option maxHeartbeats 40000000 in
theorem layoutOf_any {tv : Value} {l : List Bx} {sw sh : Int} (W : World) (hrd : Rd W 9 tv (Bs l)) (hv : Valid l) (hsw : 0 ≤ sw ∧ sw ≤ 10000) (hsh : 0 ≤ sh ∧ sh ≤ 10000) :
    Calls Try.prog 48 #[tv, .int .i64 sw, .int .i64 sh] W fun e w' => e = .returned (.pointer (some ⟨W.heap.size + 1, 0, none⟩)) ∧ LyM W.heap.size w' tv l.length (rectL l sw sh) ∧ Ext W w' := by
  obtain ⟨at_, ct, rfl, hnt, hct, HXX⟩ := hrd.boxes
  clear HXX
  have hlo := hv.lo
  have hhi := hv.hi
  unfold maxLen at hct
  have hmk := fun W => mk_run (P := Try.prog) el_rect l.length l.length (Nat.le_refl _) (by omega) W
  have HV := Lib.hid hv
  have HRD := Lib.hid hrd
  have h0l : (0 : Int) < l.length := by omega
  have hoR := Own.madeRects W W.heap.size l.length 39 (Nat.le_refl _) (by omega)
  have hK := Keep.new (W.alloc (.cells (madeCells zr.agg.cells (l.length * 4)) 39)) (.cells #[.slice (some ⟨at_.elim 0 Addr.block, 0, none⟩) 0 0] 0)
  clear hK hv hrd
  have hM0 : LyM W.heap.size ((W.alloc (.cells (madeCells zr.agg.cells (l.length * 4)) 39)).alloc (.cells #[.slice at_ l.length ct, .slice (some ⟨W.heap.size, 0, none⟩) l.length l.length] 70)) (.slice at_ l.length ct) l.length (List.replicate l.length zr) := by
    have hk := Keep.new (W.alloc (.cells (madeCells zr.agg.cells (l.length * 4)) 39)) (.cells #[.slice at_ l.length ct, .slice (some ⟨W.heap.size, 0, none⟩) l.length l.length] 70)
    rw [World.size_alloc] at hk
    exact ⟨by simp, hk.cell 0, hk.cell 1, hoR.alloc _, by simp⟩
  have hb0 : Below W.heap.size W ((W.alloc (.cells (madeCells zr.agg.cells (l.length * 4)) 39)).alloc (.cells #[.slice at_ l.length ct, .slice (some ⟨W.heap.size, 0, none⟩) l.length l.length] 70)) := ext_two _ _ _
  go_enter Try.func48, Try.ntmps48
  go_upto_region 2 with fail
  rw [show zr.agg.cells = #[.int .i64 0, .int .i64 0, .int .i64 0, .int .i64 0] from rfl] at hM0 hb0
  generalize (W.alloc (.cells (madeCells #[.int .i64 0, .int .i64 0, .int .i64 0, .int .i64 0] (l.length * 4)) 39)).alloc (.cells #[.slice at_ l.length ct, .slice (some ⟨W.heap.size, 0, none⟩) l.length l.length] 70) = W1 at *
  obtain ⟨hfz, hset⟩ := hM0.set (show 0 < l.length by omega)
  have hM1 := hset ⟨0, 0, sw, sh⟩
  obtain ⟨z0, z1, z2, z3⟩ := hM0.at (k := 0) (r := zr) (by rw [List.getElem?_replicate, if_pos (by omega)])
  have m1 := hM0.c1
  have f0 := hfz 0
  have f1 := hfz 1
  have f2 := hfz 2
  have f3 := hfz 3
  have hb1 := below_set4 (g := W.heap.size) (o1 := 0) (o2 := 1) (o3 := 2) (o4 := 3) hb0 (Nat.le_refl _) (.int .i64 0) (.int .i64 0) (.int .i64 sw) (.int .i64 sh)
  simp only [Nat.zero_mul, Nat.zero_add] at z0 z1 z2 z3 hM1
  unfold zr at z0 z1 z2 z3
  have hL1 : Hid (Laid l sw sh 0 ((List.replicate l.length zr).set 0 ⟨0, 0, sw, sh⟩)) := laid_zero HV.out sw sh
  clear hM0 hoR hset hfz hb0 hmk
  go_wp2_with (fail)
  go_loopw [27] (fun i wr => ∃ k : Nat, k ≤ l.length ∧ i = .int .i64 k ∧ (∃ R, LyM W.heap.size wr (.slice at_ l.length ct) l.length R ∧ Hid (Laid l sw sh k R)) ∧ Ext W wr) (fun i _ => l.length - (intOf i).toNat)
  case atStart => exact ⟨0, Nat.zero_le _, rfl, ⟨_, hM1, hL1⟩, hb1⟩
  case round =>
    clear hM1 hL1 hb1 z0 z1 z2 z3 m1 f0 f1 f2 f3
    obtain ⟨k, hk, rfl, ⟨R, hM, hL⟩, hb⟩ := hrel
    by_cases hlt : k < l.length
    · have hki : (k : Int) < l.length := by omega
      have hRD := HRD.out.below hb (Nat.le_refl _)
      obtain ⟨bt, ot, rfl, hbt, _, ⟨d0, d1, d2, d3, d4, d5, d6, d7, d8⟩⟩ := bx_cells hRD hlt
      go_upto_region 6 with fail
      have hM2 := hM.below (Below.of_alloc wr (.cells (bx l k).arr 30))
      have hb2 := hb.alloc hb.size (.cells (bx l k).arr 30)
      have hK2 := Keep.new wr (.cells (bx l k).arr 30)
      have hRD2 := hRD.alloc (.cells (bx l k).arr 30)
      have hrk : R[k]? = some (rect l sw sh k) := hL.out k hlt (by
        have := (HV.out.down hlt) k (Nat.le_refl _)
        exact this)
      have hRB := rect_ok HV.out hsw hsh hlt
      have HSTEP := Lib.hid (fun R' (h : PutTo l k (rect l sw sh k) (kid l (k : Int)).length R R') => laid_step HV.out hL.out h)
      have hkw : IntKind.i64.wrap ((k : Int) + 1) = (k : Int) + 1 := by rw [IntKind.wrap_i64]; omega
      unfold Bx.arr at hM2 hb2 hK2 hRD2
      have hg1 : W.heap.size + 2 ≤ wr.heap.size := hM.lt
      clear hM hb hRD hL d0 d1 d2 d3 d4 d5 d6 d7 d8 hbt
      generalize wr.alloc (.cells #[.int .i64 (bx l k).parent, .int .i64 (bx l k).kind, .int .i64 (bx l k).w, .int .i64 (bx l k).h, .int .i64 (bx l k).pad, .int .i64 (bx l k).gap, .int .i64 (bx l k).grow, .int .i64 (bx l k).shrink, .int .i64 (bx l k).justify] 30) = w2 at *
      obtain ⟨g, hg⟩ : ∃ g, wr.heap.size = g := ⟨_, rfl⟩
      rw [hg] at hK2 hg1 ⊢
      clear hg
      go_wp2_with (fail)
      refine (kids_any (k : Int) w2 hRD2 (by omega)).mono ?_
      rintro e w3 ⟨v3, rfl, ho3, hx3⟩
      have hM3 := hM2.below hx3
      have hb3 := hb2.trans (hx3.mono hb2.size)
      have hK3 : Keep g _ w3 := (hx3.block _ hK2.lt).trans hK2
      have hgl := hK2.lt
      have hRD3 := hRD2.below hx3 (Nat.le_refl _)
      clear hM2 hb2 hK2 hRD2 hx3
      obtain ⟨al, cl, rfl, hnl, hcl, _⟩ := ho3.rd.ints
      rw [ni_length] at hnl ho3 ⊢
      have HO3 := Lib.hid ho3
      clear ho3
      have hkc : w3.cell? ⟨g, 1, none⟩ = some (.int .i64 (bx l k).kind) := hK3.cell 1
      by_cases hnil : kid l (k : Int) = []
      · have hz : (((kid l (k : Int)).length : Int) == 0) = true := by rw [hnil]; rfl
        have HL4 := Lib.hid (HSTEP.out R (by rw [hnil]; exact PutTo.zero _ _ _ _))
        clear hnil HSTEP
        go_wp2
        go_roundw
        case rel => exact ⟨k + 1, by omega, by go_num, ⟨R, hM3, HL4⟩, hb3⟩
        case measure => simp [intOf]; omega
      · have hz : (((kid l (k : Int)).length : Int) == 0) = false := by
          have : 0 < (kid l (k : Int)).length := List.length_pos_iff.2 hnil
          have h2 : ((kid l (k : Int)).length : Int) ≠ 0 := by omega
          simpa using h2
        have hw0 : ∀ w', Below W.heap.size w3 w' → Rd w' 9 (.slice (some ⟨bt, ot, none⟩) l.length ct) (Bs l) := fun w' h => HRD.out.below (hb3.trans h) (Nat.le_refl _)
        have hkb := okB_bounds (HV.out.ok k hlt)
        have HST := HSTEP
        have hk0 : (bx l k).kind ≠ 0 := fun h => hnil ((HV.out.kids k hlt).2 h)
        rcases (show (bx l k).kind = 1 ∨ (bx l k).kind = 2 ∨ (bx l k).kind = 3 by omega) with hkd | hkd | hkd
        · have e1 : ((bx l k).kind == 1) = true := by rw [hkd]; rfl
          have HC := Lib.hid (block_any w3 hM3 (hw0 w3 (Below.refl _ _)) hw0 HV.out rfl hlt hrk hRB HO3.out (by omega) (by omega) (by omega))
          clear hw0 hM3 HSTEP hkb hk0 hkd hrk hRB hnil
          go_wp2_with (fail)
          refine HC.out.mono ?_
          rintro e w4 ⟨rfl, R', hM4, hx4, hP⟩
          have hb4 := hb3.trans hx4
          have HL4 := Lib.hid (HST.out R' hP)
          clear hP hx4 hb3
          go_wp2
          go_roundw
          case rel => exact ⟨k + 1, by omega, by go_num, ⟨R', hM4, HL4⟩, hb4⟩
          case measure => simp [intOf]; omega
        · have e1 : ((bx l k).kind == 1) = false := by rw [hkd]; rfl
          have e3 : ((bx l k).kind == 3) = false := by rw [hkd]; rfl
          have HC := Lib.hid (lineRow_any w3 hM3 (hw0 w3 (Below.refl _ _)) hw0 HV.out hlt hrk hRB HO3.out (by omega) hkd hnil)
          clear hw0 hM3 HSTEP hkb hk0 hkd hrk hRB hnil
          go_wp2_with (fail)
          refine HC.out.mono ?_
          rintro e w4 ⟨rfl, R', hM4, hx4, hP⟩
          have hb4 := hb3.trans hx4
          have HL4 := Lib.hid (HST.out R' hP)
          clear hP hx4 hb3
          go_wp2
          go_roundw
          case rel => exact ⟨k + 1, by omega, by go_num, ⟨R', hM4, HL4⟩, hb4⟩
          case measure => simp [intOf]; omega
        · have e1 : ((bx l k).kind == 1) = false := by rw [hkd]; rfl
          have e3 : ((bx l k).kind == 3) = true := by rw [hkd]; rfl
          have HC := Lib.hid (lineCol_any w3 hM3 (hw0 w3 (Below.refl _ _)) hw0 HV.out hlt hrk hRB HO3.out (by omega) hkd hnil)
          clear hw0 hM3 HSTEP hkb hk0 hkd hrk hRB hnil
          go_wp2_with (fail)
          refine HC.out.mono ?_
          rintro e w4 ⟨rfl, R', hM4, hx4, hP⟩
          have hb4 := hb3.trans hx4
          have HL4 := Lib.hid (HST.out R' hP)
          clear hP hx4 hb3
          go_wp2
          go_roundw
          case rel => exact ⟨k + 1, by omega, by go_num, ⟨R', hM4, HL4⟩, hb4⟩
          case measure => simp [intOf]; omega
    · obtain rfl : k = l.length := by omega
      go_wp2
      go_ret
      refine ⟨rfl, ?_, hb⟩
      rw [laid_full HV.out hM.len hL.out] at hM
      exact hM
end Go.Proofs.Ytbkhbmcoococmaa
