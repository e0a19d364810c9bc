/-
  The boxes of a box laid out in a line: impl's line, for rows and for columns. (Printed by wip/line.py.)
-/
import Derived.IntWalk
import Derived.StillTailTactics
import Derived.Test.YtbkhbmcoococmaaAj
import Derived.Test.YtbkhbmcoococmaaFlexd
import Derived.Test.YtbkhbmcoococmaaOff
namespace Go.Proofs.Ytbkhbmcoococmaa
open Go Go.RowKit

theorem LyM.keep {S C : Nat} {w w' : World} {tv : Value} {n : Nat} {R : List Rc} (h : LyM S w tv n R) (hC : S + 2 ≤ C) (hb : Below C w w') : LyM S w' tv n R := by
  obtain ⟨h0, h1, h2, h3, h4⟩ := h
  refine ⟨Nat.le_trans h0 hb.size, ?_, ?_, h3.same (fun q hq => hb.block q (by have := blk_out hq; omega)), h4⟩
  · rw [hb.cell (p := ⟨S + 1, 0, none⟩) (by show S + 1 < _; omega)]; exact h1
  · rw [hb.cell (p := ⟨S + 1, 1, none⟩) (by show S + 1 < _; omega)]; exact h2
theorem Keep.below {g C : Nat} {o : Obj} {w w' : World} (h : Keep g o w) (hg : g < C) (hb : Below C w w') : Keep g o w' := by
  unfold Keep
  rw [hb.block g hg]
  exact h
theorem Own.keep {w w' : World} {base size C : Nat} {v : Value} {xs : List Value} (h : Own w base size v xs) (hv : ∀ q, blk v = some q → q < C) (hb : Below C w w') : Own w' base size v xs := h.same (fun q hq => hb.block q (hv q hq))
theorem keep_set4 {g g2 o1 o2 o3 o4 : Nat} {o : Obj} {w : World} (h : Keep g o w) (hne : g ≠ g2) (a b c d : Value) : Keep g o ((((w.setCell ⟨g2, o1, none⟩ a).setCell ⟨g2, o2, none⟩ b).setCell ⟨g2, o3, none⟩ c).setCell ⟨g2, o4, none⟩ d) :=
  (((h.setOther (p := ⟨g2, o1, none⟩) hne _).setOther (p := ⟨g2, o2, none⟩) hne _).setOther (p := ⟨g2, o3, none⟩) hne _).setOther (p := ⟨g2, o4, none⟩) hne _
theorem own_set4 {g2 o1 o2 o3 o4 base size : Nat} {v : Value} {xs : List Value} {w : World} (h : Own w base size v xs) (hne : blk v ≠ some g2) (a b c d : Value) : Own ((((w.setCell ⟨g2, o1, none⟩ a).setCell ⟨g2, o2, none⟩ b).setCell ⟨g2, o3, none⟩ c).setCell ⟨g2, o4, none⟩ d) base size v xs :=
  (((h.setOther (p := ⟨g2, o1, none⟩) hne _).setOther (p := ⟨g2, o2, none⟩) hne _).setOther (p := ⟨g2, o3, none⟩) hne _).setOther (p := ⟨g2, o4, none⟩) hne _
theorem LyM.drew {S : Nat} {w : World} {tv : Value} {n : Nat} {R : List Rc} (h : LyM S w tv n R) : LyM S w.drew tv n R := ⟨h.lt, h.c0, h.c1, h.own, h.len⟩
theorem Keep.drew {g : Nat} {o : Obj} {w : World} (h : Keep g o w) : Keep g o w.drew := h
/-- what lies in memory while a line is laid out -/
structure LnM (S g8 g9 C : Nat) (w : World) (tv lv : Value) (l : List Bx) (p : Nat) (q : Rc) (R : List Rc) : Prop where
  m : LyM S w tv l.length R
  b : Keep g8 (.cells (bx l p).arr 30) w
  r : Keep g9 (.cells q.arr 39) w
  L : Own w (S + 1) 1 lv (Is (ni (kid l (p : Int))))
  Lb : ∀ q, blk lv = some q → q < C
  c1 : S + 2 ≤ C
  c2 : g8 < C
  c3 : g9 < C
theorem LnM.keep {S g8 g9 C : Nat} {w w' : World} {tv lv : Value} {l : List Bx} {p : Nat} {q : Rc} {R : List Rc} (h : LnM S g8 g9 C w tv lv l p q R) (hb : Below C w w') : LnM S g8 g9 C w' tv lv l p q R :=
  ⟨h.m.keep h.c1 hb, h.b.below h.c2 hb, h.r.below h.c3 hb, h.L.keep h.Lb hb, h.Lb, h.c1, h.c2, h.c3⟩
theorem LnM.drew {S g8 g9 C : Nat} {w : World} {tv lv : Value} {l : List Bx} {p : Nat} {q : Rc} {R : List Rc} (h : LnM S g8 g9 C w tv lv l p q R) : LnM S g8 g9 C w.drew tv lv l p q R :=
  ⟨h.m.drew, h.b.drew, h.r.drew, h.L.drew, h.Lb, h.c1, h.c2, h.c3⟩
/-- a rectangle is stored -/
theorem LnM.set {S g8 g9 C : Nat} {w : World} {tv lv : Value} {l : List Bx} {p : Nat} {q : Rc} {R : List Rc} (h : LnM S g8 g9 C w tv lv l p q R) (h8 : S < g8) (h9 : S < g9) {k : Nat} (hk : k < l.length) (a b c d : Int) :
    LnM S g8 g9 C ((((w.setCell ⟨S, k * 4, none⟩ (.int .i64 a)).setCell ⟨S, k * 4 + 1, none⟩ (.int .i64 b)).setCell ⟨S, k * 4 + 2, none⟩ (.int .i64 c)).setCell ⟨S, k * 4 + 3, none⟩ (.int .i64 d)) tv lv l p q (R.set k ⟨a, b, c, d⟩) :=
  ⟨(h.m.set hk).2 ⟨a, b, c, d⟩, keep_set4 h.b (by omega) _ _ _ _, keep_set4 h.r (by omega) _ _ _ _, own_set4 h.L (fun e => by have := (h.L.lt _ e).1; omega) _ _ _ _, h.Lb, h.c1, h.c2, h.c3⟩
set_option maxRecDepth 100000 in
set_option maxHeartbeats 4000000 in
theorem lineRow_any {S p B : Nat} {tv lv : Value} {l : List Bx} {R : List Rc} {r : Rc} (w : World) (hM : LyM S w tv l.length R) (hrd : Rd w 9 tv (Bs l)) (hw0 : ∀ w', Below S w w' → Rd w' 9 tv (Bs l)) (hv : Valid l) (hp : p < l.length) (hr : R[p]? = some r) (hs : RB 100000 r)
    (hL : Own w B 1 lv (Is (ni (kid l (p : Int))))) (hB : S < B) (hk : (bx l p).kind = 2) (hne : kid l (p : Int) ≠ []) :
    Calls Try.prog 85 #[.pointer (some ⟨S + 1, 0, none⟩), .int .i64 (p : Int), lv, .bool false] w fun x w' => x = .returned (.tuple #[]) ∧ ∃ R', LyM S w' tv l.length R' ∧ Below S w w' ∧ PutTo l p r (kid l (p : Int)).length R R' := by
  have hbd := okB_bounds (hv.ok p (by omega))
  have hin := inset_ok (r := r) (e := (bx l p).pad) (by omega) (by obtain ⟨_, _, _, _, h5, h6, _, _⟩ := hs; exact ⟨h5, h6⟩) (by obtain ⟨_, _, _, _, _, _, h7, h8⟩ := hs; exact ⟨h7, h8⟩)
  have hsz0 := hM.lt
  have HV := Lib.hid hv
  have HKN := Lib.hid (hv.kids p (by omega)).1
  have hkn := (hv.kids p (by omega)).1
  have HPL := Lib.hid (fun j k => show placeR l p j r k = ⟨(insetR r (bx l p).pad).x + offK true l p (insetR r (bx l p).pad).w j, (insetR r (bx l p).pad).y, (szs true l p (insetR r (bx l p).pad).w).getD j 0, (insetR r (bx l p).pad).h⟩ by unfold placeR; rw [if_pos hk])
  have HW0 := Lib.hid hw0
  obtain ⟨al, cl, rfl, hnl, hcl, _⟩ := hL.rd.ints
  rw [ni_length] at hnl hL ⊢
  have hm1 : 1 ≤ (kid l (p : Int)).length := by
    rcases Nat.eq_zero_or_pos (kid l (p : Int)).length with h | h
    · exact absurd (List.eq_nil_of_length_eq_zero h) hne
    · exact h
  obtain ⟨at_, ct, rfl, hnt, hct, _⟩ := hrd.boxes
  obtain ⟨bt, ot, rfl, hbt, _, ⟨d0, d1, d2, d3, d4, d5, d6, d7, d8⟩⟩ := bx_cells hrd hp
  unfold maxLen at hcl hct
  have hpi : (p : Int) < l.length := by omega
  have hbs : RB 100000 r := hs
  obtain ⟨s1, s2, s3, s4, s5, s6, s7, s8⟩ := hbs
  have hx0 := Below.of_alloc w (.cells (bx l p).arr 30)
  have HI := Lib.hid (inner_any (w.alloc (.cells (bx l p).arr 30)) (hM.below hx0) (hrd.below hx0 (Nat.le_refl _)) rfl hp hr (hs.rs (by omega)) (by omega))
  have hK8 := Keep.new w (.cells (bx l p).arr 30)
  have HMK := Lib.hid (fun W => mk_run0 (P := Try.prog) el_flex (kid l (p : Int)).length (by omega) W)
  have m0 := hM.c0
  unfold Rc.agg Bx.arr at HI
  have hL0 := hL.alloc (.cells (bx l p).arr 30)
  have hM0 := hM.below hx0
  have HLT := Lib.hid hL.lt
  unfold Bx.arr at hx0 hK8 hL0 hM0
  clear hM hL hrd hr hw0 hv hne hk
  go_enter Try.func85, Try.ntmps85
  go_wp2_with (fail)
  refine HI.out.mono ?_
  rintro e w1 ⟨rfl, hx⟩
  have hM1 := hM0.below hx
  have hL1 := hL0.below hx (Nat.le_refl _)
  have hK1 := hK8.below (C := w.heap.size + 1) (Nat.lt_succ_self _) (hx.mono (by simp))
  have hb1 := hx0.trans (hx.mono hx0.size)
  have hs1 := hx.size
  rw [World.size_alloc] at hs1
  clear HI hx hM0 hL0 hK8 hx0
  generalize hq : insetR r (bx l p).pad = q at *
  have hbW := hb1.alloc hb1.size (.cells q.arr 39)
  have hg9 : w.heap.size < w1.heap.size := hs1
  have hM : LnM S w.heap.size w1.heap.size (w1.heap.size + 1) (w1.alloc (.cells q.arr 39)) (.slice (some ⟨bt, ot, none⟩) l.length ct) (.slice al (kid l (p : Int)).length cl) l p q R :=
    ⟨hM1.below (Below.of_alloc _ _), hK1.alloc _, Keep.new _ _, (hL1.alloc _).weak hB, fun z hz => by have := (HLT.out z hz).2; omega, by omega, by omega, by omega⟩
  have hb : Below S w (w1.alloc (.cells q.arr 39)) := hbW.mono (by omega)
  have HPQ := Lib.hid (fun j k => show placeR l p j r k = ⟨q.x + offK true l p q.w j, q.y, (szs true l p q.w).getD j 0, q.h⟩ from HPL.out j k)
  have hQb : 0 ≤ q.x ∧ q.x ≤ 200000 ∧ 0 ≤ q.y ∧ q.y ≤ 200000 ∧ 0 ≤ q.w ∧ q.w ≤ 10000 ∧ 0 ≤ q.h ∧ q.h ≤ 10000 := by omega
  have hS9 : S < w1.heap.size := by omega
  have hS8 : S < w.heap.size := by omega
  clear hb1 hM1 hL1 hK1 hbW hin hq HPL s1 s2 s3 s4 s5 s6 s7 s8 m0
  unfold Rc.arr at hM hb
  go_upto_region 4 with fail
  generalize w1.alloc (.cells #[.int .i64 q.x, .int .i64 q.y, .int .i64 q.w, .int .i64 q.h] 39) = W at *
  generalize hg9e : w1.heap.size = g9 at *
  generalize hCe : g9 + 1 = C at *
  clear hg9e
  obtain ⟨Q, hQ⟩ : ∃ Q, q = Q := ⟨_, rfl⟩
  subst hQ
  rename Rc => Q
  have hCW : C ≤ W.heap.size := by rw [← hCe]; exact Nat.succ_le_of_lt hM.r.lt
  have HFO := Lib.hid (flxs_ok HV.out true p)
  have hoF : Own (W.alloc (.cells (madeCells (Value.agg #[.int .i64 0, .int .i64 0, .int .i64 0, .int .i64 0, .int .i64 0]).cells ((kid l (p : Int)).length * 5)) 37)) C 5 (.slice (some ⟨W.heap.size, 0, none⟩) 0 (kid l (p : Int)).length) (Fs ((flxsOf true l p).take 0)) := by
    have h := Own.made W (madeCells (Value.agg #[.int .i64 0, .int .i64 0, .int .i64 0, .int .i64 0, .int .i64 0]).cells ((kid l (p : Int)).length * 5)) 37 C 5 0 (kid l (p : Int)).length hCW (Nat.zero_le _) (by unfold maxLen; omega) (size_madeCells _ _)
    rw [Nat.zero_mul, List.take_zero] at h
    exact h
  have hMF := hM.keep ((Below.of_alloc W (.cells (madeCells (Value.agg #[.int .i64 0, .int .i64 0, .int .i64 0, .int .i64 0, .int .i64 0]).cells ((kid l (p : Int)).length * 5)) 37)).mono hCW)
  have hbF := hb.alloc (show S ≤ _ by have := hb.size; omega) (.cells (madeCells (Value.agg #[.int .i64 0, .int .i64 0, .int .i64 0, .int .i64 0, .int .i64 0]).cells ((kid l (p : Int)).length * 5)) 37)
  have hCF := Nat.le_trans hCW (Below.of_alloc W (.cells (madeCells (Value.agg #[.int .i64 0, .int .i64 0, .int .i64 0, .int .i64 0, .int .i64 0]).cells ((kid l (p : Int)).length * 5)) 37)).size
  have HS89 := Lib.hid (And.intro hS8 hS9)
  have hSC : S + 2 ≤ C := hM.c1
  clear hM hb hCW
  have hmkw := HMK.out W
  go_wp2_with (fail)
  go_loopw [10, 36] (fun fv i wr => ∃ j : Nat, j ≤ (kid l (p : Int)).length ∧ i = .int .i64 j ∧ Own wr C 5 fv (Fs ((flxsOf true l p).take j)) ∧ LnM S w.heap.size g9 C wr (.slice (some ⟨bt, ot, none⟩) l.length ct) (.slice al (kid l (p : Int)).length cl) l p Q R ∧ Below S w wr ∧ C ≤ wr.heap.size) (fun _ i _ => (kid l (p : Int)).length - (intOf i).toNat)
  case atStart => exact ⟨0, Nat.zero_le _, rfl, hoF, hMF, hbF, hCF⟩
  case round =>
    clear hoF hMF hbF hCF hmkw
    obtain ⟨j, hj, rfl, hoF, hM, hb, hC⟩ := hrel
    by_cases hlt : j < (kid l (p : Int)).length
    · obtain ⟨k, hk⟩ : ∃ k, (kid l (p : Int))[j]? = some k := ⟨_, List.getElem?_eq_getElem hlt⟩
      obtain ⟨hkl, hkp⟩ := mem_kid_iff.1 (List.mem_of_getElem? hk)
      obtain ⟨ga, oa, rfl, ck⟩ := hM.L.rd.intAt (show (ni (kid l (p : Int)))[j]? = some (k : Int) by simp [ni, hk])
      have hji : (j : Int) < (kid l (p : Int)).length := by omega
      have hki : (k : Int) < l.length := by omega
      have hkw : IntKind.i64.wrap ((j : Int) + 1) = (j : Int) + 1 := by rw [IntKind.wrap_i64]; omega
      have HN := Lib.hid (natural_any HV.out wr (i := (k : Int)) (by omega) (by omega) (HW0.out wr hb))
      rw [Int.toNat_natCast] at HN
      have hn4 := nat_4000 HV.out hkl
      have hfo := HFO.out _ (show flxOf true l k ∈ flxsOf true l p from List.mem_map.2 ⟨k, List.mem_of_getElem? hk, rfl⟩)
      have HAL : Hid (along true l k = (natS l k).1) := rfl
      have ET := Lib.hid (show Fs ((flxsOf true l p).take (j + 1)) = Fs ((flxsOf true l p).take j) ++ Fs [flxOf true l k] by
        rw [List.take_add_one, show (flxsOf true l p)[j]? = some (flxOf true l k) by unfold flxsOf; rw [List.getElem?_map, hk]; rfl, Fs_append]
        rfl)
      have hlk : ((flxsOf true l p).take j).length ≤ 16 := by rw [List.length_take]; omega
      have m0 := hM.m.c0
      clear hk hkp hfo
      go_wp2_with (fail)
      refine HN.out.mono ?_
      rintro e w3 ⟨rfl, hx3⟩
      have hC3 := Nat.le_trans hC hx3.size
      have hM3 := hM.keep (hx3.mono hC)
      have hF3 := hoF.below hx3 (Nat.le_refl _)
      have hb3 := hb.trans (hx3.mono (by omega))
      have hF3b := hF3.lt
      obtain ⟨g13, hg13⟩ : ∃ g, w3.heap.size = g := ⟨_, rfl⟩
      rw [hg13] at hC3 hF3b
      have HF3B := Lib.hid hF3b
      clear hM hoF hb hx3 ck m0 hF3b
      have hM5 := hM3.keep ((Below.of_alloc w3 (.cells #[.int .i64 (natS l k).1, .int .i64 (natS l k).2] 77)).mono (by omega))
      have hF5 := hF3.alloc (.cells #[.int .i64 (natS l k).1, .int .i64 (natS l k).2] 77)
      have hb5 := hb3.alloc (show S ≤ _ by have := hb3.size; omega) (.cells #[.int .i64 (natS l k).1, .int .i64 (natS l k).2] 77)
      have hK5 := Keep.new w3 (.cells #[.int .i64 (natS l k).1, .int .i64 (natS l k).2] 77)
      have hC5 : C ≤ (w3.alloc (.cells #[.int .i64 (natS l k).1, .int .i64 (natS l k).2] 77)).heap.size := by rw [World.size_alloc]; omega
      rw [hg13] at hK5
      clear hM3 hF3 hb3
      go_upto_region 11 with fail
      generalize w3.alloc (.cells #[.int .i64 (natS l k).1, .int .i64 (natS l k).2] 77) = W5 at *
      clear hg13
      have hgl := hK5.lt
      have hMd := hM5.drew
      have hFd := hF5.drew
      have hbd5 := hb5.drew
      have hKd := hK5.drew
      have hCd : C ≤ W5.drew.heap.size := hC5
      have m0 : ∀ w9, Below C W5.drew w9 → w9.cell? ⟨S + 1, 0, none⟩ = some (.slice (some ⟨bt, ot, none⟩) l.length ct) := fun w9 h => (hMd.keep h).m.c0
      have HM0 := Lib.hid m0
      have HTC := Lib.hid (fun w9 (h : Below C W5.drew w9) => show Cells9 w9 bt (ot + k * 9) (bx l k) by
        obtain ⟨b', o', e, _, _, hc⟩ := bx_cells (HW0.out w9 (hbd5.trans (h.mono (by omega)))) hkl
        cases e
        exact hc)
      go_upto_region 11 with fail
      refine wp_region_held_drew (S := fun w' => Below C W5.drew w' ∧ Keep g13 (.cells #[.int .i64 (natS l k).1, .int .i64 (natS l k).2] 77) w') (by kernel_rfl) ⟨Below.refl _ _, hKd⟩ (fun hS => ?_)
      clear hM5 hF5 hb5 hK5 hC5 m0
      generalize W5.drew = wd at *
      refine hTake (by kernel_rfl) (fun d _ _ _ _ h => by cases d <;> exact h) hS 0 (some 49) _ rfl (v := ?_) (by kernel_rfl) ?_ ?_
      rotate_left
      · intro _ _; go_simp; first | done | with_reducible rfl
      simp only [Act.put, List.setIfInBounds_toArray, List.set_cons_zero, List.set_cons_succ]
      refine hTake (by kernel_rfl) (fun d _ _ _ _ h => by cases d <;> exact h) hS 1 (some 50) _ rfl (v := ?_) (by kernel_rfl) ?_ ?_
      rotate_left
      · intro _ _; go_simp; first | done | with_reducible rfl
      simp only [Act.put, List.setIfInBounds_toArray, List.set_cons_zero, List.set_cons_succ]
      refine hTake (by kernel_rfl) (fun d _ _ _ _ h => by cases d <;> exact h) hS 2 (some 51) _ rfl (v := ?_) (by kernel_rfl) ?_ ?_
      rotate_left
      · intro w9 hS9; have q := hS9.2.cell 0; go_simp; first | done | with_reducible rfl
      simp only [Act.put, List.setIfInBounds_toArray, List.set_cons_zero, List.set_cons_succ]
      refine hTake (by kernel_rfl) (fun d _ _ _ _ h => by cases d <;> exact h) hS 3 (some 52) _ rfl (v := ?_) (by kernel_rfl) ?_ ?_
      rotate_left
      · intro _ _; go_simp; first | done | with_reducible rfl
      simp only [Act.put, List.setIfInBounds_toArray, List.set_cons_zero, List.set_cons_succ]
      refine hTake (by kernel_rfl) (fun d _ _ _ _ h => by cases d <;> exact h) hS 4 (some 53) _ rfl (v := ?_) (by kernel_rfl) ?_ ?_
      rotate_left
      · intro _ _; go_simp; first | done | with_reducible rfl
      simp only [Act.put, List.setIfInBounds_toArray, List.set_cons_zero, List.set_cons_succ]
      refine hTake (by kernel_rfl) (fun d _ _ _ _ h => by cases d <;> exact h) hS 5 (some 54) _ rfl (v := ?_) (by kernel_rfl) ?_ ?_
      rotate_left
      · intro _ _; go_simp; first | done | with_reducible rfl
      simp only [Act.put, List.setIfInBounds_toArray, List.set_cons_zero, List.set_cons_succ]
      refine hTake (by kernel_rfl) (fun d _ _ _ _ h => by cases d <;> exact h) hS 6 (some 55) _ rfl (v := ?_) (by kernel_rfl) ?_ ?_
      rotate_left
      · intro w9 hS9; have q := HM0.out _ hS9.1; go_simp; first | done | with_reducible rfl
      simp only [Act.put, List.setIfInBounds_toArray, List.set_cons_zero, List.set_cons_succ]
      refine hTake (by kernel_rfl) (fun d _ _ _ _ h => by cases d <;> exact h) hS 7 (some 56) _ rfl (v := ?_) (by kernel_rfl) ?_ ?_
      rotate_left
      · intro _ _; go_simp; first | done | with_reducible rfl
      simp only [Act.put, List.setIfInBounds_toArray, List.set_cons_zero, List.set_cons_succ]
      refine hTake (by kernel_rfl) (fun d _ _ _ _ h => by cases d <;> exact h) hS 8 (some 57) _ rfl (v := ?_) (by kernel_rfl) ?_ ?_
      rotate_left
      · intro _ _; go_simp; first | done | with_reducible rfl
      simp only [Act.put, List.setIfInBounds_toArray, List.set_cons_zero, List.set_cons_succ]
      refine hTake (by kernel_rfl) (fun d _ _ _ _ h => by cases d <;> exact h) hS 9 (some 58) _ rfl (v := ?_) (by kernel_rfl) ?_ ?_
      rotate_left
      · intro _ _; go_simp; first | done | with_reducible rfl
      simp only [Act.put, List.setIfInBounds_toArray, List.set_cons_zero, List.set_cons_succ]
      refine hTake (by kernel_rfl) (fun d _ _ _ _ h => by cases d <;> exact h) hS 10 (some 59) _ rfl (v := ?_) (by kernel_rfl) ?_ ?_
      rotate_left
      · intro w9 hS9; obtain ⟨q0, q1, q2, q3, q4, q5, q6, q7, q8⟩ := HTC.out _ hS9.1; go_simp; first | done | with_reducible rfl
      simp only [Act.put, List.setIfInBounds_toArray, List.set_cons_zero, List.set_cons_succ]
      refine hTake (by kernel_rfl) (fun d _ _ _ _ h => by cases d <;> exact h) hS 11 (some 60) _ rfl (v := ?_) (by kernel_rfl) ?_ ?_
      rotate_left
      · intro _ _; go_simp; first | done | with_reducible rfl
      simp only [Act.put, List.setIfInBounds_toArray, List.set_cons_zero, List.set_cons_succ]
      refine hTake (by kernel_rfl) (fun d _ _ _ _ h => by cases d <;> exact h) hS 12 (some 61) _ rfl (v := ?_) (by kernel_rfl) ?_ ?_
      rotate_left
      · intro _ _; go_simp; first | done | with_reducible rfl
      simp only [Act.put, List.setIfInBounds_toArray, List.set_cons_zero, List.set_cons_succ]
      refine hTake (by kernel_rfl) (fun d _ _ _ _ h => by cases d <;> exact h) hS 13 (some 62) _ rfl (v := ?_) (by kernel_rfl) ?_ ?_
      rotate_left
      · intro _ _; go_simp; first | done | with_reducible rfl
      simp only [Act.put, List.setIfInBounds_toArray, List.set_cons_zero, List.set_cons_succ]
      refine hTake (by kernel_rfl) (fun d _ _ _ _ h => by cases d <;> exact h) hS 14 (some 63) _ rfl (v := ?_) (by kernel_rfl) ?_ ?_
      rotate_left
      · intro w9 hS9; have q := HM0.out _ hS9.1; go_simp; first | done | with_reducible rfl
      simp only [Act.put, List.setIfInBounds_toArray, List.set_cons_zero, List.set_cons_succ]
      refine hTake (by kernel_rfl) (fun d _ _ _ _ h => by cases d <;> exact h) hS 15 (some 64) _ rfl (v := ?_) (by kernel_rfl) ?_ ?_
      rotate_left
      · intro _ _; go_simp; first | done | with_reducible rfl
      simp only [Act.put, List.setIfInBounds_toArray, List.set_cons_zero, List.set_cons_succ]
      refine hTake (by kernel_rfl) (fun d _ _ _ _ h => by cases d <;> exact h) hS 16 (some 65) _ rfl (v := ?_) (by kernel_rfl) ?_ ?_
      rotate_left
      · intro _ _; go_simp; first | done | with_reducible rfl
      simp only [Act.put, List.setIfInBounds_toArray, List.set_cons_zero, List.set_cons_succ]
      refine hTake (by kernel_rfl) (fun d _ _ _ _ h => by cases d <;> exact h) hS 17 (some 66) _ rfl (v := ?_) (by kernel_rfl) ?_ ?_
      rotate_left
      · intro _ _; go_simp; first | done | with_reducible rfl
      simp only [Act.put, List.setIfInBounds_toArray, List.set_cons_zero, List.set_cons_succ]
      refine hTake (by kernel_rfl) (fun d _ _ _ _ h => by cases d <;> exact h) hS 18 (some 67) _ rfl (v := ?_) (by kernel_rfl) ?_ ?_
      rotate_left
      · intro w9 hS9; obtain ⟨q0, q1, q2, q3, q4, q5, q6, q7, q8⟩ := HTC.out _ hS9.1; go_simp; first | done | with_reducible rfl
      simp only [Act.put, List.setIfInBounds_toArray, List.set_cons_zero, List.set_cons_succ]
      refine hTake (by kernel_rfl) (fun d _ _ _ _ h => by cases d <;> exact h) hS 19 (some 68) _ rfl (v := ?_) (by kernel_rfl) ?_ ?_
      rotate_left
      · intro _ _; go_simp; first | done | with_reducible rfl
      simp only [Act.put, List.setIfInBounds_toArray, List.set_cons_zero, List.set_cons_succ]
      refine wpAnyH_ready (rs := [20]) (by kernel_rfl) (by simp) ?_
      refine AllReadyH.cons (o := _) rfl (fun K9 hK9 => ?_) AllReadyH.nil
      go_simp
      refine hK9.out _ _ ⟨hS.1.alloc hCd _, hS.2.alloc _⟩ (fun hS => ?_)
      clear hK9 K9
      try simp only [Act.put, List.setIfInBounds_toArray, List.set_cons_zero, List.set_cons_succ]
      refine wpAnyH_ready (rs := [21]) (by kernel_rfl) (by simp) ?_
      refine AllReadyH.cons (o := _) rfl (fun K9 hK9 => ?_) AllReadyH.nil
      refine step_app rfl _ _ _ rfl el_flex rfl (hFd.alloc _) rfl (show Rd _ 5 _ (Fs [flxOf true l k]) from Rd.oneAt _ _ rfl) (Fs_one _) ?hl ?hb ?hK
      case hl => rw [Fs_length, Fs_length]; simp only [List.length_singleton]; omega
      case hb => exact Nat.le_trans hCd (Below.of_alloc wd _).size
      intro v' w7 ho7 hg7 hf7
      have hb7 := below_app hS.1 (hFd.alloc _) hg7 (Nat.le_trans hCd (Below.of_alloc wd _).size) (Nat.le_refl _)
      have hk7 : Keep g13 (.cells #[.int .i64 (natS l k).1, .int .i64 (natS l k).2] 77) w7 := by
        have h := hS.2
        unfold Keep
        rw [hg7.block g13 h.lt (fun e => by have := (HF3B.out _ e.symm).2; omega)]
        exact h
      refine hK9.out _ _ ⟨hb7, hk7⟩ (fun hS => ?_)
      clear hK9 K9
      try simp only [Act.put, List.setIfInBounds_toArray]
      refine wpAnyH_ready (rs := [22]) (by kernel_rfl) (by simp) ?_
      refine AllReadyH.cons (o := _) rfl (fun K9 hK9 => ?_) AllReadyH.nil
      go_simp
      refine hK9.out _ _ hS (fun hS => ?_)
      clear hK9 K9
      try simp only [Act.put, List.setIfInBounds_toArray, List.set_cons_zero, List.set_cons_succ]
      refine wpAnyH_done (by kernel_rfl) ?_ _
      have hM7 := hMd.keep hb7
      have hbb7 := hbd5.trans (hb7.mono (by omega))
      have hC7 := Nat.le_trans hCd hb7.size
      clear hS hk7 hg7 hf7 hKd hFd hMd hbd5 hb7
      go_wp2
      go_roundw
      case rel => exact ⟨j + 1, by omega, by go_num, by rw [ET.out]; exact ho7, hM7, hbb7, hC7⟩
      case measure => simp [intOf]; omega
    · obtain rfl : j = (kid l (p : Int)).length := by omega
      rw [List.take_of_length_le (by rw [flxs_length]; exact Nat.le_refl _)] at hoF
      have hg1 := gap_le HV.out hp (n := ((kid l (p : Int)).length : Int) - 1) (by omega) (by omega)
      have hsp := spc_le HV.out hp hm1 (space := Q.w) (by omega)
      have hjj : ¬ ((kid l (p : Int)).length : Int) < (kid l (p : Int)).length := by omega
      have HFL : Hid (Calls Try.prog 57 #[u10, .int .i64 (spc l p Q.w)] wr fun e w' => ∃ v', e = .returned v' ∧ Own w' wr.heap.size 1 v' (Is (szs true l p Q.w)) ∧ Ext wr w') := Lib.hid (flexed_any wr hoF.rd HFO.out (by rw [flxs_length]; exact hkn) (space := spc l p Q.w) ⟨hsp.1, by omega⟩)
      obtain ⟨q0, q1, q2, q3⟩ := cells4_of (x := Q) hM.r
      have b5 : wr.cell? ⟨w.heap.size, 5, none⟩ = some (.int .i64 (bx l p).gap) := hM.b.cell 5
      have b8 : wr.cell? ⟨w.heap.size, 8, none⟩ = some (.int .i64 (bx l p).justify) := hM.b.cell 8
      have hszr : (szs true l p Q.w).length = (kid l (p : Int)).length := szs_length HV.out _ _ _
      have HSZ := Lib.hid (szs_mem HV.out true p Q.w)
      have HSL := Lib.hid hszr
      have HOFF := Lib.hid (fun (W : World) (v : Value) (h : Rd W 1 v (Is (szs true l p Q.w))) => offsets_any (space := Q.w) (gap := (bx l p).gap) (j := (bx l p).justify) W h (by rw [HSL.out]; omega) (by rw [HSL.out]; omega) HSZ.out (by omega) (by omega) (by omega))
      have hjw : IntKind.i64.wrap (((kid l (p : Int)).length : Int) - 1) = ((kid l (p : Int)).length : Int) - 1 := by rw [IntKind.wrap_i64]; omega
      have hspw : spc l p Q.w ≤ 10000 := by omega
      have hRN : ∀ w9, Below C wr w9 → w9.cell? ⟨g9, 2, none⟩ = some (.int .i64 Q.w) ∧ w9.cell? ⟨w.heap.size, 5, none⟩ = some (.int .i64 (bx l p).gap) ∧ w9.cell? ⟨w.heap.size, 8, none⟩ = some (.int .i64 (bx l p).justify) := fun w9 h => by
        have h9 := hM.keep h
        exact ⟨(cells4_of (x := Q) h9.r).c2, h9.b.cell 5, h9.b.cell 8⟩
      have HRN := Lib.hid hRN
      have HMK2 := Lib.hid (fun w9 (h : Below C wr w9) => hM.keep h)
      have HBK2 := Lib.hid (fun w9 (h : Below C wr w9) => hb.trans (h.mono (Nat.le_trans (Nat.le_add_right _ _) hSC)))
      have HMR := Lib.hid hM
      clear hoF hszr hRN hsp hM hb
      by_cases hneg : Q.w - (bx l p).gap * (((kid l (p : Int)).length : Int) - 1) < 0
      · have hse : spc l p Q.w = 0 := by unfold spc; omega
        have HSE := Lib.hid hse
        rw [hse] at HFL
        clear hse hspw
        go_wp2_with (fail)
        refine HFL.out.mono ?_
        rintro e w8 ⟨v8, rfl, ho8, hx8⟩
        have hB8 := hx8.mono hC
        obtain ⟨r2, r5, r8⟩ := HRN.out w8 hB8
        clear q0 q1 q2 q3 b5 b8 HFL
        go_wp2_with (fail)
        refine (HOFF.out w8 v8 ho8.rd).mono ?_
        rintro e w10 ⟨v10, rfl, ho10, hx10⟩
        have hB10 := hB8.trans (hx10.mono (Nat.le_trans hC hx8.size))
        have hM10 := HMK2.out w10 hB10
        have hb10 := HBK2.out w10 hB10
        have hC10 := Nat.le_trans (Nat.le_trans hC hx8.size) hx10.size
        have ho8' := (ho8.below hx10 (Nat.le_refl _)).weak hC
        have ho10' := ho10.weak (Nat.le_trans hC hx8.size)
        obtain ⟨a8, c8, rfl, hn8, hc8, _⟩ := ho8'.rd.ints
        obtain ⟨a10, c10, rfl, hn10, hc10, _⟩ := ho10'.rd.ints
        rw [HSL.out] at hn8 ho8' ⊢
        have hofl : (offL (szs true l p Q.w) Q.w (bx l p).gap (bx l p).justify).length = (kid l (p : Int)).length := by rw [offL_length, HSL.out]
        rw [hofl] at hn10 ho10' ⊢
        have HOL := Lib.hid hofl
        unfold maxLen at hc8 hc10
        have HPP : Hid (PutTo l p r 0 R R) := PutTo.zero _ _ _ _
        clear ho8 ho10 hx8 hx10 hB8 hB10 r2 r5 r8 hofl HMK2 HBK2 HRN HOFF
        go_wp2_with (fail)
        go_loopw [93] (fun i wx => ∃ j : Nat, j ≤ (kid l (p : Int)).length ∧ i = .int .i64 j ∧ (∃ R', LnM S w.heap.size g9 C wx (.slice (some ⟨bt, ot, none⟩) l.length ct) (.slice al (kid l (p : Int)).length cl) l p Q R' ∧ Hid (PutTo l p r j R R')) ∧
          Own wx C 1 (.slice a8 (kid l (p : Int)).length c8) (Is (szs true l p Q.w)) ∧ Own wx C 1 (.slice a10 (kid l (p : Int)).length c10) (Is (offL (szs true l p Q.w) Q.w (bx l p).gap (bx l p).justify)) ∧ Below S w wx ∧ C ≤ wx.heap.size) (fun i _ => (kid l (p : Int)).length - (intOf i).toNat)
        case atStart => exact ⟨0, Nat.zero_le _, rfl, ⟨R, hM10, HPP⟩, ho8', ho10', hb10, hC10⟩
        case round =>
          clear hM10 HPP ho8' ho10' hb10 hC10 hC HMR
          obtain ⟨j, hj, rfl, ⟨R', hM, hP⟩, hoS, hoO, hb, hC⟩ := hrel
          by_cases hlt : j < (kid l (p : Int)).length
          · obtain ⟨k, hk⟩ : ∃ k, (kid l (p : Int))[j]? = some k := ⟨_, List.getElem?_eq_getElem hlt⟩
            obtain ⟨hkl, hkp⟩ := mem_kid_iff.1 (List.mem_of_getElem? hk)
            obtain ⟨ga, oa, rfl, _⟩ := hM.L.rd.intAt (show (ni (kid l (p : Int)))[j]? = some (k : Int) by simp [ni, hk])
            have HLK := Lib.hid (fun w9 R9 (h : LnM S w.heap.size g9 C w9 (.slice (some ⟨bt, ot, none⟩) l.length ct) (.slice (some ⟨ga, oa, none⟩) (kid l (p : Int)).length cl) l p Q R9) => show w9.cell? ⟨ga, oa + j, none⟩ = some (.int .i64 (k : Int)) by
              obtain ⟨b', o', e, h⟩ := h.L.rd.intAt (show (ni (kid l (p : Int)))[j]? = some (k : Int) by simp [ni, hk])
              cases e
              exact h)
            have hszj := szs_get HV.out true Q.w hk
            have hxj := HSZ.out _ (List.mem_of_getElem? hszj)
            have hofj : (offL (szs true l p Q.w) Q.w (bx l p).gap (bx l p).justify)[j]? = some (offK true l p Q.w j) := offL_get (by rw [HSL.out]; exact hlt)
            have hob := offK_le HV.out true hp (space := Q.w) (by omega) hszj
            obtain ⟨g1, o1, rfl, ck8⟩ := hoS.rd.intAt hszj
            obtain ⟨g2, o2, rfl, ck10⟩ := hoO.rd.intAt hofj
            have HPS := Lib.hid (fun (R' : List Rc) (h : PutTo l p r j R R') (hl : k < R'.length) => h.step hk hl)
            have HRE := Lib.hid (HPQ.out j k)
            have hji : (j : Int) < (kid l (p : Int)).length := by omega
            have hki : (k : Int) < l.length := by omega
            have hkw : IntKind.i64.wrap ((j : Int) + 1) = (j : Int) + 1 := by rw [IntKind.wrap_i64]; omega
            have HF1 := Lib.hid (fun w9 (h : Below wr.drew.heap.size wr.drew w9) => And.intro (cells4_of (x := Q) (hM.drew.keep (h.mono hC)).r) (cell_below h (show wr.drew.cell? ⟨g1, o1 + j, none⟩ = some (.int .i64 ((szs true l p Q.w).getD j 0)) from ck8)))
            have hM1 := hM.drew
            have hoS1 := hoS.drew
            have hoO1 := hoO.drew
            have hb1 := hb.drew
            have hC1 : C ≤ wr.drew.heap.size := hC
            have HQB := Lib.hid hQb
            clear hk hkp hszj hofj
            generalize (szs true l p Q.w).getD j 0 = sz at *
            generalize offK true l p Q.w j = of at *
            go_upto_region 17 with fail
            refine wp_region_held_drew (S := fun w' => Below wr.drew.heap.size wr.drew w') (by kernel_rfl) (Below.refl _ _) (fun hS => ?_)
            clear hM hoS hoO hb hC ck8 ck10
            generalize wr.drew = wd at *
            refine hTake (by kernel_rfl) (fun d _ _ _ _ h => by cases d <;> exact h) hS 0 (some 98) _ rfl (v := ?_) (by kernel_rfl) ?_ ?_
            rotate_left
            · intro _ _; go_simp; first | done | with_reducible rfl
            simp only [Act.put, List.setIfInBounds_toArray, List.set_cons_zero, List.set_cons_succ]
            refine hTake (by kernel_rfl) (fun d _ _ _ _ h => by cases d <;> exact h) hS 1 (some 99) _ rfl (v := ?_) (by kernel_rfl) ?_ ?_
            rotate_left
            · intro w9 hS9; obtain ⟨⟨q0, q1, q2, q3⟩, _⟩ := HF1.out _ hS9; go_simp; first | done | with_reducible rfl
            simp only [Act.put, List.setIfInBounds_toArray, List.set_cons_zero, List.set_cons_succ]
            refine hTake (by kernel_rfl) (fun d _ _ _ _ h => by cases d <;> exact h) hS 2 (some 100) _ rfl (v := ?_) (by kernel_rfl) ?_ ?_
            rotate_left
            · intro _ _; go_simp; first | done | with_reducible rfl
            simp only [Act.put, List.setIfInBounds_toArray, List.set_cons_zero, List.set_cons_succ]
            refine hTake (by kernel_rfl) (fun d _ _ _ _ h => by cases d <;> exact h) hS 3 (some 101) _ rfl (v := ?_) (by kernel_rfl) ?_ ?_
            rotate_left
            · intro _ _; go_simp; first | done | with_reducible rfl
            simp only [Act.put, List.setIfInBounds_toArray, List.set_cons_zero, List.set_cons_succ]
            refine hTake (by kernel_rfl) (fun d _ _ _ _ h => by cases d <;> exact h) hS 4 (some 102) _ rfl (v := ?_) (by kernel_rfl) ?_ ?_
            rotate_left
            · intro _ _; go_simp; first | done | with_reducible rfl
            simp only [Act.put, List.setIfInBounds_toArray, List.set_cons_zero, List.set_cons_succ]
            refine hTake (by kernel_rfl) (fun d _ _ _ _ h => by cases d <;> exact h) hS 5 (some 103) _ rfl (v := ?_) (by kernel_rfl) ?_ ?_
            rotate_left
            · intro w9 hS9; obtain ⟨⟨q0, q1, q2, q3⟩, _⟩ := HF1.out _ hS9; go_simp; first | done | with_reducible rfl
            simp only [Act.put, List.setIfInBounds_toArray, List.set_cons_zero, List.set_cons_succ]
            refine hTake (by kernel_rfl) (fun d _ _ _ _ h => by cases d <;> exact h) hS 6 (some 104) _ rfl (v := ?_) (by kernel_rfl) ?_ ?_
            rotate_left
            · intro _ _; go_simp; first | done | with_reducible rfl
            simp only [Act.put, List.setIfInBounds_toArray, List.set_cons_zero, List.set_cons_succ]
            refine hTake (by kernel_rfl) (fun d _ _ _ _ h => by cases d <;> exact h) hS 7 (some 105) _ rfl (v := ?_) (by kernel_rfl) ?_ ?_
            rotate_left
            · intro _ _; go_simp; first | done | with_reducible rfl
            simp only [Act.put, List.setIfInBounds_toArray, List.set_cons_zero, List.set_cons_succ]
            refine hTake (by kernel_rfl) (fun d _ _ _ _ h => by cases d <;> exact h) hS 8 (some 106) _ rfl (v := ?_) (by kernel_rfl) ?_ ?_
            rotate_left
            · intro _ _; go_simp; first | done | with_reducible rfl
            simp only [Act.put, List.setIfInBounds_toArray, List.set_cons_zero, List.set_cons_succ]
            refine hTake (by kernel_rfl) (fun d _ _ _ _ h => by cases d <;> exact h) hS 9 (some 107) _ rfl (v := ?_) (by kernel_rfl) ?_ ?_
            rotate_left
            · intro w9 hS9; obtain ⟨_, q4⟩ := HF1.out _ hS9; go_simp; first | done | with_reducible rfl
            simp only [Act.put, List.setIfInBounds_toArray, List.set_cons_zero, List.set_cons_succ]
            refine hTake (by kernel_rfl) (fun d _ _ _ _ h => by cases d <;> exact h) hS 10 (some 108) _ rfl (v := ?_) (by kernel_rfl) ?_ ?_
            rotate_left
            · intro _ _; go_simp; first | done | with_reducible rfl
            simp only [Act.put, List.setIfInBounds_toArray, List.set_cons_zero, List.set_cons_succ]
            refine hTake (by kernel_rfl) (fun d _ _ _ _ h => by cases d <;> exact h) hS 11 (some 109) _ rfl (v := ?_) (by kernel_rfl) ?_ ?_
            rotate_left
            · intro w9 hS9; obtain ⟨⟨q0, q1, q2, q3⟩, _⟩ := HF1.out _ hS9; go_simp; first | done | with_reducible rfl
            simp only [Act.put, List.setIfInBounds_toArray, List.set_cons_zero, List.set_cons_succ]
            refine hTake (by kernel_rfl) (fun d _ _ _ _ h => by cases d <;> exact h) hS 12 (some 110) _ rfl (v := ?_) (by kernel_rfl) ?_ ?_
            rotate_left
            · intro _ _; go_simp; first | done | with_reducible rfl
            simp only [Act.put, List.setIfInBounds_toArray, List.set_cons_zero, List.set_cons_succ]
            have hS0 : Below wd.heap.size wd wd := Below.refl _ _
            have hww : IntKind.i64.wrap (Q.x + of) = Q.x + of := by rw [IntKind.wrap_i64]; omega
            refine wpAnyH_ready (rs := [13]) (by kernel_rfl) (by simp) ?_
            refine AllReadyH.cons (o := _) rfl (fun K9 hK9 => ?_) AllReadyH.nil
            go_simp
            refine hK9.out _ _ (hS0.alloc (Nat.le_refl _) _) (fun hS => ?_)
            clear hK9 K9
            try simp only [Act.put, List.setIfInBounds_toArray, List.set_cons_zero, List.set_cons_succ]
            refine wpAnyH_ready (rs := [14]) (by kernel_rfl) (by simp) ?_
            refine AllReadyH.cons (o := _) rfl (fun K9 hK9 => ?_) AllReadyH.nil
            go_simp
            refine hK9.out _ _ (hS0.alloc (Nat.le_refl _) _) (fun hS => ?_)
            clear hK9 K9
            try simp only [Act.put, List.setIfInBounds_toArray, List.set_cons_zero, List.set_cons_succ]
            refine wpAnyH_done (by kernel_rfl) ?_ _
            have hB7 : Below wd.heap.size wd (wd.alloc (.cells #[.int .i64 (Q.x + of), .int .i64 Q.y, .int .i64 sz, .int .i64 Q.h] 39)) := hS0.alloc (Nat.le_refl _) _
            have hK7 := Keep.new wd (.cells #[.int .i64 (Q.x + of), .int .i64 Q.y, .int .i64 sz, .int .i64 Q.h] 39)
            clear hS hS0
            generalize hW7 : wd.alloc (.cells #[.int .i64 (Q.x + of), .int .i64 Q.y, .int .i64 sz, .int .i64 Q.h] 39) = W7 at *
            clear hW7
            go_upto_region 20 with fail
            have hB8 := hB7
            have hK8 := hK7
            clear hB7 hK7
            generalize W7 = W8 at *
            have hM8 := hM1.keep (hB8.mono hC1)
            have hS8 := hoS1.below hB8 (Nat.le_refl _)
            have hO8 := hoO1.below hB8 (Nat.le_refl _)
            have hb8 := hb1.trans (hB8.mono (by omega))
            have hC8 := Nat.le_trans hC1 hB8.size
            have d0 : W8.drew.cell? ⟨S + 1, 1, none⟩ = some (.slice (some ⟨S, 0, none⟩) l.length l.length) := hM8.m.c1
            have d1 : W8.drew.cell? ⟨ga, oa + j, none⟩ = some (.int .i64 (k : Int)) := HLK.out _ _ hM8.drew
            have e0 : W8.drew.cell? ⟨wd.heap.size, 0, none⟩ = some (.int .i64 (Q.x + of)) := hK8.cell 0
            have e1 : W8.drew.cell? ⟨wd.heap.size, 1, none⟩ = some (.int .i64 (Q.y)) := hK8.cell 1
            have e2 : W8.drew.cell? ⟨wd.heap.size, 2, none⟩ = some (.int .i64 (sz)) := hK8.cell 2
            have e3 : W8.drew.cell? ⟨wd.heap.size, 3, none⟩ = some (.int .i64 (Q.h)) := hK8.cell 3
            go_still_tail 10, (by kernel_rfl)
            repeat still_step
            try refine wpStill_nil ?_
            change wpList _ _ _ _ _ W8.drew
            have hM9 := hM8.drew
            have hS9' := hS8.drew
            have hO9 := hO8.drew
            have hb9 := hb8.drew
            have hC9 : C ≤ W8.drew.heap.size := hC8
            clear d0 d1 e0 e1 e2 e3 hM8 hS8 hO8 hb8 hC8 hK8 hB8 hM1 hoS1 hoO1 hb1 hC1
            generalize W8.drew = w9 at *
            have hkR : k < R'.length := by rw [hM9.m.len]; exact hkl
            obtain ⟨x, hx⟩ : ∃ x, R'[k]? = some x := ⟨_, List.getElem?_eq_getElem hkR⟩
            obtain ⟨y0, y1, y2, y3⟩ := hM9.m.at hx
            have hfz := (hM9.m.set hkl).1
            have f0 := hfz (k * 4)
            have f1 := hfz (k * 4 + 1)
            have f2 := hfz (k * 4 + 2)
            have f3 := hfz (k * 4 + 3)
            have HM9 := Lib.hid (hM9.set HS89.out.1 HS89.out.2 hkl (Q.x + of) (Q.y) (sz) (Q.h))
            have HSS := Lib.hid (own_set4 (g2 := S) (o1 := k * 4) (o2 := k * 4 + 1) (o3 := k * 4 + 2) (o4 := k * 4 + 3) hS9' (fun e => by have := (hS9'.lt _ e).1; omega) (.int .i64 (Q.x + of)) (.int .i64 (Q.y)) (.int .i64 (sz)) (.int .i64 (Q.h)))
            have HOO := Lib.hid (own_set4 (g2 := S) (o1 := k * 4) (o2 := k * 4 + 1) (o3 := k * 4 + 2) (o4 := k * 4 + 3) hO9 (fun e => by have := (hO9.lt _ e).1; omega) (.int .i64 (Q.x + of)) (.int .i64 (Q.y)) (.int .i64 (sz)) (.int .i64 (Q.h)))
            have HBB := Lib.hid (below_set4 (g := S) (o1 := k * 4) (o2 := k * 4 + 1) (o3 := k * 4 + 2) (o4 := k * 4 + 3) hb9 (Nat.le_refl _) (.int .i64 (Q.x + of)) (.int .i64 (Q.y)) (.int .i64 (sz)) (.int .i64 (Q.h)))
            have HP9 := Lib.hid (HPS.out R' hP.out hkR)
            clear hM9 hS9' hO9 hb9 hfz hx
            go_wp2
            go_roundw
            case rel =>
              refine ⟨j + 1, by omega, by go_num, ⟨_, HM9.out, ?_⟩, HSS.out, HOO.out, HBB.out, by simp [World.setCell]; omega⟩
              have h := HP9.out
              rw [HRE.out] at h
              exact h
            case measure => simp [intOf]; omega
          · obtain rfl : j = (kid l (p : Int)).length := by omega
            have HBE := Lib.hid hb
            have HME := Lib.hid hM.m
            clear hb hM
            go_wp2_with (fail)
            go_end0
            exact ⟨rfl, R', HME.out, HBE.out, hP.out⟩
      · have hse : spc l p Q.w = Q.w - (bx l p).gap * (((kid l (p : Int)).length : Int) - 1) := by unfold spc; omega
        have HSE := Lib.hid hse
        rw [hse] at HFL
        clear hse hspw
        go_wp2_with (fail)
        refine HFL.out.mono ?_
        rintro e w8 ⟨v8, rfl, ho8, hx8⟩
        have hB8 := hx8.mono hC
        obtain ⟨r2, r5, r8⟩ := HRN.out w8 hB8
        clear q0 q1 q2 q3 b5 b8 HFL
        go_wp2_with (fail)
        refine (HOFF.out w8 v8 ho8.rd).mono ?_
        rintro e w10 ⟨v10, rfl, ho10, hx10⟩
        have hB10 := hB8.trans (hx10.mono (Nat.le_trans hC hx8.size))
        have hM10 := HMK2.out w10 hB10
        have hb10 := HBK2.out w10 hB10
        have hC10 := Nat.le_trans (Nat.le_trans hC hx8.size) hx10.size
        have ho8' := (ho8.below hx10 (Nat.le_refl _)).weak hC
        have ho10' := ho10.weak (Nat.le_trans hC hx8.size)
        obtain ⟨a8, c8, rfl, hn8, hc8, _⟩ := ho8'.rd.ints
        obtain ⟨a10, c10, rfl, hn10, hc10, _⟩ := ho10'.rd.ints
        rw [HSL.out] at hn8 ho8' ⊢
        have hofl : (offL (szs true l p Q.w) Q.w (bx l p).gap (bx l p).justify).length = (kid l (p : Int)).length := by rw [offL_length, HSL.out]
        rw [hofl] at hn10 ho10' ⊢
        have HOL := Lib.hid hofl
        unfold maxLen at hc8 hc10
        have HPP : Hid (PutTo l p r 0 R R) := PutTo.zero _ _ _ _
        clear ho8 ho10 hx8 hx10 hB8 hB10 r2 r5 r8 hofl HMK2 HBK2 HRN HOFF
        go_wp2_with (fail)
        go_loopw [93] (fun i wx => ∃ j : Nat, j ≤ (kid l (p : Int)).length ∧ i = .int .i64 j ∧ (∃ R', LnM S w.heap.size g9 C wx (.slice (some ⟨bt, ot, none⟩) l.length ct) (.slice al (kid l (p : Int)).length cl) l p Q R' ∧ Hid (PutTo l p r j R R')) ∧
          Own wx C 1 (.slice a8 (kid l (p : Int)).length c8) (Is (szs true l p Q.w)) ∧ Own wx C 1 (.slice a10 (kid l (p : Int)).length c10) (Is (offL (szs true l p Q.w) Q.w (bx l p).gap (bx l p).justify)) ∧ Below S w wx ∧ C ≤ wx.heap.size) (fun i _ => (kid l (p : Int)).length - (intOf i).toNat)
        case atStart => exact ⟨0, Nat.zero_le _, rfl, ⟨R, hM10, HPP⟩, ho8', ho10', hb10, hC10⟩
        case round =>
          clear hM10 HPP ho8' ho10' hb10 hC10 hC HMR
          obtain ⟨j, hj, rfl, ⟨R', hM, hP⟩, hoS, hoO, hb, hC⟩ := hrel
          by_cases hlt : j < (kid l (p : Int)).length
          · obtain ⟨k, hk⟩ : ∃ k, (kid l (p : Int))[j]? = some k := ⟨_, List.getElem?_eq_getElem hlt⟩
            obtain ⟨hkl, hkp⟩ := mem_kid_iff.1 (List.mem_of_getElem? hk)
            obtain ⟨ga, oa, rfl, _⟩ := hM.L.rd.intAt (show (ni (kid l (p : Int)))[j]? = some (k : Int) by simp [ni, hk])
            have HLK := Lib.hid (fun w9 R9 (h : LnM S w.heap.size g9 C w9 (.slice (some ⟨bt, ot, none⟩) l.length ct) (.slice (some ⟨ga, oa, none⟩) (kid l (p : Int)).length cl) l p Q R9) => show w9.cell? ⟨ga, oa + j, none⟩ = some (.int .i64 (k : Int)) by
              obtain ⟨b', o', e, h⟩ := h.L.rd.intAt (show (ni (kid l (p : Int)))[j]? = some (k : Int) by simp [ni, hk])
              cases e
              exact h)
            have hszj := szs_get HV.out true Q.w hk
            have hxj := HSZ.out _ (List.mem_of_getElem? hszj)
            have hofj : (offL (szs true l p Q.w) Q.w (bx l p).gap (bx l p).justify)[j]? = some (offK true l p Q.w j) := offL_get (by rw [HSL.out]; exact hlt)
            have hob := offK_le HV.out true hp (space := Q.w) (by omega) hszj
            obtain ⟨g1, o1, rfl, ck8⟩ := hoS.rd.intAt hszj
            obtain ⟨g2, o2, rfl, ck10⟩ := hoO.rd.intAt hofj
            have HPS := Lib.hid (fun (R' : List Rc) (h : PutTo l p r j R R') (hl : k < R'.length) => h.step hk hl)
            have HRE := Lib.hid (HPQ.out j k)
            have hji : (j : Int) < (kid l (p : Int)).length := by omega
            have hki : (k : Int) < l.length := by omega
            have hkw : IntKind.i64.wrap ((j : Int) + 1) = (j : Int) + 1 := by rw [IntKind.wrap_i64]; omega
            have HF1 := Lib.hid (fun w9 (h : Below wr.drew.heap.size wr.drew w9) => And.intro (cells4_of (x := Q) (hM.drew.keep (h.mono hC)).r) (cell_below h (show wr.drew.cell? ⟨g1, o1 + j, none⟩ = some (.int .i64 ((szs true l p Q.w).getD j 0)) from ck8)))
            have hM1 := hM.drew
            have hoS1 := hoS.drew
            have hoO1 := hoO.drew
            have hb1 := hb.drew
            have hC1 : C ≤ wr.drew.heap.size := hC
            have HQB := Lib.hid hQb
            clear hk hkp hszj hofj
            generalize (szs true l p Q.w).getD j 0 = sz at *
            generalize offK true l p Q.w j = of at *
            go_upto_region 17 with fail
            refine wp_region_held_drew (S := fun w' => Below wr.drew.heap.size wr.drew w') (by kernel_rfl) (Below.refl _ _) (fun hS => ?_)
            clear hM hoS hoO hb hC ck8 ck10
            generalize wr.drew = wd at *
            refine hTake (by kernel_rfl) (fun d _ _ _ _ h => by cases d <;> exact h) hS 0 (some 98) _ rfl (v := ?_) (by kernel_rfl) ?_ ?_
            rotate_left
            · intro _ _; go_simp; first | done | with_reducible rfl
            simp only [Act.put, List.setIfInBounds_toArray, List.set_cons_zero, List.set_cons_succ]
            refine hTake (by kernel_rfl) (fun d _ _ _ _ h => by cases d <;> exact h) hS 1 (some 99) _ rfl (v := ?_) (by kernel_rfl) ?_ ?_
            rotate_left
            · intro w9 hS9; obtain ⟨⟨q0, q1, q2, q3⟩, _⟩ := HF1.out _ hS9; go_simp; first | done | with_reducible rfl
            simp only [Act.put, List.setIfInBounds_toArray, List.set_cons_zero, List.set_cons_succ]
            refine hTake (by kernel_rfl) (fun d _ _ _ _ h => by cases d <;> exact h) hS 2 (some 100) _ rfl (v := ?_) (by kernel_rfl) ?_ ?_
            rotate_left
            · intro _ _; go_simp; first | done | with_reducible rfl
            simp only [Act.put, List.setIfInBounds_toArray, List.set_cons_zero, List.set_cons_succ]
            refine hTake (by kernel_rfl) (fun d _ _ _ _ h => by cases d <;> exact h) hS 3 (some 101) _ rfl (v := ?_) (by kernel_rfl) ?_ ?_
            rotate_left
            · intro _ _; go_simp; first | done | with_reducible rfl
            simp only [Act.put, List.setIfInBounds_toArray, List.set_cons_zero, List.set_cons_succ]
            refine hTake (by kernel_rfl) (fun d _ _ _ _ h => by cases d <;> exact h) hS 4 (some 102) _ rfl (v := ?_) (by kernel_rfl) ?_ ?_
            rotate_left
            · intro _ _; go_simp; first | done | with_reducible rfl
            simp only [Act.put, List.setIfInBounds_toArray, List.set_cons_zero, List.set_cons_succ]
            refine hTake (by kernel_rfl) (fun d _ _ _ _ h => by cases d <;> exact h) hS 5 (some 103) _ rfl (v := ?_) (by kernel_rfl) ?_ ?_
            rotate_left
            · intro w9 hS9; obtain ⟨⟨q0, q1, q2, q3⟩, _⟩ := HF1.out _ hS9; go_simp; first | done | with_reducible rfl
            simp only [Act.put, List.setIfInBounds_toArray, List.set_cons_zero, List.set_cons_succ]
            refine hTake (by kernel_rfl) (fun d _ _ _ _ h => by cases d <;> exact h) hS 6 (some 104) _ rfl (v := ?_) (by kernel_rfl) ?_ ?_
            rotate_left
            · intro _ _; go_simp; first | done | with_reducible rfl
            simp only [Act.put, List.setIfInBounds_toArray, List.set_cons_zero, List.set_cons_succ]
            refine hTake (by kernel_rfl) (fun d _ _ _ _ h => by cases d <;> exact h) hS 7 (some 105) _ rfl (v := ?_) (by kernel_rfl) ?_ ?_
            rotate_left
            · intro _ _; go_simp; first | done | with_reducible rfl
            simp only [Act.put, List.setIfInBounds_toArray, List.set_cons_zero, List.set_cons_succ]
            refine hTake (by kernel_rfl) (fun d _ _ _ _ h => by cases d <;> exact h) hS 8 (some 106) _ rfl (v := ?_) (by kernel_rfl) ?_ ?_
            rotate_left
            · intro _ _; go_simp; first | done | with_reducible rfl
            simp only [Act.put, List.setIfInBounds_toArray, List.set_cons_zero, List.set_cons_succ]
            refine hTake (by kernel_rfl) (fun d _ _ _ _ h => by cases d <;> exact h) hS 9 (some 107) _ rfl (v := ?_) (by kernel_rfl) ?_ ?_
            rotate_left
            · intro w9 hS9; obtain ⟨_, q4⟩ := HF1.out _ hS9; go_simp; first | done | with_reducible rfl
            simp only [Act.put, List.setIfInBounds_toArray, List.set_cons_zero, List.set_cons_succ]
            refine hTake (by kernel_rfl) (fun d _ _ _ _ h => by cases d <;> exact h) hS 10 (some 108) _ rfl (v := ?_) (by kernel_rfl) ?_ ?_
            rotate_left
            · intro _ _; go_simp; first | done | with_reducible rfl
            simp only [Act.put, List.setIfInBounds_toArray, List.set_cons_zero, List.set_cons_succ]
            refine hTake (by kernel_rfl) (fun d _ _ _ _ h => by cases d <;> exact h) hS 11 (some 109) _ rfl (v := ?_) (by kernel_rfl) ?_ ?_
            rotate_left
            · intro w9 hS9; obtain ⟨⟨q0, q1, q2, q3⟩, _⟩ := HF1.out _ hS9; go_simp; first | done | with_reducible rfl
            simp only [Act.put, List.setIfInBounds_toArray, List.set_cons_zero, List.set_cons_succ]
            refine hTake (by kernel_rfl) (fun d _ _ _ _ h => by cases d <;> exact h) hS 12 (some 110) _ rfl (v := ?_) (by kernel_rfl) ?_ ?_
            rotate_left
            · intro _ _; go_simp; first | done | with_reducible rfl
            simp only [Act.put, List.setIfInBounds_toArray, List.set_cons_zero, List.set_cons_succ]
            have hS0 : Below wd.heap.size wd wd := Below.refl _ _
            have hww : IntKind.i64.wrap (Q.x + of) = Q.x + of := by rw [IntKind.wrap_i64]; omega
            refine wpAnyH_ready (rs := [13]) (by kernel_rfl) (by simp) ?_
            refine AllReadyH.cons (o := _) rfl (fun K9 hK9 => ?_) AllReadyH.nil
            go_simp
            refine hK9.out _ _ (hS0.alloc (Nat.le_refl _) _) (fun hS => ?_)
            clear hK9 K9
            try simp only [Act.put, List.setIfInBounds_toArray, List.set_cons_zero, List.set_cons_succ]
            refine wpAnyH_ready (rs := [14]) (by kernel_rfl) (by simp) ?_
            refine AllReadyH.cons (o := _) rfl (fun K9 hK9 => ?_) AllReadyH.nil
            go_simp
            refine hK9.out _ _ (hS0.alloc (Nat.le_refl _) _) (fun hS => ?_)
            clear hK9 K9
            try simp only [Act.put, List.setIfInBounds_toArray, List.set_cons_zero, List.set_cons_succ]
            refine wpAnyH_done (by kernel_rfl) ?_ _
            have hB7 : Below wd.heap.size wd (wd.alloc (.cells #[.int .i64 (Q.x + of), .int .i64 Q.y, .int .i64 sz, .int .i64 Q.h] 39)) := hS0.alloc (Nat.le_refl _) _
            have hK7 := Keep.new wd (.cells #[.int .i64 (Q.x + of), .int .i64 Q.y, .int .i64 sz, .int .i64 Q.h] 39)
            clear hS hS0
            generalize hW7 : wd.alloc (.cells #[.int .i64 (Q.x + of), .int .i64 Q.y, .int .i64 sz, .int .i64 Q.h] 39) = W7 at *
            clear hW7
            go_upto_region 20 with fail
            have hB8 := hB7
            have hK8 := hK7
            clear hB7 hK7
            generalize W7 = W8 at *
            have hM8 := hM1.keep (hB8.mono hC1)
            have hS8 := hoS1.below hB8 (Nat.le_refl _)
            have hO8 := hoO1.below hB8 (Nat.le_refl _)
            have hb8 := hb1.trans (hB8.mono (by omega))
            have hC8 := Nat.le_trans hC1 hB8.size
            have d0 : W8.drew.cell? ⟨S + 1, 1, none⟩ = some (.slice (some ⟨S, 0, none⟩) l.length l.length) := hM8.m.c1
            have d1 : W8.drew.cell? ⟨ga, oa + j, none⟩ = some (.int .i64 (k : Int)) := HLK.out _ _ hM8.drew
            have e0 : W8.drew.cell? ⟨wd.heap.size, 0, none⟩ = some (.int .i64 (Q.x + of)) := hK8.cell 0
            have e1 : W8.drew.cell? ⟨wd.heap.size, 1, none⟩ = some (.int .i64 (Q.y)) := hK8.cell 1
            have e2 : W8.drew.cell? ⟨wd.heap.size, 2, none⟩ = some (.int .i64 (sz)) := hK8.cell 2
            have e3 : W8.drew.cell? ⟨wd.heap.size, 3, none⟩ = some (.int .i64 (Q.h)) := hK8.cell 3
            go_still_tail 10, (by kernel_rfl)
            repeat still_step
            try refine wpStill_nil ?_
            change wpList _ _ _ _ _ W8.drew
            have hM9 := hM8.drew
            have hS9' := hS8.drew
            have hO9 := hO8.drew
            have hb9 := hb8.drew
            have hC9 : C ≤ W8.drew.heap.size := hC8
            clear d0 d1 e0 e1 e2 e3 hM8 hS8 hO8 hb8 hC8 hK8 hB8 hM1 hoS1 hoO1 hb1 hC1
            generalize W8.drew = w9 at *
            have hkR : k < R'.length := by rw [hM9.m.len]; exact hkl
            obtain ⟨x, hx⟩ : ∃ x, R'[k]? = some x := ⟨_, List.getElem?_eq_getElem hkR⟩
            obtain ⟨y0, y1, y2, y3⟩ := hM9.m.at hx
            have hfz := (hM9.m.set hkl).1
            have f0 := hfz (k * 4)
            have f1 := hfz (k * 4 + 1)
            have f2 := hfz (k * 4 + 2)
            have f3 := hfz (k * 4 + 3)
            have HM9 := Lib.hid (hM9.set HS89.out.1 HS89.out.2 hkl (Q.x + of) (Q.y) (sz) (Q.h))
            have HSS := Lib.hid (own_set4 (g2 := S) (o1 := k * 4) (o2 := k * 4 + 1) (o3 := k * 4 + 2) (o4 := k * 4 + 3) hS9' (fun e => by have := (hS9'.lt _ e).1; omega) (.int .i64 (Q.x + of)) (.int .i64 (Q.y)) (.int .i64 (sz)) (.int .i64 (Q.h)))
            have HOO := Lib.hid (own_set4 (g2 := S) (o1 := k * 4) (o2 := k * 4 + 1) (o3 := k * 4 + 2) (o4 := k * 4 + 3) hO9 (fun e => by have := (hO9.lt _ e).1; omega) (.int .i64 (Q.x + of)) (.int .i64 (Q.y)) (.int .i64 (sz)) (.int .i64 (Q.h)))
            have HBB := Lib.hid (below_set4 (g := S) (o1 := k * 4) (o2 := k * 4 + 1) (o3 := k * 4 + 2) (o4 := k * 4 + 3) hb9 (Nat.le_refl _) (.int .i64 (Q.x + of)) (.int .i64 (Q.y)) (.int .i64 (sz)) (.int .i64 (Q.h)))
            have HP9 := Lib.hid (HPS.out R' hP.out hkR)
            clear hM9 hS9' hO9 hb9 hfz hx
            go_wp2
            go_roundw
            case rel =>
              refine ⟨j + 1, by omega, by go_num, ⟨_, HM9.out, ?_⟩, HSS.out, HOO.out, HBB.out, by simp [World.setCell]; omega⟩
              have h := HP9.out
              rw [HRE.out] at h
              exact h
            case measure => simp [intOf]; omega
          · obtain rfl : j = (kid l (p : Int)).length := by omega
            have HBE := Lib.hid hb
            have HME := Lib.hid hM.m
            clear hb hM
            go_wp2_with (fail)
            go_end0
            exact ⟨rfl, R', HME.out, HBE.out, hP.out⟩

set_option maxRecDepth 100000 in
set_option maxHeartbeats 4000000 in
theorem lineCol_any {S p B : Nat} {tv lv : Value} {l : List Bx} {R : List Rc} {r : Rc} (w : World) (hM : LyM S w tv l.length R) (hrd : Rd w 9 tv (Bs l)) (hw0 : ∀ w', Below S w w' → Rd w' 9 tv (Bs l)) (hv : Valid l) (hp : p < l.length) (hr : R[p]? = some r) (hs : RB 100000 r)
    (hL : Own w B 1 lv (Is (ni (kid l (p : Int))))) (hB : S < B) (hk : (bx l p).kind = 3) (hne : kid l (p : Int) ≠ []) :
    Calls Try.prog 85 #[.pointer (some ⟨S + 1, 0, none⟩), .int .i64 (p : Int), lv, .bool true] w fun x w' => x = .returned (.tuple #[]) ∧ ∃ R', LyM S w' tv l.length R' ∧ Below S w w' ∧ PutTo l p r (kid l (p : Int)).length R R' := by
  have hbd := okB_bounds (hv.ok p (by omega))
  have hin := inset_ok (r := r) (e := (bx l p).pad) (by omega) (by obtain ⟨_, _, _, _, h5, h6, _, _⟩ := hs; exact ⟨h5, h6⟩) (by obtain ⟨_, _, _, _, _, _, h7, h8⟩ := hs; exact ⟨h7, h8⟩)
  have hsz0 := hM.lt
  have HV := Lib.hid hv
  have HKN := Lib.hid (hv.kids p (by omega)).1
  have hkn := (hv.kids p (by omega)).1
  have HPL := Lib.hid (fun j k => show placeR l p j r k = ⟨(insetR r (bx l p).pad).x, (insetR r (bx l p).pad).y + offK false l p (insetR r (bx l p).pad).h j, (insetR r (bx l p).pad).w, (szs false l p (insetR r (bx l p).pad).h).getD j 0⟩ by unfold placeR; rw [if_neg (by omega), if_pos hk])
  have HW0 := Lib.hid hw0
  obtain ⟨al, cl, rfl, hnl, hcl, _⟩ := hL.rd.ints
  rw [ni_length] at hnl hL ⊢
  have hm1 : 1 ≤ (kid l (p : Int)).length := by
    rcases Nat.eq_zero_or_pos (kid l (p : Int)).length with h | h
    · exact absurd (List.eq_nil_of_length_eq_zero h) hne
    · exact h
  obtain ⟨at_, ct, rfl, hnt, hct, _⟩ := hrd.boxes
  obtain ⟨bt, ot, rfl, hbt, _, ⟨d0, d1, d2, d3, d4, d5, d6, d7, d8⟩⟩ := bx_cells hrd hp
  unfold maxLen at hcl hct
  have hpi : (p : Int) < l.length := by omega
  have hbs : RB 100000 r := hs
  obtain ⟨s1, s2, s3, s4, s5, s6, s7, s8⟩ := hbs
  have hx0 := Below.of_alloc w (.cells (bx l p).arr 30)
  have HI := Lib.hid (inner_any (w.alloc (.cells (bx l p).arr 30)) (hM.below hx0) (hrd.below hx0 (Nat.le_refl _)) rfl hp hr (hs.rs (by omega)) (by omega))
  have hK8 := Keep.new w (.cells (bx l p).arr 30)
  have HMK := Lib.hid (fun W => mk_run0 (P := Try.prog) el_flex (kid l (p : Int)).length (by omega) W)
  have m0 := hM.c0
  unfold Rc.agg Bx.arr at HI
  have hL0 := hL.alloc (.cells (bx l p).arr 30)
  have hM0 := hM.below hx0
  have HLT := Lib.hid hL.lt
  unfold Bx.arr at hx0 hK8 hL0 hM0
  clear hM hL hrd hr hw0 hv hne hk
  go_enter Try.func85, Try.ntmps85
  go_wp2_with (fail)
  refine HI.out.mono ?_
  rintro e w1 ⟨rfl, hx⟩
  have hM1 := hM0.below hx
  have hL1 := hL0.below hx (Nat.le_refl _)
  have hK1 := hK8.below (C := w.heap.size + 1) (Nat.lt_succ_self _) (hx.mono (by simp))
  have hb1 := hx0.trans (hx.mono hx0.size)
  have hs1 := hx.size
  rw [World.size_alloc] at hs1
  clear HI hx hM0 hL0 hK8 hx0
  generalize hq : insetR r (bx l p).pad = q at *
  have hbW := hb1.alloc hb1.size (.cells q.arr 39)
  have hMW := hM1.below (Below.of_alloc w1 (.cells q.arr 39))
  have hLW := hL1.alloc (.cells q.arr 39)
  have hK8W := hK1.alloc (.cells q.arr 39)
  have hK9W := Keep.new w1 (.cells q.arr 39)
  have HT := Lib.hid (turnR_any q (w1.alloc (.cells q.arr 39)))
  have hszW : (w1.alloc (.cells q.arr 39)).heap.size = w1.heap.size + 1 := by simp
  clear hb1 hM1 hL1 hK1
  unfold Rc.arr at hbW hMW hLW hK8W hK9W hszW
  unfold Rc.arr Rc.agg at HT
  go_wp2_with (fail)
  refine HT.out.mono ?_
  rintro e w2 ⟨rfl, hx⟩
  have hx9 : Below w1.heap.size (w1.alloc (.cells #[.int .i64 q.x, .int .i64 q.y, .int .i64 q.w, .int .i64 q.h] 39)) w2 := hx.mono (by omega)
  have hB9 := below_set4 (o1 := 0) (o2 := 1) (o3 := 2) (o4 := 3) hx9 (Nat.le_refl _) (.int .i64 q.turn.x) (.int .i64 q.turn.y) (.int .i64 q.turn.w) (.int .i64 q.turn.h)
  have hK92 := hK9W.below (by omega) hx
  have z0 := hK92.cell 0
  have z1 := hK92.cell 1
  have z2 := hK92.cell 2
  have z3 := hK92.cell 3
  have y0 := hK92.frozen 0
  have y1 := hK92.frozen 1
  have y2 := hK92.frozen 2
  have y3 := hK92.frozen 3
  have hM : LnM S w.heap.size w1.heap.size (w1.heap.size + 1) ((((w2.setCell ⟨w1.heap.size, 0, none⟩ (.int .i64 q.turn.x)).setCell ⟨w1.heap.size, 1, none⟩ (.int .i64 q.turn.y)).setCell ⟨w1.heap.size, 2, none⟩ (.int .i64 q.turn.w)).setCell ⟨w1.heap.size, 3, none⟩ (.int .i64 q.turn.h)) (.slice (some ⟨bt, ot, none⟩) l.length ct) (.slice al (kid l (p : Int)).length cl) l p q.turn R :=
    ⟨hMW.keep (by omega) hB9, hK8W.below (by omega) hB9, (((hK92.store 0 _).store 1 _).store 2 _).store 3 _, (hLW.keep (fun z hz => by have := (HLT.out z hz).2; omega) hB9).weak hB, fun z hz => by have := (HLT.out z hz).2; omega, by omega, by omega, by omega⟩
  have hb : Below S w ((((w2.setCell ⟨w1.heap.size, 0, none⟩ (.int .i64 q.turn.x)).setCell ⟨w1.heap.size, 1, none⟩ (.int .i64 q.turn.y)).setCell ⟨w1.heap.size, 2, none⟩ (.int .i64 q.turn.w)).setCell ⟨w1.heap.size, 3, none⟩ (.int .i64 q.turn.h)) := (hbW.mono (by omega)).trans (hB9.mono (by omega))
  have HPQ := Lib.hid (fun j k => show placeR l p j r k = ⟨q.turn.y, q.turn.x + offK false l p q.turn.w j, q.turn.h, (szs false l p q.turn.w).getD j 0⟩ from (HPL.out j k).trans rfl)
  have hQb : 0 ≤ q.turn.x ∧ q.turn.x ≤ 200000 ∧ 0 ≤ q.turn.y ∧ q.turn.y ≤ 200000 ∧ 0 ≤ q.turn.w ∧ q.turn.w ≤ 10000 ∧ 0 ≤ q.turn.h ∧ q.turn.h ≤ 10000 := by unfold Rc.turn; dsimp only; omega
  have hS9 : S < w1.heap.size := by omega
  have hS8 : S < w.heap.size := by omega
  generalize q.turn = Q at *
  have HM := Lib.hid hM
  have HB := Lib.hid hb
  clear hMW hLW hK8W hK9W hK92 hB9 hx9 hx hbW hin hq HPL s1 s2 s3 s4 s5 s6 s7 s8 m0 hM hb HT hszW
  go_upto_region 4 with fail
  have hM := HM.out
  have hb := HB.out
  clear HM HB z0 z1 z2 z3 y0 y1 y2 y3
  generalize ((((w2.setCell ⟨w1.heap.size, 0, none⟩ (.int .i64 Q.x)).setCell ⟨w1.heap.size, 1, none⟩ (.int .i64 Q.y)).setCell ⟨w1.heap.size, 2, none⟩ (.int .i64 Q.w)).setCell ⟨w1.heap.size, 3, none⟩ (.int .i64 Q.h)) = W at *
  generalize hg9e : w1.heap.size = g9 at *
  generalize hCe : g9 + 1 = C at *
  clear hg9e
  have hCW : C ≤ W.heap.size := by rw [← hCe]; exact Nat.succ_le_of_lt hM.r.lt
  have HFO := Lib.hid (flxs_ok HV.out false p)
  have hoF : Own (W.alloc (.cells (madeCells (Value.agg #[.int .i64 0, .int .i64 0, .int .i64 0, .int .i64 0, .int .i64 0]).cells ((kid l (p : Int)).length * 5)) 37)) C 5 (.slice (some ⟨W.heap.size, 0, none⟩) 0 (kid l (p : Int)).length) (Fs ((flxsOf false l p).take 0)) := by
    have h := Own.made W (madeCells (Value.agg #[.int .i64 0, .int .i64 0, .int .i64 0, .int .i64 0, .int .i64 0]).cells ((kid l (p : Int)).length * 5)) 37 C 5 0 (kid l (p : Int)).length hCW (Nat.zero_le _) (by unfold maxLen; omega) (size_madeCells _ _)
    rw [Nat.zero_mul, List.take_zero] at h
    exact h
  have hMF := hM.keep ((Below.of_alloc W (.cells (madeCells (Value.agg #[.int .i64 0, .int .i64 0, .int .i64 0, .int .i64 0, .int .i64 0]).cells ((kid l (p : Int)).length * 5)) 37)).mono hCW)
  have hbF := hb.alloc (show S ≤ _ by have := hb.size; omega) (.cells (madeCells (Value.agg #[.int .i64 0, .int .i64 0, .int .i64 0, .int .i64 0, .int .i64 0]).cells ((kid l (p : Int)).length * 5)) 37)
  have hCF := Nat.le_trans hCW (Below.of_alloc W (.cells (madeCells (Value.agg #[.int .i64 0, .int .i64 0, .int .i64 0, .int .i64 0, .int .i64 0]).cells ((kid l (p : Int)).length * 5)) 37)).size
  have HS89 := Lib.hid (And.intro hS8 hS9)
  have hSC : S + 2 ≤ C := hM.c1
  clear hM hb hCW
  have hmkw := HMK.out W
  go_wp2_with (fail)
  go_loopw [10, 36] (fun fv i wr => ∃ j : Nat, j ≤ (kid l (p : Int)).length ∧ i = .int .i64 j ∧ Own wr C 5 fv (Fs ((flxsOf false l p).take j)) ∧ LnM S w.heap.size g9 C wr (.slice (some ⟨bt, ot, none⟩) l.length ct) (.slice al (kid l (p : Int)).length cl) l p Q R ∧ Below S w wr ∧ C ≤ wr.heap.size) (fun _ i _ => (kid l (p : Int)).length - (intOf i).toNat)
  case atStart => exact ⟨0, Nat.zero_le _, rfl, hoF, hMF, hbF, hCF⟩
  case round =>
    clear hoF hMF hbF hCF hmkw
    obtain ⟨j, hj, rfl, hoF, hM, hb, hC⟩ := hrel
    by_cases hlt : j < (kid l (p : Int)).length
    · obtain ⟨k, hk⟩ : ∃ k, (kid l (p : Int))[j]? = some k := ⟨_, List.getElem?_eq_getElem hlt⟩
      obtain ⟨hkl, hkp⟩ := mem_kid_iff.1 (List.mem_of_getElem? hk)
      obtain ⟨ga, oa, rfl, ck⟩ := hM.L.rd.intAt (show (ni (kid l (p : Int)))[j]? = some (k : Int) by simp [ni, hk])
      have hji : (j : Int) < (kid l (p : Int)).length := by omega
      have hki : (k : Int) < l.length := by omega
      have hkw : IntKind.i64.wrap ((j : Int) + 1) = (j : Int) + 1 := by rw [IntKind.wrap_i64]; omega
      have HN := Lib.hid (natural_any HV.out wr (i := (k : Int)) (by omega) (by omega) (HW0.out wr hb))
      rw [Int.toNat_natCast] at HN
      have hn4 := nat_4000 HV.out hkl
      have hfo := HFO.out _ (show flxOf false l k ∈ flxsOf false l p from List.mem_map.2 ⟨k, List.mem_of_getElem? hk, rfl⟩)
      have HAL : Hid (along false l k = (natS l k).2) := rfl
      have ET := Lib.hid (show Fs ((flxsOf false l p).take (j + 1)) = Fs ((flxsOf false l p).take j) ++ Fs [flxOf false l k] by
        rw [List.take_add_one, show (flxsOf false l p)[j]? = some (flxOf false l k) by unfold flxsOf; rw [List.getElem?_map, hk]; rfl, Fs_append]
        rfl)
      have hlk : ((flxsOf false l p).take j).length ≤ 16 := by rw [List.length_take]; omega
      have m0 := hM.m.c0
      clear hk hkp hfo
      go_wp2_with (fail)
      refine HN.out.mono ?_
      rintro e w3 ⟨rfl, hx3⟩
      have hC3 := Nat.le_trans hC hx3.size
      have hM3 := hM.keep (hx3.mono hC)
      have hF3 := hoF.below hx3 (Nat.le_refl _)
      have hb3 := hb.trans (hx3.mono (by omega))
      have hF3b := hF3.lt
      obtain ⟨g13, hg13⟩ : ∃ g, w3.heap.size = g := ⟨_, rfl⟩
      rw [hg13] at hC3 hF3b
      have HF3B := Lib.hid hF3b
      clear hM hoF hb hx3 ck m0 hF3b
      have hM4 := hM3.keep ((Below.of_alloc w3 (.cells #[.int .i64 (natS l k).1, .int .i64 (natS l k).2] 77)).mono (by omega))
      have hF4 := hF3.alloc (.cells #[.int .i64 (natS l k).1, .int .i64 (natS l k).2] 77)
      have hb4 := hb3.alloc (show S ≤ _ by have := hb3.size; omega) (.cells #[.int .i64 (natS l k).1, .int .i64 (natS l k).2] 77)
      have hK4 := Keep.new w3 (.cells #[.int .i64 (natS l k).1, .int .i64 (natS l k).2] 77)
      have hsz4 : (w3.alloc (.cells #[.int .i64 (natS l k).1, .int .i64 (natS l k).2] 77)).heap.size = g13 + 1 := by rw [World.size_alloc]; omega
      rw [hg13] at hK4
      have HTS := Lib.hid (turnS_any (natS l k).1 (natS l k).2 (w3.alloc (.cells #[.int .i64 (natS l k).1, .int .i64 (natS l k).2] 77)))
      clear hM3 hF3 hb3
      go_wp2_with (fail)
      refine HTS.out.mono ?_
      rintro e w4 ⟨rfl, hx4⟩
      have hK4' := hK4.below (by omega) hx4
      have hx4' : Below g13 (w3.alloc (.cells #[.int .i64 (natS l k).1, .int .i64 (natS l k).2] 77)) w4 := hx4.mono (by omega)
      have hB4 := (hx4'.setCell (p := ⟨g13, 0, none⟩) (Nat.le_refl _) (.int .i64 (natS l k).2)).setCell (p := ⟨g13, 1, none⟩) (Nat.le_refl _) (.int .i64 (natS l k).1)
      have z0 := hK4'.cell 0
      have z1 := hK4'.cell 1
      have y0 := hK4'.frozen 0
      have y1 := hK4'.frozen 1
      have HM5 := Lib.hid (hM4.keep (hB4.mono hC3))
      have HF5 := Lib.hid (hF4.keep (fun z hz => by have := (HF3B.out z hz).2; omega) hB4)
      have HB5 := Lib.hid (hb4.trans (hB4.mono (by omega)))
      have HK5 := Lib.hid ((hK4'.store 0 (.int .i64 (natS l k).2)).store 1 (.int .i64 (natS l k).1))
      have HC5 := Lib.hid (show C ≤ ((w4.setCell ⟨g13, 0, none⟩ (.int .i64 (natS l k).2)).setCell ⟨g13, 1, none⟩ (.int .i64 (natS l k).1)).heap.size by have := hx4.size; simp [World.setCell]; omega)
      clear hM4 hF4 hb4 hK4 hK4' hx4 hx4' hB4 HTS hsz4
      go_upto_region 11 with fail
      have hM5 := HM5.out
      have hF5 := HF5.out
      have hb5 := HB5.out
      have hK5 : Keep g13 (.cells #[.int .i64 (natS l k).2, .int .i64 (natS l k).1] 77) _ := HK5.out
      have hC5 := HC5.out
      clear HM5 HF5 HB5 HK5 HC5 z0 z1 y0 y1
      generalize ((w4.setCell ⟨g13, 0, none⟩ (.int .i64 (natS l k).2)).setCell ⟨g13, 1, none⟩ (.int .i64 (natS l k).1)) = W5 at *
      clear hg13
      have hgl := hK5.lt
      have hMd := hM5.drew
      have hFd := hF5.drew
      have hbd5 := hb5.drew
      have hKd := hK5.drew
      have hCd : C ≤ W5.drew.heap.size := hC5
      have m0 : ∀ w9, Below C W5.drew w9 → w9.cell? ⟨S + 1, 0, none⟩ = some (.slice (some ⟨bt, ot, none⟩) l.length ct) := fun w9 h => (hMd.keep h).m.c0
      have HM0 := Lib.hid m0
      have HTC := Lib.hid (fun w9 (h : Below C W5.drew w9) => show Cells9 w9 bt (ot + k * 9) (bx l k) by
        obtain ⟨b', o', e, _, _, hc⟩ := bx_cells (HW0.out w9 (hbd5.trans (h.mono (by omega)))) hkl
        cases e
        exact hc)
      go_upto_region 11 with fail
      refine wp_region_held_drew (S := fun w' => Below C W5.drew w' ∧ Keep g13 (.cells #[.int .i64 (natS l k).2, .int .i64 (natS l k).1] 77) w') (by kernel_rfl) ⟨Below.refl _ _, hKd⟩ (fun hS => ?_)
      clear hM5 hF5 hb5 hK5 hC5 m0
      generalize W5.drew = wd at *
      refine hTake (by kernel_rfl) (fun d _ _ _ _ h => by cases d <;> exact h) hS 0 (some 49) _ rfl (v := ?_) (by kernel_rfl) ?_ ?_
      rotate_left
      · intro _ _; go_simp; first | done | with_reducible rfl
      simp only [Act.put, List.setIfInBounds_toArray, List.set_cons_zero, List.set_cons_succ]
      refine hTake (by kernel_rfl) (fun d _ _ _ _ h => by cases d <;> exact h) hS 1 (some 50) _ rfl (v := ?_) (by kernel_rfl) ?_ ?_
      rotate_left
      · intro _ _; go_simp; first | done | with_reducible rfl
      simp only [Act.put, List.setIfInBounds_toArray, List.set_cons_zero, List.set_cons_succ]
      refine hTake (by kernel_rfl) (fun d _ _ _ _ h => by cases d <;> exact h) hS 2 (some 51) _ rfl (v := ?_) (by kernel_rfl) ?_ ?_
      rotate_left
      · intro w9 hS9; have q := hS9.2.cell 0; go_simp; first | done | with_reducible rfl
      simp only [Act.put, List.setIfInBounds_toArray, List.set_cons_zero, List.set_cons_succ]
      refine hTake (by kernel_rfl) (fun d _ _ _ _ h => by cases d <;> exact h) hS 3 (some 52) _ rfl (v := ?_) (by kernel_rfl) ?_ ?_
      rotate_left
      · intro _ _; go_simp; first | done | with_reducible rfl
      simp only [Act.put, List.setIfInBounds_toArray, List.set_cons_zero, List.set_cons_succ]
      refine hTake (by kernel_rfl) (fun d _ _ _ _ h => by cases d <;> exact h) hS 4 (some 53) _ rfl (v := ?_) (by kernel_rfl) ?_ ?_
      rotate_left
      · intro _ _; go_simp; first | done | with_reducible rfl
      simp only [Act.put, List.setIfInBounds_toArray, List.set_cons_zero, List.set_cons_succ]
      refine hTake (by kernel_rfl) (fun d _ _ _ _ h => by cases d <;> exact h) hS 5 (some 54) _ rfl (v := ?_) (by kernel_rfl) ?_ ?_
      rotate_left
      · intro _ _; go_simp; first | done | with_reducible rfl
      simp only [Act.put, List.setIfInBounds_toArray, List.set_cons_zero, List.set_cons_succ]
      refine hTake (by kernel_rfl) (fun d _ _ _ _ h => by cases d <;> exact h) hS 6 (some 55) _ rfl (v := ?_) (by kernel_rfl) ?_ ?_
      rotate_left
      · intro w9 hS9; have q := HM0.out _ hS9.1; go_simp; first | done | with_reducible rfl
      simp only [Act.put, List.setIfInBounds_toArray, List.set_cons_zero, List.set_cons_succ]
      refine hTake (by kernel_rfl) (fun d _ _ _ _ h => by cases d <;> exact h) hS 7 (some 56) _ rfl (v := ?_) (by kernel_rfl) ?_ ?_
      rotate_left
      · intro _ _; go_simp; first | done | with_reducible rfl
      simp only [Act.put, List.setIfInBounds_toArray, List.set_cons_zero, List.set_cons_succ]
      refine hTake (by kernel_rfl) (fun d _ _ _ _ h => by cases d <;> exact h) hS 8 (some 57) _ rfl (v := ?_) (by kernel_rfl) ?_ ?_
      rotate_left
      · intro _ _; go_simp; first | done | with_reducible rfl
      simp only [Act.put, List.setIfInBounds_toArray, List.set_cons_zero, List.set_cons_succ]
      refine hTake (by kernel_rfl) (fun d _ _ _ _ h => by cases d <;> exact h) hS 9 (some 58) _ rfl (v := ?_) (by kernel_rfl) ?_ ?_
      rotate_left
      · intro _ _; go_simp; first | done | with_reducible rfl
      simp only [Act.put, List.setIfInBounds_toArray, List.set_cons_zero, List.set_cons_succ]
      refine hTake (by kernel_rfl) (fun d _ _ _ _ h => by cases d <;> exact h) hS 10 (some 59) _ rfl (v := ?_) (by kernel_rfl) ?_ ?_
      rotate_left
      · intro w9 hS9; obtain ⟨q0, q1, q2, q3, q4, q5, q6, q7, q8⟩ := HTC.out _ hS9.1; go_simp; first | done | with_reducible rfl
      simp only [Act.put, List.setIfInBounds_toArray, List.set_cons_zero, List.set_cons_succ]
      refine hTake (by kernel_rfl) (fun d _ _ _ _ h => by cases d <;> exact h) hS 11 (some 60) _ rfl (v := ?_) (by kernel_rfl) ?_ ?_
      rotate_left
      · intro _ _; go_simp; first | done | with_reducible rfl
      simp only [Act.put, List.setIfInBounds_toArray, List.set_cons_zero, List.set_cons_succ]
      refine hTake (by kernel_rfl) (fun d _ _ _ _ h => by cases d <;> exact h) hS 12 (some 61) _ rfl (v := ?_) (by kernel_rfl) ?_ ?_
      rotate_left
      · intro _ _; go_simp; first | done | with_reducible rfl
      simp only [Act.put, List.setIfInBounds_toArray, List.set_cons_zero, List.set_cons_succ]
      refine hTake (by kernel_rfl) (fun d _ _ _ _ h => by cases d <;> exact h) hS 13 (some 62) _ rfl (v := ?_) (by kernel_rfl) ?_ ?_
      rotate_left
      · intro _ _; go_simp; first | done | with_reducible rfl
      simp only [Act.put, List.setIfInBounds_toArray, List.set_cons_zero, List.set_cons_succ]
      refine hTake (by kernel_rfl) (fun d _ _ _ _ h => by cases d <;> exact h) hS 14 (some 63) _ rfl (v := ?_) (by kernel_rfl) ?_ ?_
      rotate_left
      · intro w9 hS9; have q := HM0.out _ hS9.1; go_simp; first | done | with_reducible rfl
      simp only [Act.put, List.setIfInBounds_toArray, List.set_cons_zero, List.set_cons_succ]
      refine hTake (by kernel_rfl) (fun d _ _ _ _ h => by cases d <;> exact h) hS 15 (some 64) _ rfl (v := ?_) (by kernel_rfl) ?_ ?_
      rotate_left
      · intro _ _; go_simp; first | done | with_reducible rfl
      simp only [Act.put, List.setIfInBounds_toArray, List.set_cons_zero, List.set_cons_succ]
      refine hTake (by kernel_rfl) (fun d _ _ _ _ h => by cases d <;> exact h) hS 16 (some 65) _ rfl (v := ?_) (by kernel_rfl) ?_ ?_
      rotate_left
      · intro _ _; go_simp; first | done | with_reducible rfl
      simp only [Act.put, List.setIfInBounds_toArray, List.set_cons_zero, List.set_cons_succ]
      refine hTake (by kernel_rfl) (fun d _ _ _ _ h => by cases d <;> exact h) hS 17 (some 66) _ rfl (v := ?_) (by kernel_rfl) ?_ ?_
      rotate_left
      · intro _ _; go_simp; first | done | with_reducible rfl
      simp only [Act.put, List.setIfInBounds_toArray, List.set_cons_zero, List.set_cons_succ]
      refine hTake (by kernel_rfl) (fun d _ _ _ _ h => by cases d <;> exact h) hS 18 (some 67) _ rfl (v := ?_) (by kernel_rfl) ?_ ?_
      rotate_left
      · intro w9 hS9; obtain ⟨q0, q1, q2, q3, q4, q5, q6, q7, q8⟩ := HTC.out _ hS9.1; go_simp; first | done | with_reducible rfl
      simp only [Act.put, List.setIfInBounds_toArray, List.set_cons_zero, List.set_cons_succ]
      refine hTake (by kernel_rfl) (fun d _ _ _ _ h => by cases d <;> exact h) hS 19 (some 68) _ rfl (v := ?_) (by kernel_rfl) ?_ ?_
      rotate_left
      · intro _ _; go_simp; first | done | with_reducible rfl
      simp only [Act.put, List.setIfInBounds_toArray, List.set_cons_zero, List.set_cons_succ]
      refine wpAnyH_ready (rs := [20]) (by kernel_rfl) (by simp) ?_
      refine AllReadyH.cons (o := _) rfl (fun K9 hK9 => ?_) AllReadyH.nil
      go_simp
      refine hK9.out _ _ ⟨hS.1.alloc hCd _, hS.2.alloc _⟩ (fun hS => ?_)
      clear hK9 K9
      try simp only [Act.put, List.setIfInBounds_toArray, List.set_cons_zero, List.set_cons_succ]
      refine wpAnyH_ready (rs := [21]) (by kernel_rfl) (by simp) ?_
      refine AllReadyH.cons (o := _) rfl (fun K9 hK9 => ?_) AllReadyH.nil
      refine step_app rfl _ _ _ rfl el_flex rfl (hFd.alloc _) rfl (show Rd _ 5 _ (Fs [flxOf false l k]) from Rd.oneAt _ _ rfl) (Fs_one _) ?hl ?hb ?hK
      case hl => rw [Fs_length, Fs_length]; simp only [List.length_singleton]; omega
      case hb => exact Nat.le_trans hCd (Below.of_alloc wd _).size
      intro v' w7 ho7 hg7 hf7
      have hb7 := below_app hS.1 (hFd.alloc _) hg7 (Nat.le_trans hCd (Below.of_alloc wd _).size) (Nat.le_refl _)
      have hk7 : Keep g13 (.cells #[.int .i64 (natS l k).2, .int .i64 (natS l k).1] 77) w7 := by
        have h := hS.2
        unfold Keep
        rw [hg7.block g13 h.lt (fun e => by have := (HF3B.out _ e.symm).2; omega)]
        exact h
      refine hK9.out _ _ ⟨hb7, hk7⟩ (fun hS => ?_)
      clear hK9 K9
      try simp only [Act.put, List.setIfInBounds_toArray]
      refine wpAnyH_ready (rs := [22]) (by kernel_rfl) (by simp) ?_
      refine AllReadyH.cons (o := _) rfl (fun K9 hK9 => ?_) AllReadyH.nil
      go_simp
      refine hK9.out _ _ hS (fun hS => ?_)
      clear hK9 K9
      try simp only [Act.put, List.setIfInBounds_toArray, List.set_cons_zero, List.set_cons_succ]
      refine wpAnyH_done (by kernel_rfl) ?_ _
      have hM7 := hMd.keep hb7
      have hbb7 := hbd5.trans (hb7.mono (by omega))
      have hC7 := Nat.le_trans hCd hb7.size
      clear hS hk7 hg7 hf7 hKd hFd hMd hbd5 hb7
      go_wp2
      go_roundw
      case rel => exact ⟨j + 1, by omega, by go_num, by rw [ET.out]; exact ho7, hM7, hbb7, hC7⟩
      case measure => simp [intOf]; omega
    · obtain rfl : j = (kid l (p : Int)).length := by omega
      rw [List.take_of_length_le (by rw [flxs_length]; exact Nat.le_refl _)] at hoF
      have hg1 := gap_le HV.out hp (n := ((kid l (p : Int)).length : Int) - 1) (by omega) (by omega)
      have hsp := spc_le HV.out hp hm1 (space := Q.w) (by omega)
      have hjj : ¬ ((kid l (p : Int)).length : Int) < (kid l (p : Int)).length := by omega
      have HFL : Hid (Calls Try.prog 57 #[u10, .int .i64 (spc l p Q.w)] wr fun e w' => ∃ v', e = .returned v' ∧ Own w' wr.heap.size 1 v' (Is (szs false l p Q.w)) ∧ Ext wr w') := Lib.hid (flexed_any wr hoF.rd HFO.out (by rw [flxs_length]; exact hkn) (space := spc l p Q.w) ⟨hsp.1, by omega⟩)
      obtain ⟨q0, q1, q2, q3⟩ := cells4_of (x := Q) hM.r
      have b5 : wr.cell? ⟨w.heap.size, 5, none⟩ = some (.int .i64 (bx l p).gap) := hM.b.cell 5
      have b8 : wr.cell? ⟨w.heap.size, 8, none⟩ = some (.int .i64 (bx l p).justify) := hM.b.cell 8
      have hszr : (szs false l p Q.w).length = (kid l (p : Int)).length := szs_length HV.out _ _ _
      have HSZ := Lib.hid (szs_mem HV.out false p Q.w)
      have HSL := Lib.hid hszr
      have HOFF := Lib.hid (fun (W : World) (v : Value) (h : Rd W 1 v (Is (szs false l p Q.w))) => offsets_any (space := Q.w) (gap := (bx l p).gap) (j := (bx l p).justify) W h (by rw [HSL.out]; omega) (by rw [HSL.out]; omega) HSZ.out (by omega) (by omega) (by omega))
      have hjw : IntKind.i64.wrap (((kid l (p : Int)).length : Int) - 1) = ((kid l (p : Int)).length : Int) - 1 := by rw [IntKind.wrap_i64]; omega
      have hspw : spc l p Q.w ≤ 10000 := by omega
      have hRN : ∀ w9, Below C wr w9 → w9.cell? ⟨g9, 2, none⟩ = some (.int .i64 Q.w) ∧ w9.cell? ⟨w.heap.size, 5, none⟩ = some (.int .i64 (bx l p).gap) ∧ w9.cell? ⟨w.heap.size, 8, none⟩ = some (.int .i64 (bx l p).justify) := fun w9 h => by
        have h9 := hM.keep h
        exact ⟨(cells4_of (x := Q) h9.r).c2, h9.b.cell 5, h9.b.cell 8⟩
      have HRN := Lib.hid hRN
      have HMK2 := Lib.hid (fun w9 (h : Below C wr w9) => hM.keep h)
      have HBK2 := Lib.hid (fun w9 (h : Below C wr w9) => hb.trans (h.mono (Nat.le_trans (Nat.le_add_right _ _) hSC)))
      have HMR := Lib.hid hM
      clear hoF hszr hRN hsp hM hb
      by_cases hneg : Q.w - (bx l p).gap * (((kid l (p : Int)).length : Int) - 1) < 0
      · have hse : spc l p Q.w = 0 := by unfold spc; omega
        have HSE := Lib.hid hse
        rw [hse] at HFL
        clear hse hspw
        go_wp2_with (fail)
        refine HFL.out.mono ?_
        rintro e w8 ⟨v8, rfl, ho8, hx8⟩
        have hB8 := hx8.mono hC
        obtain ⟨r2, r5, r8⟩ := HRN.out w8 hB8
        clear q0 q1 q2 q3 b5 b8 HFL
        go_wp2_with (fail)
        refine (HOFF.out w8 v8 ho8.rd).mono ?_
        rintro e w10 ⟨v10, rfl, ho10, hx10⟩
        have hB10 := hB8.trans (hx10.mono (Nat.le_trans hC hx8.size))
        have hM10 := HMK2.out w10 hB10
        have hb10 := HBK2.out w10 hB10
        have hC10 := Nat.le_trans (Nat.le_trans hC hx8.size) hx10.size
        have ho8' := (ho8.below hx10 (Nat.le_refl _)).weak hC
        have ho10' := ho10.weak (Nat.le_trans hC hx8.size)
        obtain ⟨a8, c8, rfl, hn8, hc8, _⟩ := ho8'.rd.ints
        obtain ⟨a10, c10, rfl, hn10, hc10, _⟩ := ho10'.rd.ints
        rw [HSL.out] at hn8 ho8' ⊢
        have hofl : (offL (szs false l p Q.w) Q.w (bx l p).gap (bx l p).justify).length = (kid l (p : Int)).length := by rw [offL_length, HSL.out]
        rw [hofl] at hn10 ho10' ⊢
        have HOL := Lib.hid hofl
        unfold maxLen at hc8 hc10
        have HPP : Hid (PutTo l p r 0 R R) := PutTo.zero _ _ _ _
        clear ho8 ho10 hx8 hx10 hB8 hB10 r2 r5 r8 hofl HMK2 HBK2 HRN HOFF
        go_wp2_with (fail)
        go_loopw [93] (fun i wx => ∃ j : Nat, j ≤ (kid l (p : Int)).length ∧ i = .int .i64 j ∧ (∃ R', LnM S w.heap.size g9 C wx (.slice (some ⟨bt, ot, none⟩) l.length ct) (.slice al (kid l (p : Int)).length cl) l p Q R' ∧ Hid (PutTo l p r j R R')) ∧
          Own wx C 1 (.slice a8 (kid l (p : Int)).length c8) (Is (szs false l p Q.w)) ∧ Own wx C 1 (.slice a10 (kid l (p : Int)).length c10) (Is (offL (szs false l p Q.w) Q.w (bx l p).gap (bx l p).justify)) ∧ Below S w wx ∧ C ≤ wx.heap.size) (fun i _ => (kid l (p : Int)).length - (intOf i).toNat)
        case atStart => exact ⟨0, Nat.zero_le _, rfl, ⟨R, hM10, HPP⟩, ho8', ho10', hb10, hC10⟩
        case round =>
          clear hM10 HPP ho8' ho10' hb10 hC10 hC HMR
          obtain ⟨j, hj, rfl, ⟨R', hM, hP⟩, hoS, hoO, hb, hC⟩ := hrel
          by_cases hlt : j < (kid l (p : Int)).length
          · obtain ⟨k, hk⟩ : ∃ k, (kid l (p : Int))[j]? = some k := ⟨_, List.getElem?_eq_getElem hlt⟩
            obtain ⟨hkl, hkp⟩ := mem_kid_iff.1 (List.mem_of_getElem? hk)
            obtain ⟨ga, oa, rfl, _⟩ := hM.L.rd.intAt (show (ni (kid l (p : Int)))[j]? = some (k : Int) by simp [ni, hk])
            have HLK := Lib.hid (fun w9 R9 (h : LnM S w.heap.size g9 C w9 (.slice (some ⟨bt, ot, none⟩) l.length ct) (.slice (some ⟨ga, oa, none⟩) (kid l (p : Int)).length cl) l p Q R9) => show w9.cell? ⟨ga, oa + j, none⟩ = some (.int .i64 (k : Int)) by
              obtain ⟨b', o', e, h⟩ := h.L.rd.intAt (show (ni (kid l (p : Int)))[j]? = some (k : Int) by simp [ni, hk])
              cases e
              exact h)
            have hszj := szs_get HV.out false Q.w hk
            have hxj := HSZ.out _ (List.mem_of_getElem? hszj)
            have hofj : (offL (szs false l p Q.w) Q.w (bx l p).gap (bx l p).justify)[j]? = some (offK false l p Q.w j) := offL_get (by rw [HSL.out]; exact hlt)
            have hob := offK_le HV.out false hp (space := Q.w) (by omega) hszj
            obtain ⟨g1, o1, rfl, ck8⟩ := hoS.rd.intAt hszj
            obtain ⟨g2, o2, rfl, ck10⟩ := hoO.rd.intAt hofj
            have HPS := Lib.hid (fun (R' : List Rc) (h : PutTo l p r j R R') (hl : k < R'.length) => h.step hk hl)
            have HRE := Lib.hid (HPQ.out j k)
            have hji : (j : Int) < (kid l (p : Int)).length := by omega
            have hki : (k : Int) < l.length := by omega
            have hkw : IntKind.i64.wrap ((j : Int) + 1) = (j : Int) + 1 := by rw [IntKind.wrap_i64]; omega
            have HF1 := Lib.hid (fun w9 (h : Below wr.drew.heap.size wr.drew w9) => And.intro (cells4_of (x := Q) (hM.drew.keep (h.mono hC)).r) (cell_below h (show wr.drew.cell? ⟨g1, o1 + j, none⟩ = some (.int .i64 ((szs false l p Q.w).getD j 0)) from ck8)))
            have hM1 := hM.drew
            have hoS1 := hoS.drew
            have hoO1 := hoO.drew
            have hb1 := hb.drew
            have hC1 : C ≤ wr.drew.heap.size := hC
            have HQB := Lib.hid hQb
            clear hk hkp hszj hofj
            generalize (szs false l p Q.w).getD j 0 = sz at *
            generalize offK false l p Q.w j = of at *
            go_upto_region 17 with fail
            refine wp_region_held_drew (S := fun w' => Below wr.drew.heap.size wr.drew w') (by kernel_rfl) (Below.refl _ _) (fun hS => ?_)
            clear hM hoS hoO hb hC ck8 ck10
            generalize wr.drew = wd at *
            refine hTake (by kernel_rfl) (fun d _ _ _ _ h => by cases d <;> exact h) hS 0 (some 98) _ rfl (v := ?_) (by kernel_rfl) ?_ ?_
            rotate_left
            · intro _ _; go_simp; first | done | with_reducible rfl
            simp only [Act.put, List.setIfInBounds_toArray, List.set_cons_zero, List.set_cons_succ]
            refine hTake (by kernel_rfl) (fun d _ _ _ _ h => by cases d <;> exact h) hS 1 (some 99) _ rfl (v := ?_) (by kernel_rfl) ?_ ?_
            rotate_left
            · intro w9 hS9; obtain ⟨⟨q0, q1, q2, q3⟩, _⟩ := HF1.out _ hS9; go_simp; first | done | with_reducible rfl
            simp only [Act.put, List.setIfInBounds_toArray, List.set_cons_zero, List.set_cons_succ]
            refine hTake (by kernel_rfl) (fun d _ _ _ _ h => by cases d <;> exact h) hS 2 (some 100) _ rfl (v := ?_) (by kernel_rfl) ?_ ?_
            rotate_left
            · intro _ _; go_simp; first | done | with_reducible rfl
            simp only [Act.put, List.setIfInBounds_toArray, List.set_cons_zero, List.set_cons_succ]
            refine hTake (by kernel_rfl) (fun d _ _ _ _ h => by cases d <;> exact h) hS 3 (some 101) _ rfl (v := ?_) (by kernel_rfl) ?_ ?_
            rotate_left
            · intro _ _; go_simp; first | done | with_reducible rfl
            simp only [Act.put, List.setIfInBounds_toArray, List.set_cons_zero, List.set_cons_succ]
            refine hTake (by kernel_rfl) (fun d _ _ _ _ h => by cases d <;> exact h) hS 4 (some 102) _ rfl (v := ?_) (by kernel_rfl) ?_ ?_
            rotate_left
            · intro _ _; go_simp; first | done | with_reducible rfl
            simp only [Act.put, List.setIfInBounds_toArray, List.set_cons_zero, List.set_cons_succ]
            refine hTake (by kernel_rfl) (fun d _ _ _ _ h => by cases d <;> exact h) hS 5 (some 103) _ rfl (v := ?_) (by kernel_rfl) ?_ ?_
            rotate_left
            · intro w9 hS9; obtain ⟨⟨q0, q1, q2, q3⟩, _⟩ := HF1.out _ hS9; go_simp; first | done | with_reducible rfl
            simp only [Act.put, List.setIfInBounds_toArray, List.set_cons_zero, List.set_cons_succ]
            refine hTake (by kernel_rfl) (fun d _ _ _ _ h => by cases d <;> exact h) hS 6 (some 104) _ rfl (v := ?_) (by kernel_rfl) ?_ ?_
            rotate_left
            · intro _ _; go_simp; first | done | with_reducible rfl
            simp only [Act.put, List.setIfInBounds_toArray, List.set_cons_zero, List.set_cons_succ]
            refine hTake (by kernel_rfl) (fun d _ _ _ _ h => by cases d <;> exact h) hS 7 (some 105) _ rfl (v := ?_) (by kernel_rfl) ?_ ?_
            rotate_left
            · intro _ _; go_simp; first | done | with_reducible rfl
            simp only [Act.put, List.setIfInBounds_toArray, List.set_cons_zero, List.set_cons_succ]
            refine hTake (by kernel_rfl) (fun d _ _ _ _ h => by cases d <;> exact h) hS 8 (some 106) _ rfl (v := ?_) (by kernel_rfl) ?_ ?_
            rotate_left
            · intro _ _; go_simp; first | done | with_reducible rfl
            simp only [Act.put, List.setIfInBounds_toArray, List.set_cons_zero, List.set_cons_succ]
            refine hTake (by kernel_rfl) (fun d _ _ _ _ h => by cases d <;> exact h) hS 9 (some 107) _ rfl (v := ?_) (by kernel_rfl) ?_ ?_
            rotate_left
            · intro w9 hS9; obtain ⟨_, q4⟩ := HF1.out _ hS9; go_simp; first | done | with_reducible rfl
            simp only [Act.put, List.setIfInBounds_toArray, List.set_cons_zero, List.set_cons_succ]
            refine hTake (by kernel_rfl) (fun d _ _ _ _ h => by cases d <;> exact h) hS 10 (some 108) _ rfl (v := ?_) (by kernel_rfl) ?_ ?_
            rotate_left
            · intro _ _; go_simp; first | done | with_reducible rfl
            simp only [Act.put, List.setIfInBounds_toArray, List.set_cons_zero, List.set_cons_succ]
            refine hTake (by kernel_rfl) (fun d _ _ _ _ h => by cases d <;> exact h) hS 11 (some 109) _ rfl (v := ?_) (by kernel_rfl) ?_ ?_
            rotate_left
            · intro w9 hS9; obtain ⟨⟨q0, q1, q2, q3⟩, _⟩ := HF1.out _ hS9; go_simp; first | done | with_reducible rfl
            simp only [Act.put, List.setIfInBounds_toArray, List.set_cons_zero, List.set_cons_succ]
            refine hTake (by kernel_rfl) (fun d _ _ _ _ h => by cases d <;> exact h) hS 12 (some 110) _ rfl (v := ?_) (by kernel_rfl) ?_ ?_
            rotate_left
            · intro _ _; go_simp; first | done | with_reducible rfl
            simp only [Act.put, List.setIfInBounds_toArray, List.set_cons_zero, List.set_cons_succ]
            have hS0 : Below wd.heap.size wd wd := Below.refl _ _
            have hww : IntKind.i64.wrap (Q.x + of) = Q.x + of := by rw [IntKind.wrap_i64]; omega
            refine wpAnyH_ready (rs := [13]) (by kernel_rfl) (by simp) ?_
            refine AllReadyH.cons (o := _) rfl (fun K9 hK9 => ?_) AllReadyH.nil
            go_simp
            refine hK9.out _ _ (hS0.alloc (Nat.le_refl _) _) (fun hS => ?_)
            clear hK9 K9
            try simp only [Act.put, List.setIfInBounds_toArray, List.set_cons_zero, List.set_cons_succ]
            refine wpAnyH_ready (rs := [14]) (by kernel_rfl) (by simp) ?_
            refine AllReadyH.cons (o := _) rfl (fun K9 hK9 => ?_) AllReadyH.nil
            go_simp
            refine hK9.out _ _ (hS0.alloc (Nat.le_refl _) _) (fun hS => ?_)
            clear hK9 K9
            try simp only [Act.put, List.setIfInBounds_toArray, List.set_cons_zero, List.set_cons_succ]
            refine wpAnyH_done (by kernel_rfl) ?_ _
            have hB7 : Below wd.heap.size wd (wd.alloc (.cells #[.int .i64 (Q.x + of), .int .i64 Q.y, .int .i64 sz, .int .i64 Q.h] 39)) := hS0.alloc (Nat.le_refl _) _
            have hK7 := Keep.new wd (.cells #[.int .i64 (Q.x + of), .int .i64 Q.y, .int .i64 sz, .int .i64 Q.h] 39)
            clear hS hS0
            generalize hW7 : wd.alloc (.cells #[.int .i64 (Q.x + of), .int .i64 Q.y, .int .i64 sz, .int .i64 Q.h] 39) = W7 at *
            clear hW7
            have HTR := Lib.hid (turnR_any ⟨Q.x + of, Q.y, sz, Q.h⟩ W7)
            unfold Rc.turn Rc.agg at HTR
            dsimp only at HTR
            have hg17 := hK7.lt
            have k0 := hK7.cell 0
            have k1 := hK7.cell 1
            have k2 := hK7.cell 2
            have k3 := hK7.cell 3
            go_wp2_with (fail)
            refine HTR.out.mono ?_
            rintro e w6 ⟨rfl, hx6⟩
            have hK6 := hK7.below hg17 hx6
            have HB8 := Lib.hid (below_set4 (o1 := 0) (o2 := 1) (o3 := 2) (o4 := 3) (hB7.trans (hx6.mono (Nat.le_of_lt hg17))) (Nat.le_refl _) (.int .i64 Q.y) (.int .i64 (Q.x + of)) (.int .i64 Q.h) (.int .i64 sz))
            have HK8 := Lib.hid ((((hK6.store 0 (.int .i64 Q.y)).store 1 (.int .i64 (Q.x + of))).store 2 (.int .i64 Q.h)).store 3 (.int .i64 sz))
            clear k0 k1 k2 k3
            have k0 := hK6.cell 0
            have k1 := hK6.cell 1
            have k2 := hK6.cell 2
            have k3 := hK6.cell 3
            have y0 := hK6.frozen 0
            have y1 := hK6.frozen 1
            have y2 := hK6.frozen 2
            have y3 := hK6.frozen 3
            clear hB7 hK7 hx6 hK6 HTR
            go_upto_region 20 with fail
            have hB8 := HB8.out
            have hK8 : Keep wd.heap.size (.cells #[.int .i64 Q.y, .int .i64 (Q.x + of), .int .i64 Q.h, .int .i64 sz] 39) _ := HK8.out
            clear HB8 HK8 k0 k1 k2 k3 y0 y1 y2 y3
            generalize ((((w6.setCell ⟨wd.heap.size, 0, none⟩ (.int .i64 Q.y)).setCell ⟨wd.heap.size, 1, none⟩ (.int .i64 (Q.x + of))).setCell ⟨wd.heap.size, 2, none⟩ (.int .i64 Q.h)).setCell ⟨wd.heap.size, 3, none⟩ (.int .i64 sz)) = W8 at *
            have hM8 := hM1.keep (hB8.mono hC1)
            have hS8 := hoS1.below hB8 (Nat.le_refl _)
            have hO8 := hoO1.below hB8 (Nat.le_refl _)
            have hb8 := hb1.trans (hB8.mono (by omega))
            have hC8 := Nat.le_trans hC1 hB8.size
            have d0 : W8.drew.cell? ⟨S + 1, 1, none⟩ = some (.slice (some ⟨S, 0, none⟩) l.length l.length) := hM8.m.c1
            have d1 : W8.drew.cell? ⟨ga, oa + j, none⟩ = some (.int .i64 (k : Int)) := HLK.out _ _ hM8.drew
            have e0 : W8.drew.cell? ⟨wd.heap.size, 0, none⟩ = some (.int .i64 (Q.y)) := hK8.cell 0
            have e1 : W8.drew.cell? ⟨wd.heap.size, 1, none⟩ = some (.int .i64 (Q.x + of)) := hK8.cell 1
            have e2 : W8.drew.cell? ⟨wd.heap.size, 2, none⟩ = some (.int .i64 (Q.h)) := hK8.cell 2
            have e3 : W8.drew.cell? ⟨wd.heap.size, 3, none⟩ = some (.int .i64 (sz)) := hK8.cell 3
            go_still_tail 10, (by kernel_rfl)
            repeat still_step
            try refine wpStill_nil ?_
            change wpList _ _ _ _ _ W8.drew
            have hM9 := hM8.drew
            have hS9' := hS8.drew
            have hO9 := hO8.drew
            have hb9 := hb8.drew
            have hC9 : C ≤ W8.drew.heap.size := hC8
            clear d0 d1 e0 e1 e2 e3 hM8 hS8 hO8 hb8 hC8 hK8 hB8 hM1 hoS1 hoO1 hb1 hC1
            generalize W8.drew = w9 at *
            have hkR : k < R'.length := by rw [hM9.m.len]; exact hkl
            obtain ⟨x, hx⟩ : ∃ x, R'[k]? = some x := ⟨_, List.getElem?_eq_getElem hkR⟩
            obtain ⟨y0, y1, y2, y3⟩ := hM9.m.at hx
            have hfz := (hM9.m.set hkl).1
            have f0 := hfz (k * 4)
            have f1 := hfz (k * 4 + 1)
            have f2 := hfz (k * 4 + 2)
            have f3 := hfz (k * 4 + 3)
            have HM9 := Lib.hid (hM9.set HS89.out.1 HS89.out.2 hkl (Q.y) (Q.x + of) (Q.h) (sz))
            have HSS := Lib.hid (own_set4 (g2 := S) (o1 := k * 4) (o2 := k * 4 + 1) (o3 := k * 4 + 2) (o4 := k * 4 + 3) hS9' (fun e => by have := (hS9'.lt _ e).1; omega) (.int .i64 (Q.y)) (.int .i64 (Q.x + of)) (.int .i64 (Q.h)) (.int .i64 (sz)))
            have HOO := Lib.hid (own_set4 (g2 := S) (o1 := k * 4) (o2 := k * 4 + 1) (o3 := k * 4 + 2) (o4 := k * 4 + 3) hO9 (fun e => by have := (hO9.lt _ e).1; omega) (.int .i64 (Q.y)) (.int .i64 (Q.x + of)) (.int .i64 (Q.h)) (.int .i64 (sz)))
            have HBB := Lib.hid (below_set4 (g := S) (o1 := k * 4) (o2 := k * 4 + 1) (o3 := k * 4 + 2) (o4 := k * 4 + 3) hb9 (Nat.le_refl _) (.int .i64 (Q.y)) (.int .i64 (Q.x + of)) (.int .i64 (Q.h)) (.int .i64 (sz)))
            have HP9 := Lib.hid (HPS.out R' hP.out hkR)
            clear hM9 hS9' hO9 hb9 hfz hx
            go_wp2
            go_roundw
            case rel =>
              refine ⟨j + 1, by omega, by go_num, ⟨_, HM9.out, ?_⟩, HSS.out, HOO.out, HBB.out, by simp [World.setCell]; omega⟩
              have h := HP9.out
              rw [HRE.out] at h
              exact h
            case measure => simp [intOf]; omega
          · obtain rfl : j = (kid l (p : Int)).length := by omega
            have HBE := Lib.hid hb
            have HME := Lib.hid hM.m
            clear hb hM
            go_wp2_with (fail)
            go_end0
            exact ⟨rfl, R', HME.out, HBE.out, hP.out⟩
      · have hse : spc l p Q.w = Q.w - (bx l p).gap * (((kid l (p : Int)).length : Int) - 1) := by unfold spc; omega
        have HSE := Lib.hid hse
        rw [hse] at HFL
        clear hse hspw
        go_wp2_with (fail)
        refine HFL.out.mono ?_
        rintro e w8 ⟨v8, rfl, ho8, hx8⟩
        have hB8 := hx8.mono hC
        obtain ⟨r2, r5, r8⟩ := HRN.out w8 hB8
        clear q0 q1 q2 q3 b5 b8 HFL
        go_wp2_with (fail)
        refine (HOFF.out w8 v8 ho8.rd).mono ?_
        rintro e w10 ⟨v10, rfl, ho10, hx10⟩
        have hB10 := hB8.trans (hx10.mono (Nat.le_trans hC hx8.size))
        have hM10 := HMK2.out w10 hB10
        have hb10 := HBK2.out w10 hB10
        have hC10 := Nat.le_trans (Nat.le_trans hC hx8.size) hx10.size
        have ho8' := (ho8.below hx10 (Nat.le_refl _)).weak hC
        have ho10' := ho10.weak (Nat.le_trans hC hx8.size)
        obtain ⟨a8, c8, rfl, hn8, hc8, _⟩ := ho8'.rd.ints
        obtain ⟨a10, c10, rfl, hn10, hc10, _⟩ := ho10'.rd.ints
        rw [HSL.out] at hn8 ho8' ⊢
        have hofl : (offL (szs false l p Q.w) Q.w (bx l p).gap (bx l p).justify).length = (kid l (p : Int)).length := by rw [offL_length, HSL.out]
        rw [hofl] at hn10 ho10' ⊢
        have HOL := Lib.hid hofl
        unfold maxLen at hc8 hc10
        have HPP : Hid (PutTo l p r 0 R R) := PutTo.zero _ _ _ _
        clear ho8 ho10 hx8 hx10 hB8 hB10 r2 r5 r8 hofl HMK2 HBK2 HRN HOFF
        go_wp2_with (fail)
        go_loopw [93] (fun i wx => ∃ j : Nat, j ≤ (kid l (p : Int)).length ∧ i = .int .i64 j ∧ (∃ R', LnM S w.heap.size g9 C wx (.slice (some ⟨bt, ot, none⟩) l.length ct) (.slice al (kid l (p : Int)).length cl) l p Q R' ∧ Hid (PutTo l p r j R R')) ∧
          Own wx C 1 (.slice a8 (kid l (p : Int)).length c8) (Is (szs false l p Q.w)) ∧ Own wx C 1 (.slice a10 (kid l (p : Int)).length c10) (Is (offL (szs false l p Q.w) Q.w (bx l p).gap (bx l p).justify)) ∧ Below S w wx ∧ C ≤ wx.heap.size) (fun i _ => (kid l (p : Int)).length - (intOf i).toNat)
        case atStart => exact ⟨0, Nat.zero_le _, rfl, ⟨R, hM10, HPP⟩, ho8', ho10', hb10, hC10⟩
        case round =>
          clear hM10 HPP ho8' ho10' hb10 hC10 hC HMR
          obtain ⟨j, hj, rfl, ⟨R', hM, hP⟩, hoS, hoO, hb, hC⟩ := hrel
          by_cases hlt : j < (kid l (p : Int)).length
          · obtain ⟨k, hk⟩ : ∃ k, (kid l (p : Int))[j]? = some k := ⟨_, List.getElem?_eq_getElem hlt⟩
            obtain ⟨hkl, hkp⟩ := mem_kid_iff.1 (List.mem_of_getElem? hk)
            obtain ⟨ga, oa, rfl, _⟩ := hM.L.rd.intAt (show (ni (kid l (p : Int)))[j]? = some (k : Int) by simp [ni, hk])
            have HLK := Lib.hid (fun w9 R9 (h : LnM S w.heap.size g9 C w9 (.slice (some ⟨bt, ot, none⟩) l.length ct) (.slice (some ⟨ga, oa, none⟩) (kid l (p : Int)).length cl) l p Q R9) => show w9.cell? ⟨ga, oa + j, none⟩ = some (.int .i64 (k : Int)) by
              obtain ⟨b', o', e, h⟩ := h.L.rd.intAt (show (ni (kid l (p : Int)))[j]? = some (k : Int) by simp [ni, hk])
              cases e
              exact h)
            have hszj := szs_get HV.out false Q.w hk
            have hxj := HSZ.out _ (List.mem_of_getElem? hszj)
            have hofj : (offL (szs false l p Q.w) Q.w (bx l p).gap (bx l p).justify)[j]? = some (offK false l p Q.w j) := offL_get (by rw [HSL.out]; exact hlt)
            have hob := offK_le HV.out false hp (space := Q.w) (by omega) hszj
            obtain ⟨g1, o1, rfl, ck8⟩ := hoS.rd.intAt hszj
            obtain ⟨g2, o2, rfl, ck10⟩ := hoO.rd.intAt hofj
            have HPS := Lib.hid (fun (R' : List Rc) (h : PutTo l p r j R R') (hl : k < R'.length) => h.step hk hl)
            have HRE := Lib.hid (HPQ.out j k)
            have hji : (j : Int) < (kid l (p : Int)).length := by omega
            have hki : (k : Int) < l.length := by omega
            have hkw : IntKind.i64.wrap ((j : Int) + 1) = (j : Int) + 1 := by rw [IntKind.wrap_i64]; omega
            have HF1 := Lib.hid (fun w9 (h : Below wr.drew.heap.size wr.drew w9) => And.intro (cells4_of (x := Q) (hM.drew.keep (h.mono hC)).r) (cell_below h (show wr.drew.cell? ⟨g1, o1 + j, none⟩ = some (.int .i64 ((szs false l p Q.w).getD j 0)) from ck8)))
            have hM1 := hM.drew
            have hoS1 := hoS.drew
            have hoO1 := hoO.drew
            have hb1 := hb.drew
            have hC1 : C ≤ wr.drew.heap.size := hC
            have HQB := Lib.hid hQb
            clear hk hkp hszj hofj
            generalize (szs false l p Q.w).getD j 0 = sz at *
            generalize offK false l p Q.w j = of at *
            go_upto_region 17 with fail
            refine wp_region_held_drew (S := fun w' => Below wr.drew.heap.size wr.drew w') (by kernel_rfl) (Below.refl _ _) (fun hS => ?_)
            clear hM hoS hoO hb hC ck8 ck10
            generalize wr.drew = wd at *
            refine hTake (by kernel_rfl) (fun d _ _ _ _ h => by cases d <;> exact h) hS 0 (some 98) _ rfl (v := ?_) (by kernel_rfl) ?_ ?_
            rotate_left
            · intro _ _; go_simp; first | done | with_reducible rfl
            simp only [Act.put, List.setIfInBounds_toArray, List.set_cons_zero, List.set_cons_succ]
            refine hTake (by kernel_rfl) (fun d _ _ _ _ h => by cases d <;> exact h) hS 1 (some 99) _ rfl (v := ?_) (by kernel_rfl) ?_ ?_
            rotate_left
            · intro w9 hS9; obtain ⟨⟨q0, q1, q2, q3⟩, _⟩ := HF1.out _ hS9; go_simp; first | done | with_reducible rfl
            simp only [Act.put, List.setIfInBounds_toArray, List.set_cons_zero, List.set_cons_succ]
            refine hTake (by kernel_rfl) (fun d _ _ _ _ h => by cases d <;> exact h) hS 2 (some 100) _ rfl (v := ?_) (by kernel_rfl) ?_ ?_
            rotate_left
            · intro _ _; go_simp; first | done | with_reducible rfl
            simp only [Act.put, List.setIfInBounds_toArray, List.set_cons_zero, List.set_cons_succ]
            refine hTake (by kernel_rfl) (fun d _ _ _ _ h => by cases d <;> exact h) hS 3 (some 101) _ rfl (v := ?_) (by kernel_rfl) ?_ ?_
            rotate_left
            · intro _ _; go_simp; first | done | with_reducible rfl
            simp only [Act.put, List.setIfInBounds_toArray, List.set_cons_zero, List.set_cons_succ]
            refine hTake (by kernel_rfl) (fun d _ _ _ _ h => by cases d <;> exact h) hS 4 (some 102) _ rfl (v := ?_) (by kernel_rfl) ?_ ?_
            rotate_left
            · intro _ _; go_simp; first | done | with_reducible rfl
            simp only [Act.put, List.setIfInBounds_toArray, List.set_cons_zero, List.set_cons_succ]
            refine hTake (by kernel_rfl) (fun d _ _ _ _ h => by cases d <;> exact h) hS 5 (some 103) _ rfl (v := ?_) (by kernel_rfl) ?_ ?_
            rotate_left
            · intro w9 hS9; obtain ⟨⟨q0, q1, q2, q3⟩, _⟩ := HF1.out _ hS9; go_simp; first | done | with_reducible rfl
            simp only [Act.put, List.setIfInBounds_toArray, List.set_cons_zero, List.set_cons_succ]
            refine hTake (by kernel_rfl) (fun d _ _ _ _ h => by cases d <;> exact h) hS 6 (some 104) _ rfl (v := ?_) (by kernel_rfl) ?_ ?_
            rotate_left
            · intro _ _; go_simp; first | done | with_reducible rfl
            simp only [Act.put, List.setIfInBounds_toArray, List.set_cons_zero, List.set_cons_succ]
            refine hTake (by kernel_rfl) (fun d _ _ _ _ h => by cases d <;> exact h) hS 7 (some 105) _ rfl (v := ?_) (by kernel_rfl) ?_ ?_
            rotate_left
            · intro _ _; go_simp; first | done | with_reducible rfl
            simp only [Act.put, List.setIfInBounds_toArray, List.set_cons_zero, List.set_cons_succ]
            refine hTake (by kernel_rfl) (fun d _ _ _ _ h => by cases d <;> exact h) hS 8 (some 106) _ rfl (v := ?_) (by kernel_rfl) ?_ ?_
            rotate_left
            · intro _ _; go_simp; first | done | with_reducible rfl
            simp only [Act.put, List.setIfInBounds_toArray, List.set_cons_zero, List.set_cons_succ]
            refine hTake (by kernel_rfl) (fun d _ _ _ _ h => by cases d <;> exact h) hS 9 (some 107) _ rfl (v := ?_) (by kernel_rfl) ?_ ?_
            rotate_left
            · intro w9 hS9; obtain ⟨_, q4⟩ := HF1.out _ hS9; go_simp; first | done | with_reducible rfl
            simp only [Act.put, List.setIfInBounds_toArray, List.set_cons_zero, List.set_cons_succ]
            refine hTake (by kernel_rfl) (fun d _ _ _ _ h => by cases d <;> exact h) hS 10 (some 108) _ rfl (v := ?_) (by kernel_rfl) ?_ ?_
            rotate_left
            · intro _ _; go_simp; first | done | with_reducible rfl
            simp only [Act.put, List.setIfInBounds_toArray, List.set_cons_zero, List.set_cons_succ]
            refine hTake (by kernel_rfl) (fun d _ _ _ _ h => by cases d <;> exact h) hS 11 (some 109) _ rfl (v := ?_) (by kernel_rfl) ?_ ?_
            rotate_left
            · intro w9 hS9; obtain ⟨⟨q0, q1, q2, q3⟩, _⟩ := HF1.out _ hS9; go_simp; first | done | with_reducible rfl
            simp only [Act.put, List.setIfInBounds_toArray, List.set_cons_zero, List.set_cons_succ]
            refine hTake (by kernel_rfl) (fun d _ _ _ _ h => by cases d <;> exact h) hS 12 (some 110) _ rfl (v := ?_) (by kernel_rfl) ?_ ?_
            rotate_left
            · intro _ _; go_simp; first | done | with_reducible rfl
            simp only [Act.put, List.setIfInBounds_toArray, List.set_cons_zero, List.set_cons_succ]
            have hS0 : Below wd.heap.size wd wd := Below.refl _ _
            have hww : IntKind.i64.wrap (Q.x + of) = Q.x + of := by rw [IntKind.wrap_i64]; omega
            refine wpAnyH_ready (rs := [13]) (by kernel_rfl) (by simp) ?_
            refine AllReadyH.cons (o := _) rfl (fun K9 hK9 => ?_) AllReadyH.nil
            go_simp
            refine hK9.out _ _ (hS0.alloc (Nat.le_refl _) _) (fun hS => ?_)
            clear hK9 K9
            try simp only [Act.put, List.setIfInBounds_toArray, List.set_cons_zero, List.set_cons_succ]
            refine wpAnyH_ready (rs := [14]) (by kernel_rfl) (by simp) ?_
            refine AllReadyH.cons (o := _) rfl (fun K9 hK9 => ?_) AllReadyH.nil
            go_simp
            refine hK9.out _ _ (hS0.alloc (Nat.le_refl _) _) (fun hS => ?_)
            clear hK9 K9
            try simp only [Act.put, List.setIfInBounds_toArray, List.set_cons_zero, List.set_cons_succ]
            refine wpAnyH_done (by kernel_rfl) ?_ _
            have hB7 : Below wd.heap.size wd (wd.alloc (.cells #[.int .i64 (Q.x + of), .int .i64 Q.y, .int .i64 sz, .int .i64 Q.h] 39)) := hS0.alloc (Nat.le_refl _) _
            have hK7 := Keep.new wd (.cells #[.int .i64 (Q.x + of), .int .i64 Q.y, .int .i64 sz, .int .i64 Q.h] 39)
            clear hS hS0
            generalize hW7 : wd.alloc (.cells #[.int .i64 (Q.x + of), .int .i64 Q.y, .int .i64 sz, .int .i64 Q.h] 39) = W7 at *
            clear hW7
            have HTR := Lib.hid (turnR_any ⟨Q.x + of, Q.y, sz, Q.h⟩ W7)
            unfold Rc.turn Rc.agg at HTR
            dsimp only at HTR
            have hg17 := hK7.lt
            have k0 := hK7.cell 0
            have k1 := hK7.cell 1
            have k2 := hK7.cell 2
            have k3 := hK7.cell 3
            go_wp2_with (fail)
            refine HTR.out.mono ?_
            rintro e w6 ⟨rfl, hx6⟩
            have hK6 := hK7.below hg17 hx6
            have HB8 := Lib.hid (below_set4 (o1 := 0) (o2 := 1) (o3 := 2) (o4 := 3) (hB7.trans (hx6.mono (Nat.le_of_lt hg17))) (Nat.le_refl _) (.int .i64 Q.y) (.int .i64 (Q.x + of)) (.int .i64 Q.h) (.int .i64 sz))
            have HK8 := Lib.hid ((((hK6.store 0 (.int .i64 Q.y)).store 1 (.int .i64 (Q.x + of))).store 2 (.int .i64 Q.h)).store 3 (.int .i64 sz))
            clear k0 k1 k2 k3
            have k0 := hK6.cell 0
            have k1 := hK6.cell 1
            have k2 := hK6.cell 2
            have k3 := hK6.cell 3
            have y0 := hK6.frozen 0
            have y1 := hK6.frozen 1
            have y2 := hK6.frozen 2
            have y3 := hK6.frozen 3
            clear hB7 hK7 hx6 hK6 HTR
            go_upto_region 20 with fail
            have hB8 := HB8.out
            have hK8 : Keep wd.heap.size (.cells #[.int .i64 Q.y, .int .i64 (Q.x + of), .int .i64 Q.h, .int .i64 sz] 39) _ := HK8.out
            clear HB8 HK8 k0 k1 k2 k3 y0 y1 y2 y3
            generalize ((((w6.setCell ⟨wd.heap.size, 0, none⟩ (.int .i64 Q.y)).setCell ⟨wd.heap.size, 1, none⟩ (.int .i64 (Q.x + of))).setCell ⟨wd.heap.size, 2, none⟩ (.int .i64 Q.h)).setCell ⟨wd.heap.size, 3, none⟩ (.int .i64 sz)) = W8 at *
            have hM8 := hM1.keep (hB8.mono hC1)
            have hS8 := hoS1.below hB8 (Nat.le_refl _)
            have hO8 := hoO1.below hB8 (Nat.le_refl _)
            have hb8 := hb1.trans (hB8.mono (by omega))
            have hC8 := Nat.le_trans hC1 hB8.size
            have d0 : W8.drew.cell? ⟨S + 1, 1, none⟩ = some (.slice (some ⟨S, 0, none⟩) l.length l.length) := hM8.m.c1
            have d1 : W8.drew.cell? ⟨ga, oa + j, none⟩ = some (.int .i64 (k : Int)) := HLK.out _ _ hM8.drew
            have e0 : W8.drew.cell? ⟨wd.heap.size, 0, none⟩ = some (.int .i64 (Q.y)) := hK8.cell 0
            have e1 : W8.drew.cell? ⟨wd.heap.size, 1, none⟩ = some (.int .i64 (Q.x + of)) := hK8.cell 1
            have e2 : W8.drew.cell? ⟨wd.heap.size, 2, none⟩ = some (.int .i64 (Q.h)) := hK8.cell 2
            have e3 : W8.drew.cell? ⟨wd.heap.size, 3, none⟩ = some (.int .i64 (sz)) := hK8.cell 3
            go_still_tail 10, (by kernel_rfl)
            repeat still_step
            try refine wpStill_nil ?_
            change wpList _ _ _ _ _ W8.drew
            have hM9 := hM8.drew
            have hS9' := hS8.drew
            have hO9 := hO8.drew
            have hb9 := hb8.drew
            have hC9 : C ≤ W8.drew.heap.size := hC8
            clear d0 d1 e0 e1 e2 e3 hM8 hS8 hO8 hb8 hC8 hK8 hB8 hM1 hoS1 hoO1 hb1 hC1
            generalize W8.drew = w9 at *
            have hkR : k < R'.length := by rw [hM9.m.len]; exact hkl
            obtain ⟨x, hx⟩ : ∃ x, R'[k]? = some x := ⟨_, List.getElem?_eq_getElem hkR⟩
            obtain ⟨y0, y1, y2, y3⟩ := hM9.m.at hx
            have hfz := (hM9.m.set hkl).1
            have f0 := hfz (k * 4)
            have f1 := hfz (k * 4 + 1)
            have f2 := hfz (k * 4 + 2)
            have f3 := hfz (k * 4 + 3)
            have HM9 := Lib.hid (hM9.set HS89.out.1 HS89.out.2 hkl (Q.y) (Q.x + of) (Q.h) (sz))
            have HSS := Lib.hid (own_set4 (g2 := S) (o1 := k * 4) (o2 := k * 4 + 1) (o3 := k * 4 + 2) (o4 := k * 4 + 3) hS9' (fun e => by have := (hS9'.lt _ e).1; omega) (.int .i64 (Q.y)) (.int .i64 (Q.x + of)) (.int .i64 (Q.h)) (.int .i64 (sz)))
            have HOO := Lib.hid (own_set4 (g2 := S) (o1 := k * 4) (o2 := k * 4 + 1) (o3 := k * 4 + 2) (o4 := k * 4 + 3) hO9 (fun e => by have := (hO9.lt _ e).1; omega) (.int .i64 (Q.y)) (.int .i64 (Q.x + of)) (.int .i64 (Q.h)) (.int .i64 (sz)))
            have HBB := Lib.hid (below_set4 (g := S) (o1 := k * 4) (o2 := k * 4 + 1) (o3 := k * 4 + 2) (o4 := k * 4 + 3) hb9 (Nat.le_refl _) (.int .i64 (Q.y)) (.int .i64 (Q.x + of)) (.int .i64 (Q.h)) (.int .i64 (sz)))
            have HP9 := Lib.hid (HPS.out R' hP.out hkR)
            clear hM9 hS9' hO9 hb9 hfz hx
            go_wp2
            go_roundw
            case rel =>
              refine ⟨j + 1, by omega, by go_num, ⟨_, HM9.out, ?_⟩, HSS.out, HOO.out, HBB.out, by simp [World.setCell]; omega⟩
              have h := HP9.out
              rw [HRE.out] at h
              exact h
            case measure => simp [intOf]; omega
          · obtain rfl : j = (kid l (p : Int)).length := by omega
            have HBE := Lib.hid hb
            have HME := Lib.hid hM.m
            clear hb hM
            go_wp2_with (fail)
            go_end0
            exact ⟨rfl, R', HME.out, HBE.out, hP.out⟩
end Go.Proofs.Ytbkhbmcoococmaa
