/-
  Parts of the proof: Line Lay Rof HitI.
-/
import Derived.IntWalk
import Derived.StillTailTactics
import Derived.Test.YthkkgleoikpfgaaGreatDoorKAn
import Derived.Test.YthkkgleoikpfgaaGreatDoorKAw
import Derived.Test.YthkkgleoikpfgaaGreatDoorKAy
import Derived.Test.YthkkgleoikpfgaaGreatDoorKAz
import Derived.Test.YthkkgleoikpfgaaGreatDoorKAa
import Derived.Test.YthkkgleoikpfgaaGreatDoorKAj
namespace Go.Proofs.YthkkgleoikpfgaaGreatDoor
open Go Go.RowKit
theorem LyM.keep {S C : Nat} {w w' : World} {tv : Value} {n : Nat} {R : List Rc} (h : LyM S w tv n R) (hC : S + 2 ≤ C) (hb : Below C w w') : LyM S w' tv n R := by
 obtain ⟨h0, h1, h2, h3, h4⟩ := h
 refine ⟨Nat.le_trans h0 hb.size, ?_, ?_, h3.same (fun q hq => hb.block q (by have := blk_out hq; omega)), h4⟩
 ·rw [hb.cell (p := ⟨S + 1, 0, none⟩) (by show S + 1 < _; omega)]; exact h1
 ·rw [hb.cell (p := ⟨S + 1, 1, none⟩) (by show S + 1 < _; omega)]; exact h2
theorem Keep.below {g C : Nat} {o : Obj} {w w' : World} (h : Keep g o w) (hg : g < C) (hb : Below C w w') : Keep g o w' := by
 unfold Keep
 rw [hb.block g hg]
 exact h
theorem Own.keep {w w' : World} {base size C : Nat} {v : Value} {xs : List Value} (h : Own w base size v xs) (hv : ∀ q, blk v = some q → q < C) (hb : Below C w w') : Own w' base size v xs := h.same (fun q hq => hb.block q (hv q hq))
theorem keep_set4 {g g2 o1 o2 o3 o4 : Nat} {o : Obj} {w : World} (h : Keep g o w) (hne : g ≠ g2) (a b c d : Value) : Keep g o ((((w.setCell ⟨g2, o1, none⟩ a).setCell ⟨g2, o2, none⟩ b).setCell ⟨g2, o3, none⟩ c).setCell ⟨g2, o4, none⟩ d) :=
 (((h.setOther (p := ⟨g2, o1, none⟩) hne _).setOther (p := ⟨g2, o2, none⟩) hne _).setOther (p := ⟨g2, o3, none⟩) hne _).setOther (p := ⟨g2, o4, none⟩) hne _
theorem own_set4 {g2 o1 o2 o3 o4 base size : Nat} {v : Value} {xs : List Value} {w : World} (h : Own w base size v xs) (hne : blk v ≠ some g2) (a b c d : Value) : Own ((((w.setCell ⟨g2, o1, none⟩ a).setCell ⟨g2, o2, none⟩ b).setCell ⟨g2, o3, none⟩ c).setCell ⟨g2, o4, none⟩ d) base size v xs :=
 (((h.setOther (p := ⟨g2, o1, none⟩) hne _).setOther (p := ⟨g2, o2, none⟩) hne _).setOther (p := ⟨g2, o3, none⟩) hne _).setOther (p := ⟨g2, o4, none⟩) hne _
theorem LyM.drew {S : Nat} {w : World} {tv : Value} {n : Nat} {R : List Rc} (h : LyM S w tv n R) : LyM S w.drew tv n R := ⟨h.lt, h.c0, h.c1, h.own, h.len⟩
theorem Keep.drew {g : Nat} {o : Obj} {w : World} (h : Keep g o w) : Keep g o w.drew := h
/-- what lies in memory while a line is laid out -/
structure LnM (S g8 g9 C : Nat) (w : World) (tv lv : Value) (l : List Bx) (p : Nat) (q : Rc) (R : List Rc) : Prop where
 m : LyM S w tv l.length R
 b : Keep g8 (.cells (bx l p).arr 39) w
 r : Keep g9 (.cells q.arr 96) w
 L : Own w (S + 1) 1 lv (Is (ni (kid l (p : Int))))
 Lb : ∀ q, blk lv = some q → q < C
 c1 : S + 2 ≤ C
 c2 : g8 < C
 c3 : g9 < C
theorem LnM.keep {S g8 g9 C : Nat} {w w' : World} {tv lv : Value} {l : List Bx} {p : Nat} {q : Rc} {R : List Rc} (h : LnM S g8 g9 C w tv lv l p q R) (hb : Below C w w') : LnM S g8 g9 C w' tv lv l p q R :=
 ⟨h.m.keep h.c1 hb, h.b.below h.c2 hb, h.r.below h.c3 hb, h.L.keep h.Lb hb, h.Lb, h.c1, h.c2, h.c3⟩
theorem LnM.drew {S g8 g9 C : Nat} {w : World} {tv lv : Value} {l : List Bx} {p : Nat} {q : Rc} {R : List Rc} (h : LnM S g8 g9 C w tv lv l p q R) : LnM S g8 g9 C w.drew tv lv l p q R :=
 ⟨h.m.drew, h.b.drew, h.r.drew, h.L.drew, h.Lb, h.c1, h.c2, h.c3⟩
/-- a rectangle is stored -/
theorem LnM.set {S g8 g9 C : Nat} {w : World} {tv lv : Value} {l : List Bx} {p : Nat} {q : Rc} {R : List Rc} (h : LnM S g8 g9 C w tv lv l p q R) (h8 : S < g8) (h9 : S < g9) {k : Nat} (hk : k < l.length) (a b c d : Int) :
 LnM S g8 g9 C ((((w.setCell ⟨S, k * 4, none⟩ (.int .i64 a)).setCell ⟨S, k * 4 + 1, none⟩ (.int .i64 b)).setCell ⟨S, k * 4 + 2, none⟩ (.int .i64 c)).setCell ⟨S, k * 4 + 3, none⟩ (.int .i64 d)) tv lv l p q (R.set k ⟨a, b, c, d⟩) :=
 ⟨(h.m.set hk).2 ⟨a, b, c, d⟩, keep_set4 h.b (by omega) _ _ _ _, keep_set4 h.r (by omega) _ _ _ _, own_set4 h.L (fun e => by have := (h.L.lt _ e).1; omega) _ _ _ _, h.Lb, h.c1, h.c2, h.c3⟩
set_option maxRecDepth 100000 in
set_option maxHeartbeats 4000000 in
theorem lineRow_any {S p B : Nat} {tv lv : Value} {l : List Bx} {R : List Rc} {r : Rc} (w : World) (hM : LyM S w tv l.length R) (hrd : Rd w 9 tv (Bs l)) (hw0 : ∀ w', Below S w w' → Rd w' 9 tv (Bs l)) (hv : Valid l) (hp : p < l.length) (hr : R[p]? = some r) (hs : RB 100000 r)
 (hL : Own w B 1 lv (Is (ni (kid l (p : Int))))) (hB : S < B) (hk : (bx l p).kind = 2) (hne : kid l (p : Int) ≠ []) :
 Calls Tryz.prog 114 #[.pointer (some ⟨S + 1, 0, none⟩), .int .i64 (p : Int), lv, .bool false] w fun x w' => x = .returned (.tuple #[]) ∧ ∃ R', LyM S w' tv l.length R' ∧ Below S w w' ∧ PutTo l p r (kid l (p : Int)).length R R' := by
 have hbd := okB_bounds (hv.ok p (by omega))
 have hin := inset_ok (r := r) (e := (bx l p).pad) (by omega) (by obtain ⟨_, _, _, _, h5, h6, _, _⟩ := hs; exact ⟨h5, h6⟩) (by obtain ⟨_, _, _, _, _, _, h7, h8⟩ := hs; exact ⟨h7, h8⟩)
 have hsz0 := hM.lt
 have HV := Lib.hid hv
 have HKN := Lib.hid (hv.kids p (by omega)).1
 have hkn := (hv.kids p (by omega)).1
 have HPL := Lib.hid (fun j k => show placeR l p j r k = ⟨(insetR r (bx l p).pad).x + offK true l p (insetR r (bx l p).pad).w j, (insetR r (bx l p).pad).y, (szs true l p (insetR r (bx l p).pad).w).getD j 0, (insetR r (bx l p).pad).h⟩ by unfold placeR; rw [if_pos hk])
 have HW0 := Lib.hid hw0
 obtain ⟨al, cl, rfl, hnl, hcl, _⟩ := hL.rd.ints
 rw [ni_length] at hnl hL ⊢
 have hm1 : 1 ≤ (kid l (p : Int)).length := by
  rcases Nat.eq_zero_or_pos (kid l (p : Int)).length with h | h
  ·exact absurd (List.eq_nil_of_length_eq_zero h) hne
  ·exact h
 obtain ⟨at_, ct, rfl, hnt, hct, _⟩ := hrd.boxes
 obtain ⟨bt, ot, rfl, hbt, _, ⟨d0, d1, d2, d3, d4, d5, d6, d7, d8⟩⟩ := bx_cells hrd hp
 unfold maxLen at hcl hct
 have hpi : (p : Int) < l.length := by omega
 have hbs : RB 100000 r := hs
 obtain ⟨s1, s2, s3, s4, s5, s6, s7, s8⟩ := hbs
 have hx0 := Below.of_alloc w (.cells (bx l p).arr 39)
 have HI := Lib.hid (inner_any (w.alloc (.cells (bx l p).arr 39)) (hM.below hx0) (hrd.below hx0 (Nat.le_refl _)) rfl hp hr (hs.rs (by omega)) (by omega))
 have hK8 := Keep.new w (.cells (bx l p).arr 39)
 have HMK := Lib.hid (fun W => mk_run0 (P := Tryz.prog) el_flex (kid l (p : Int)).length (by omega) W)
 have m0 := hM.c0
 unfold Rc.agg Bx.arr at HI
 have hL0 := hL.alloc (.cells (bx l p).arr 39)
 have hM0 := hM.below hx0
 have HLT := Lib.hid hL.lt
 unfold Bx.arr at hx0 hK8 hL0 hM0
 clear hM hL hrd hr hw0 hv hne hk
 go_enter Tryz.func114, Tryz.ntmps114
 go_wp2_with (fail)
 refine HI.out.mono ?_
 rintro e w1 ⟨rfl, hx⟩
 have hM1 := hM0.below hx
 have hL1 := hL0.below hx (Nat.le_refl _)
 have hK1 := hK8.below (C := w.heap.size + 1) (Nat.lt_succ_self _) (hx.mono (by simp))
 have hb1 := hx0.trans (hx.mono hx0.size)
 have hs1 := hx.size
 rw [World.size_alloc] at hs1
 clear HI hx hM0 hL0 hK8 hx0
 generalize hq : insetR r (bx l p).pad = q at *
 have hbW := hb1.alloc hb1.size (.cells q.arr 96)
 have hg9 : w.heap.size < w1.heap.size := hs1
 have hM : LnM S w.heap.size w1.heap.size (w1.heap.size + 1) (w1.alloc (.cells q.arr 96)) (.slice (some ⟨bt, ot, none⟩) l.length ct) (.slice al (kid l (p : Int)).length cl) l p q R :=
  ⟨hM1.below (Below.of_alloc _ _), hK1.alloc _, Keep.new _ _, (hL1.alloc _).weak hB, fun z hz => by have := (HLT.out z hz).2; omega, by omega, by omega, by omega⟩
 have hb : Below S w (w1.alloc (.cells q.arr 96)) := hbW.mono (by omega)
 have HPQ := Lib.hid (fun j k => show placeR l p j r k = ⟨q.x + offK true l p q.w j, q.y, (szs true l p q.w).getD j 0, q.h⟩ from HPL.out j k)
 have hQb : 0 ≤ q.x ∧ q.x ≤ 200000 ∧ 0 ≤ q.y ∧ q.y ≤ 200000 ∧ 0 ≤ q.w ∧ q.w ≤ 10000 ∧ 0 ≤ q.h ∧ q.h ≤ 10000 := by omega
 have hS9 : S < w1.heap.size := by omega
 have hS8 : S < w.heap.size := by omega
 clear hb1 hM1 hL1 hK1 hbW hin hq HPL s1 s2 s3 s4 s5 s6 s7 s8 m0
 unfold Rc.arr at hM hb
 go_upto_region 4 with fail
 generalize w1.alloc (.cells #[.int .i64 q.x, .int .i64 q.y, .int .i64 q.w, .int .i64 q.h] 96) = W at *
 generalize hg9e : w1.heap.size = g9 at *
 generalize hCe : g9 + 1 = C at *
 clear hg9e
 obtain ⟨Q, hQ⟩ : ∃ Q, q = Q := ⟨_, rfl⟩
 subst hQ
 rename Rc => Q
 have hCW : C ≤ W.heap.size := by rw [← hCe]; exact Nat.succ_le_of_lt hM.r.lt
 have HFO := Lib.hid (flxs_ok HV.out true p)
 have hoF : Own (W.alloc (.cells (madeCells (Value.agg #[.int .i64 0, .int .i64 0, .int .i64 0, .int .i64 0, .int .i64 0]).cells ((kid l (p : Int)).length * 5)) 156)) C 5 (.slice (some ⟨W.heap.size, 0, none⟩) 0 (kid l (p : Int)).length) (Fs ((flxsOf true l p).take 0)) := by
  have h := Own.made W (madeCells (Value.agg #[.int .i64 0, .int .i64 0, .int .i64 0, .int .i64 0, .int .i64 0]).cells ((kid l (p : Int)).length * 5)) 156 C 5 0 (kid l (p : Int)).length hCW (Nat.zero_le _) (by unfold maxLen; omega) (size_madeCells _ _)
  rw [Nat.zero_mul, List.take_zero] at h
  exact h
 have hMF := hM.keep ((Below.of_alloc W (.cells (madeCells (Value.agg #[.int .i64 0, .int .i64 0, .int .i64 0, .int .i64 0, .int .i64 0]).cells ((kid l (p : Int)).length * 5)) 156)).mono hCW)
 have hbF := hb.alloc (show S ≤ _ by have := hb.size; omega) (.cells (madeCells (Value.agg #[.int .i64 0, .int .i64 0, .int .i64 0, .int .i64 0, .int .i64 0]).cells ((kid l (p : Int)).length * 5)) 156)
 have hCF := Nat.le_trans hCW (Below.of_alloc W (.cells (madeCells (Value.agg #[.int .i64 0, .int .i64 0, .int .i64 0, .int .i64 0, .int .i64 0]).cells ((kid l (p : Int)).length * 5)) 156)).size
 have HS89 := Lib.hid (And.intro hS8 hS9)
 have hSC : S + 2 ≤ C := hM.c1
 clear hM hb hCW
 have hmkw := HMK.out W
 go_wp2_with (fail)
 go_loopw [10, 36] (fun fv i wr => ∃ j : Nat, j ≤ (kid l (p : Int)).length ∧ i = .int .i64 j ∧ Own wr C 5 fv (Fs ((flxsOf true l p).take j)) ∧ LnM S w.heap.size g9 C wr (.slice (some ⟨bt, ot, none⟩) l.length ct) (.slice al (kid l (p : Int)).length cl) l p Q R ∧ Below S w wr ∧ C ≤ wr.heap.size) (fun _ i _ => (kid l (p : Int)).length - (intOf i).toNat)
 case atStart => exact ⟨0, Nat.zero_le _, rfl, hoF, hMF, hbF, hCF⟩
 case round =>
  clear hoF hMF hbF hCF hmkw
  obtain ⟨j, hj, rfl, hoF, hM, hb, hC⟩ := hrel
  by_cases hlt : j < (kid l (p : Int)).length
  ·obtain ⟨k, hk⟩ : ∃ k, (kid l (p : Int))[j]? = some k := ⟨_, List.getElem?_eq_getElem hlt⟩
   obtain ⟨hkl, hkp⟩ := mem_kid_iff.1 (List.mem_of_getElem? hk)
   obtain ⟨ga, oa, rfl, ck⟩ := hM.L.rd.intAt (show (ni (kid l (p : Int)))[j]? = some (k : Int) by simp [ni, hk])
   have hji : (j : Int) < (kid l (p : Int)).length := by omega
   have hki : (k : Int) < l.length := by omega
   have hkw : IntKind.i64.wrap ((j : Int) + 1) = (j : Int) + 1 := by rw [IntKind.wrap_i64]; omega
   have HN := Lib.hid (natural_any HV.out wr (i := (k : Int)) (by omega) (by omega) (HW0.out wr hb))
   rw [Int.toNat_natCast] at HN
   have hn4 := nat_4000 HV.out hkl
   have hfo := HFO.out _ (show flxOf true l k ∈ flxsOf true l p from List.mem_map.2 ⟨k, List.mem_of_getElem? hk, rfl⟩)
   have HAL : Hid (along true l k = (natS l k).1) := rfl
   have ET := Lib.hid (show Fs ((flxsOf true l p).take (j + 1)) = Fs ((flxsOf true l p).take j) ++ Fs [flxOf true l k] by
    rw [List.take_add_one, show (flxsOf true l p)[j]? = some (flxOf true l k) by unfold flxsOf; rw [List.getElem?_map, hk]; rfl, Fs_append]
    rfl)
   have hlk : ((flxsOf true l p).take j).length ≤ 16 := by rw [List.length_take]; omega
   have m0 := hM.m.c0
   clear hk hkp hfo
   go_wp2_with (fail)
   refine HN.out.mono ?_
   rintro e w3 ⟨rfl, hx3⟩
   have hC3 := Nat.le_trans hC hx3.size
   have hM3 := hM.keep (hx3.mono hC)
   have hF3 := hoF.below hx3 (Nat.le_refl _)
   have hb3 := hb.trans (hx3.mono (by omega))
   have hF3b := hF3.lt
   obtain ⟨g13, hg13⟩ : ∃ g, w3.heap.size = g := ⟨_, rfl⟩
   rw [hg13] at hC3 hF3b
   have HF3B := Lib.hid hF3b
   clear hM hoF hb hx3 ck m0 hF3b
   have hM5 := hM3.keep ((Below.of_alloc w3 (.cells #[.int .i64 (natS l k).1, .int .i64 (natS l k).2] 150)).mono (by omega))
   have hF5 := hF3.alloc (.cells #[.int .i64 (natS l k).1, .int .i64 (natS l k).2] 150)
   have hb5 := hb3.alloc (show S ≤ _ by have := hb3.size; omega) (.cells #[.int .i64 (natS l k).1, .int .i64 (natS l k).2] 150)
   have hK5 := Keep.new w3 (.cells #[.int .i64 (natS l k).1, .int .i64 (natS l k).2] 150)
   have hC5 : C ≤ (w3.alloc (.cells #[.int .i64 (natS l k).1, .int .i64 (natS l k).2] 150)).heap.size := by rw [World.size_alloc]; omega
   rw [hg13] at hK5
   clear hM3 hF3 hb3
   go_upto_region 11 with fail
   generalize w3.alloc (.cells #[.int .i64 (natS l k).1, .int .i64 (natS l k).2] 150) = W5 at *
   clear hg13
   have hgl := hK5.lt
   have hMd := hM5.drew
   have hFd := hF5.drew
   have hbd5 := hb5.drew
   have hKd := hK5.drew
   have hCd : C ≤ W5.drew.heap.size := hC5
   have m0 : ∀ w9, Below C W5.drew w9 → w9.cell? ⟨S + 1, 0, none⟩ = some (.slice (some ⟨bt, ot, none⟩) l.length ct) := fun w9 h => (hMd.keep h).m.c0
   have HM0 := Lib.hid m0
   have HTC := Lib.hid (fun w9 (h : Below C W5.drew w9) => show Cells9 w9 bt (ot + k * 9) (bx l k) by
    obtain ⟨b', o', e, _, _, hc⟩ := bx_cells (HW0.out w9 (hbd5.trans (h.mono (by omega)))) hkl
    cases e
    exact hc)
   go_upto_region 11 with fail
   refine wp_region_held_drew (S := fun w' => Below C W5.drew w' ∧ Keep g13 (.cells #[.int .i64 (natS l k).1, .int .i64 (natS l k).2] 150) w') (by kernel_rfl) ⟨Below.refl _ _, hKd⟩ (fun hS => ?_)
   clear hM5 hF5 hb5 hK5 hC5 m0
   generalize W5.drew = wd at *
   refine hTk hS 0 49 rfl (v := ?_) ?_ ?_
   rotate_left
   ·intro _ _; go_simp; first | done | with_reducible rfl
   simp only [Act.put, lsA, ls0, ls1]
   refine hTk hS 1 50 rfl (v := ?_) ?_ ?_
   rotate_left
   ·intro _ _; go_simp; first | done | with_reducible rfl
   simp only [Act.put, lsA, ls0, ls1]
   refine hTk hS 2 51 rfl (v := ?_) ?_ ?_
   rotate_left
   ·intro w9 hS9; have q := hS9.2.cell 0; go_simp; first | done | with_reducible rfl
   simp only [Act.put, lsA, ls0, ls1]
   refine hTk hS 3 52 rfl (v := ?_) ?_ ?_
   rotate_left
   ·intro _ _; go_simp; first | done | with_reducible rfl
   simp only [Act.put, lsA, ls0, ls1]
   refine hTk hS 4 53 rfl (v := ?_) ?_ ?_
   rotate_left
   ·intro _ _; go_simp; first | done | with_reducible rfl
   simp only [Act.put, lsA, ls0, ls1]
   refine hTk hS 5 54 rfl (v := ?_) ?_ ?_
   rotate_left
   ·intro _ _; go_simp; first | done | with_reducible rfl
   simp only [Act.put, lsA, ls0, ls1]
   refine hTk hS 6 55 rfl (v := ?_) ?_ ?_
   rotate_left
   ·intro w9 hS9; have q := HM0.out _ hS9.1; go_simp; first | done | with_reducible rfl
   simp only [Act.put, lsA, ls0, ls1]
   refine hTk hS 7 56 rfl (v := ?_) ?_ ?_
   rotate_left
   ·intro _ _; go_simp; first | done | with_reducible rfl
   simp only [Act.put, lsA, ls0, ls1]
   refine hTk hS 8 57 rfl (v := ?_) ?_ ?_
   rotate_left
   ·intro _ _; go_simp; first | done | with_reducible rfl
   simp only [Act.put, lsA, ls0, ls1]
   refine hTk hS 9 58 rfl (v := ?_) ?_ ?_
   rotate_left
   ·intro _ _; go_simp; first | done | with_reducible rfl
   simp only [Act.put, lsA, ls0, ls1]
   refine hTk hS 10 59 rfl (v := ?_) ?_ ?_
   rotate_left
   ·intro w9 hS9; obtain ⟨q0, q1, q2, q3, q4, q5, q6, q7, q8⟩ := HTC.out _ hS9.1; go_simp; first | done | with_reducible rfl
   simp only [Act.put, lsA, ls0, ls1]
   refine hTk hS 11 60 rfl (v := ?_) ?_ ?_
   rotate_left
   ·intro _ _; go_simp; first | done | with_reducible rfl
   simp only [Act.put, lsA, ls0, ls1]
   refine hTk hS 12 61 rfl (v := ?_) ?_ ?_
   rotate_left
   ·intro _ _; go_simp; first | done | with_reducible rfl
   simp only [Act.put, lsA, ls0, ls1]
   refine hTk hS 13 62 rfl (v := ?_) ?_ ?_
   rotate_left
   ·intro _ _; go_simp; first | done | with_reducible rfl
   simp only [Act.put, lsA, ls0, ls1]
   refine hTk hS 14 63 rfl (v := ?_) ?_ ?_
   rotate_left
   ·intro w9 hS9; have q := HM0.out _ hS9.1; go_simp; first | done | with_reducible rfl
   simp only [Act.put, lsA, ls0, ls1]
   refine hTk hS 15 64 rfl (v := ?_) ?_ ?_
   rotate_left
   ·intro _ _; go_simp; first | done | with_reducible rfl
   simp only [Act.put, lsA, ls0, ls1]
   refine hTk hS 16 65 rfl (v := ?_) ?_ ?_
   rotate_left
   ·intro _ _; go_simp; first | done | with_reducible rfl
   simp only [Act.put, lsA, ls0, ls1]
   refine hTk hS 17 66 rfl (v := ?_) ?_ ?_
   rotate_left
   ·intro _ _; go_simp; first | done | with_reducible rfl
   simp only [Act.put, lsA, ls0, ls1]
   refine hTk hS 18 67 rfl (v := ?_) ?_ ?_
   rotate_left
   ·intro w9 hS9; obtain ⟨q0, q1, q2, q3, q4, q5, q6, q7, q8⟩ := HTC.out _ hS9.1; go_simp; first | done | with_reducible rfl
   simp only [Act.put, lsA, ls0, ls1]
   refine hTk hS 19 68 rfl (v := ?_) ?_ ?_
   rotate_left
   ·intro _ _; go_simp; first | done | with_reducible rfl
   simp only [Act.put, lsA, ls0, ls1]
   refine wpAnyH_ready (rs := [20]) (by kernel_rfl) (by simp) ?_
   refine AllReadyH.cons (o := _) rfl (fun K9 hK9 => ?_) AllReadyH.nil
   go_simp
   refine hK9.out _ _ ⟨hS.1.alloc hCd _, hS.2.alloc _⟩ (fun hS => ?_)
   clear hK9 K9
   try simp only [Act.put, lsA, ls0, ls1]
   refine wpAnyH_ready (rs := [21]) (by kernel_rfl) (by simp) ?_
   refine AllReadyH.cons (o := _) rfl (fun K9 hK9 => ?_) AllReadyH.nil
   refine step_app rfl _ _ _ rfl el_flex rfl (hFd.alloc _) rfl (show Rd _ 5 _ (Fs [flxOf true l k]) from Rd.oneAt _ _ rfl) (Fs_one _) ?hl ?hb ?hK
   case hl => rw [Fs_length, Fs_length]; simp only [List.length_singleton]; omega
   case hb => exact Nat.le_trans hCd (Below.of_alloc wd _).size
   intro v' w7 ho7 hg7 hf7
   have hb7 := below_app hS.1 (hFd.alloc _) hg7 (Nat.le_trans hCd (Below.of_alloc wd _).size) (Nat.le_refl _)
   have hk7 : Keep g13 (.cells #[.int .i64 (natS l k).1, .int .i64 (natS l k).2] 150) w7 := by
    have h := hS.2
    unfold Keep
    rw [hg7.block g13 h.lt (fun e => by have := (HF3B.out _ e.symm).2; omega)]
    exact h
   refine hK9.out _ _ ⟨hb7, hk7⟩ (fun hS => ?_)
   clear hK9 K9
   try simp only [Act.put, List.setIfInBounds_toArray]
   refine wpAnyH_ready (rs := [22]) (by kernel_rfl) (by simp) ?_
   refine AllReadyH.cons (o := _) rfl (fun K9 hK9 => ?_) AllReadyH.nil
   go_simp
   refine hK9.out _ _ hS (fun hS => ?_)
   clear hK9 K9
   try simp only [Act.put, lsA, ls0, ls1]
   refine wpAnyH_done (by kernel_rfl) ?_ _
   have hM7 := hMd.keep hb7
   have hbb7 := hbd5.trans (hb7.mono (by omega))
   have hC7 := Nat.le_trans hCd hb7.size
   clear hS hk7 hg7 hf7 hKd hFd hMd hbd5 hb7
   go_wp2
   go_roundw
   case rel => exact ⟨j + 1, by omega, by go_num, by rw [ET.out]; exact ho7, hM7, hbb7, hC7⟩
   case measure => simp [intOf]; omega
  ·obtain rfl : j = (kid l (p : Int)).length := by omega
   rw [List.take_of_length_le (by rw [flxs_length]; exact Nat.le_refl _)] at hoF
   have hg1 := gap_le HV.out hp (n := ((kid l (p : Int)).length : Int) - 1) (by omega) (by omega)
   have hsp := spc_le HV.out hp hm1 (space := Q.w) (by omega)
   have hjj : ¬ ((kid l (p : Int)).length : Int) < (kid l (p : Int)).length := by omega
   have HFL : Hid (Calls Tryz.prog 136 #[u10, .int .i64 (spc l p Q.w)] wr fun e w' => ∃ v', e = .returned v' ∧ Own w' wr.heap.size 1 v' (Is (szs true l p Q.w)) ∧ Ext wr w') := Lib.hid (flexed_any wr hoF.rd HFO.out (by rw [flxs_length]; exact hkn) (space := spc l p Q.w) ⟨hsp.1, by omega⟩)
   obtain ⟨q0, q1, q2, q3⟩ := cells4_of (x := Q) hM.r
   have b5 : wr.cell? ⟨w.heap.size, 5, none⟩ = some (.int .i64 (bx l p).gap) := hM.b.cell 5
   have b8 : wr.cell? ⟨w.heap.size, 8, none⟩ = some (.int .i64 (bx l p).justify) := hM.b.cell 8
   have hszr : (szs true l p Q.w).length = (kid l (p : Int)).length := szs_length HV.out _ _ _
   have HSZ := Lib.hid (szs_mem HV.out true p Q.w)
   have HSL := Lib.hid hszr
   have HOFF := Lib.hid (fun (W : World) (v : Value) (h : Rd W 1 v (Is (szs true l p Q.w))) => offsets_any (space := Q.w) (gap := (bx l p).gap) (j := (bx l p).justify) W h (by rw [HSL.out]; omega) (by rw [HSL.out]; omega) HSZ.out (by omega) (by omega) (by omega))
   have hjw : IntKind.i64.wrap (((kid l (p : Int)).length : Int) - 1) = ((kid l (p : Int)).length : Int) - 1 := by rw [IntKind.wrap_i64]; omega
   have hspw : spc l p Q.w ≤ 10000 := by omega
   have hRN : ∀ w9, Below C wr w9 → w9.cell? ⟨g9, 2, none⟩ = some (.int .i64 Q.w) ∧ w9.cell? ⟨w.heap.size, 5, none⟩ = some (.int .i64 (bx l p).gap) ∧ w9.cell? ⟨w.heap.size, 8, none⟩ = some (.int .i64 (bx l p).justify) := fun w9 h => by
    have h9 := hM.keep h
    exact ⟨(cells4_of (x := Q) h9.r).c2, h9.b.cell 5, h9.b.cell 8⟩
   have HRN := Lib.hid hRN
   have HMK2 := Lib.hid (fun w9 (h : Below C wr w9) => hM.keep h)
   have HBK2 := Lib.hid (fun w9 (h : Below C wr w9) => hb.trans (h.mono (Nat.le_trans (Nat.le_add_right _ _) hSC)))
   have HMR := Lib.hid hM
   clear hoF hszr hRN hsp hM hb
   by_cases hneg : Q.w - (bx l p).gap * (((kid l (p : Int)).length : Int) - 1) < 0
   ·have hse : spc l p Q.w = 0 := by unfold spc; omega
    have HSE := Lib.hid hse
    rw [hse] at HFL
    clear hse hspw
    go_wp2_with (fail)
    refine HFL.out.mono ?_
    rintro e w8 ⟨v8, rfl, ho8, hx8⟩
    have hB8 := hx8.mono hC
    obtain ⟨r2, r5, r8⟩ := HRN.out w8 hB8
    clear q0 q1 q2 q3 b5 b8 HFL
    go_wp2_with (fail)
    refine (HOFF.out w8 v8 ho8.rd).mono ?_
    rintro e w10 ⟨v10, rfl, ho10, hx10⟩
    have hB10 := hB8.trans (hx10.mono (Nat.le_trans hC hx8.size))
    have hM10 := HMK2.out w10 hB10
    have hb10 := HBK2.out w10 hB10
    have hC10 := Nat.le_trans (Nat.le_trans hC hx8.size) hx10.size
    have ho8' := (ho8.below hx10 (Nat.le_refl _)).weak hC
    have ho10' := ho10.weak (Nat.le_trans hC hx8.size)
    obtain ⟨a8, c8, rfl, hn8, hc8, _⟩ := ho8'.rd.ints
    obtain ⟨a10, c10, rfl, hn10, hc10, _⟩ := ho10'.rd.ints
    rw [HSL.out] at hn8 ho8' ⊢
    have hofl : (offL (szs true l p Q.w) Q.w (bx l p).gap (bx l p).justify).length = (kid l (p : Int)).length := by rw [offL_length, HSL.out]
    rw [hofl] at hn10 ho10' ⊢
    have HOL := Lib.hid hofl
    unfold maxLen at hc8 hc10
    have HPP : Hid (PutTo l p r 0 R R) := PutTo.zero _ _ _ _
    clear ho8 ho10 hx8 hx10 hB8 hB10 r2 r5 r8 hofl HMK2 HBK2 HRN HOFF
    go_wp2_with (fail)
    go_loopw [93] (fun i wx => ∃ j : Nat, j ≤ (kid l (p : Int)).length ∧ i = .int .i64 j ∧ (∃ R', LnM S w.heap.size g9 C wx (.slice (some ⟨bt, ot, none⟩) l.length ct) (.slice al (kid l (p : Int)).length cl) l p Q R' ∧ Hid (PutTo l p r j R R')) ∧
     Own wx C 1 (.slice a8 (kid l (p : Int)).length c8) (Is (szs true l p Q.w)) ∧ Own wx C 1 (.slice a10 (kid l (p : Int)).length c10) (Is (offL (szs true l p Q.w) Q.w (bx l p).gap (bx l p).justify)) ∧ Below S w wx ∧ C ≤ wx.heap.size) (fun i _ => (kid l (p : Int)).length - (intOf i).toNat)
    case atStart => exact ⟨0, Nat.zero_le _, rfl, ⟨R, hM10, HPP⟩, ho8', ho10', hb10, hC10⟩
    case round =>
     clear hM10 HPP ho8' ho10' hb10 hC10 hC HMR
     obtain ⟨j, hj, rfl, ⟨R', hM, hP⟩, hoS, hoO, hb, hC⟩ := hrel
     by_cases hlt : j < (kid l (p : Int)).length
     ·obtain ⟨k, hk⟩ : ∃ k, (kid l (p : Int))[j]? = some k := ⟨_, List.getElem?_eq_getElem hlt⟩
      obtain ⟨hkl, hkp⟩ := mem_kid_iff.1 (List.mem_of_getElem? hk)
      obtain ⟨ga, oa, rfl, _⟩ := hM.L.rd.intAt (show (ni (kid l (p : Int)))[j]? = some (k : Int) by simp [ni, hk])
      have HLK := Lib.hid (fun w9 R9 (h : LnM S w.heap.size g9 C w9 (.slice (some ⟨bt, ot, none⟩) l.length ct) (.slice (some ⟨ga, oa, none⟩) (kid l (p : Int)).length cl) l p Q R9) => show w9.cell? ⟨ga, oa + j, none⟩ = some (.int .i64 (k : Int)) by
       obtain ⟨b', o', e, h⟩ := h.L.rd.intAt (show (ni (kid l (p : Int)))[j]? = some (k : Int) by simp [ni, hk])
       cases e
       exact h)
      have hszj := szs_get HV.out true Q.w hk
      have hxj := HSZ.out _ (List.mem_of_getElem? hszj)
      have hofj : (offL (szs true l p Q.w) Q.w (bx l p).gap (bx l p).justify)[j]? = some (offK true l p Q.w j) := offL_get (by rw [HSL.out]; exact hlt)
      have hob := offK_le HV.out true hp (space := Q.w) (by omega) hszj
      obtain ⟨g1, o1, rfl, ck8⟩ := hoS.rd.intAt hszj
      obtain ⟨g2, o2, rfl, ck10⟩ := hoO.rd.intAt hofj
      have HPS := Lib.hid (fun (R' : List Rc) (h : PutTo l p r j R R') (hl : k < R'.length) => h.step hk hl)
      have HRE := Lib.hid (HPQ.out j k)
      have hji : (j : Int) < (kid l (p : Int)).length := by omega
      have hki : (k : Int) < l.length := by omega
      have hkw : IntKind.i64.wrap ((j : Int) + 1) = (j : Int) + 1 := by rw [IntKind.wrap_i64]; omega
      have HF1 := Lib.hid (fun w9 (h : Below wr.drew.heap.size wr.drew w9) => And.intro (cells4_of (x := Q) (hM.drew.keep (h.mono hC)).r) (cell_below h (show wr.drew.cell? ⟨g1, o1 + j, none⟩ = some (.int .i64 ((szs true l p Q.w).getD j 0)) from ck8)))
      have hM1 := hM.drew
      have hoS1 := hoS.drew
      have hoO1 := hoO.drew
      have hb1 := hb.drew
      have hC1 : C ≤ wr.drew.heap.size := hC
      have HQB := Lib.hid hQb
      clear hk hkp hszj hofj
      generalize (szs true l p Q.w).getD j 0 = sz at *
      generalize offK true l p Q.w j = of at *
      go_upto_region 17 with fail
      refine wp_region_held_drew (S := fun w' => Below wr.drew.heap.size wr.drew w') (by kernel_rfl) (Below.refl _ _) (fun hS => ?_)
      clear hM hoS hoO hb hC ck8 ck10
      generalize wr.drew = wd at *
      refine hTk hS 0 98 rfl (v := ?_) ?_ ?_
      rotate_left
      ·intro _ _; go_simp; first | done | with_reducible rfl
      simp only [Act.put, lsA, ls0, ls1]
      refine hTk hS 1 99 rfl (v := ?_) ?_ ?_
      rotate_left
      ·intro w9 hS9; obtain ⟨⟨q0, q1, q2, q3⟩, _⟩ := HF1.out _ hS9; go_simp; first | done | with_reducible rfl
      simp only [Act.put, lsA, ls0, ls1]
      refine hTk hS 2 100 rfl (v := ?_) ?_ ?_
      rotate_left
      ·intro _ _; go_simp; first | done | with_reducible rfl
      simp only [Act.put, lsA, ls0, ls1]
      refine hTk hS 3 101 rfl (v := ?_) ?_ ?_
      rotate_left
      ·intro _ _; go_simp; first | done | with_reducible rfl
      simp only [Act.put, lsA, ls0, ls1]
      refine hTk hS 4 102 rfl (v := ?_) ?_ ?_
      rotate_left
      ·intro _ _; go_simp; first | done | with_reducible rfl
      simp only [Act.put, lsA, ls0, ls1]
      refine hTk hS 5 103 rfl (v := ?_) ?_ ?_
      rotate_left
      ·intro w9 hS9; obtain ⟨⟨q0, q1, q2, q3⟩, _⟩ := HF1.out _ hS9; go_simp; first | done | with_reducible rfl
      simp only [Act.put, lsA, ls0, ls1]
      refine hTk hS 6 104 rfl (v := ?_) ?_ ?_
      rotate_left
      ·intro _ _; go_simp; first | done | with_reducible rfl
      simp only [Act.put, lsA, ls0, ls1]
      refine hTk hS 7 105 rfl (v := ?_) ?_ ?_
      rotate_left
      ·intro _ _; go_simp; first | done | with_reducible rfl
      simp only [Act.put, lsA, ls0, ls1]
      refine hTk hS 8 106 rfl (v := ?_) ?_ ?_
      rotate_left
      ·intro _ _; go_simp; first | done | with_reducible rfl
      simp only [Act.put, lsA, ls0, ls1]
      refine hTk hS 9 107 rfl (v := ?_) ?_ ?_
      rotate_left
      ·intro w9 hS9; obtain ⟨_, q4⟩ := HF1.out _ hS9; go_simp; first | done | with_reducible rfl
      simp only [Act.put, lsA, ls0, ls1]
      refine hTk hS 10 108 rfl (v := ?_) ?_ ?_
      rotate_left
      ·intro _ _; go_simp; first | done | with_reducible rfl
      simp only [Act.put, lsA, ls0, ls1]
      refine hTk hS 11 109 rfl (v := ?_) ?_ ?_
      rotate_left
      ·intro w9 hS9; obtain ⟨⟨q0, q1, q2, q3⟩, _⟩ := HF1.out _ hS9; go_simp; first | done | with_reducible rfl
      simp only [Act.put, lsA, ls0, ls1]
      refine hTk hS 12 110 rfl (v := ?_) ?_ ?_
      rotate_left
      ·intro _ _; go_simp; first | done | with_reducible rfl
      simp only [Act.put, lsA, ls0, ls1]
      have hS0 : Below wd.heap.size wd wd := Below.refl _ _
      have hww : IntKind.i64.wrap (Q.x + of) = Q.x + of := by rw [IntKind.wrap_i64]; omega
      refine wpAnyH_ready (rs := [13]) (by kernel_rfl) (by simp) ?_
      refine AllReadyH.cons (o := _) rfl (fun K9 hK9 => ?_) AllReadyH.nil
      go_simp
      refine hK9.out _ _ (hS0.alloc (Nat.le_refl _) _) (fun hS => ?_)
      clear hK9 K9
      try simp only [Act.put, lsA, ls0, ls1]
      refine wpAnyH_ready (rs := [14]) (by kernel_rfl) (by simp) ?_
      refine AllReadyH.cons (o := _) rfl (fun K9 hK9 => ?_) AllReadyH.nil
      go_simp
      refine hK9.out _ _ (hS0.alloc (Nat.le_refl _) _) (fun hS => ?_)
      clear hK9 K9
      try simp only [Act.put, lsA, ls0, ls1]
      refine wpAnyH_done (by kernel_rfl) ?_ _
      have hB7 : Below wd.heap.size wd (wd.alloc (.cells #[.int .i64 (Q.x + of), .int .i64 Q.y, .int .i64 sz, .int .i64 Q.h] 96)) := hS0.alloc (Nat.le_refl _) _
      have hK7 := Keep.new wd (.cells #[.int .i64 (Q.x + of), .int .i64 Q.y, .int .i64 sz, .int .i64 Q.h] 96)
      clear hS hS0
      generalize hW7 : wd.alloc (.cells #[.int .i64 (Q.x + of), .int .i64 Q.y, .int .i64 sz, .int .i64 Q.h] 96) = W7 at *
      clear hW7
      go_upto_region 20 with fail
      have hB8 := hB7
      have hK8 := hK7
      clear hB7 hK7
      generalize W7 = W8 at *
      have hM8 := hM1.keep (hB8.mono hC1)
      have hS8 := hoS1.below hB8 (Nat.le_refl _)
      have hO8 := hoO1.below hB8 (Nat.le_refl _)
      have hb8 := hb1.trans (hB8.mono (by omega))
      have hC8 := Nat.le_trans hC1 hB8.size
      have d0 : W8.drew.cell? ⟨S + 1, 1, none⟩ = some (.slice (some ⟨S, 0, none⟩) l.length l.length) := hM8.m.c1
      have d1 : W8.drew.cell? ⟨ga, oa + j, none⟩ = some (.int .i64 (k : Int)) := HLK.out _ _ hM8.drew
      have e0 : W8.drew.cell? ⟨wd.heap.size, 0, none⟩ = some (.int .i64 (Q.x + of)) := hK8.cell 0
      have e1 : W8.drew.cell? ⟨wd.heap.size, 1, none⟩ = some (.int .i64 (Q.y)) := hK8.cell 1
      have e2 : W8.drew.cell? ⟨wd.heap.size, 2, none⟩ = some (.int .i64 (sz)) := hK8.cell 2
      have e3 : W8.drew.cell? ⟨wd.heap.size, 3, none⟩ = some (.int .i64 (Q.h)) := hK8.cell 3
      go_still_tail 10, (by kernel_rfl)
      repeat still_step
      try refine wpStill_nil ?_
      change wpList _ _ _ _ _ W8.drew
      have hM9 := hM8.drew
      have hS9' := hS8.drew
      have hO9 := hO8.drew
      have hb9 := hb8.drew
      have hC9 : C ≤ W8.drew.heap.size := hC8
      clear d0 d1 e0 e1 e2 e3 hM8 hS8 hO8 hb8 hC8 hK8 hB8 hM1 hoS1 hoO1 hb1 hC1
      generalize W8.drew = w9 at *
      have hkR : k < R'.length := by rw [hM9.m.len]; exact hkl
      obtain ⟨x, hx⟩ : ∃ x, R'[k]? = some x := ⟨_, List.getElem?_eq_getElem hkR⟩
      obtain ⟨y0, y1, y2, y3⟩ := hM9.m.at hx
      have hfz := (hM9.m.set hkl).1
      have f0 := hfz (k * 4)
      have f1 := hfz (k * 4 + 1)
      have f2 := hfz (k * 4 + 2)
      have f3 := hfz (k * 4 + 3)
      have HM9 := Lib.hid (hM9.set HS89.out.1 HS89.out.2 hkl (Q.x + of) (Q.y) (sz) (Q.h))
      have HSS := Lib.hid (own_set4 (g2 := S) (o1 := k * 4) (o2 := k * 4 + 1) (o3 := k * 4 + 2) (o4 := k * 4 + 3) hS9' (fun e => by have := (hS9'.lt _ e).1; omega) (.int .i64 (Q.x + of)) (.int .i64 (Q.y)) (.int .i64 (sz)) (.int .i64 (Q.h)))
      have HOO := Lib.hid (own_set4 (g2 := S) (o1 := k * 4) (o2 := k * 4 + 1) (o3 := k * 4 + 2) (o4 := k * 4 + 3) hO9 (fun e => by have := (hO9.lt _ e).1; omega) (.int .i64 (Q.x + of)) (.int .i64 (Q.y)) (.int .i64 (sz)) (.int .i64 (Q.h)))
      have HBB := Lib.hid (below_set4 (g := S) (o1 := k * 4) (o2 := k * 4 + 1) (o3 := k * 4 + 2) (o4 := k * 4 + 3) hb9 (Nat.le_refl _) (.int .i64 (Q.x + of)) (.int .i64 (Q.y)) (.int .i64 (sz)) (.int .i64 (Q.h)))
      have HP9 := Lib.hid (HPS.out R' hP.out hkR)
      clear hM9 hS9' hO9 hb9 hfz hx
      go_wp2
      go_roundw
      case rel =>
       refine ⟨j + 1, by omega, by go_num, ⟨_, HM9.out, ?_⟩, HSS.out, HOO.out, HBB.out, by simp [World.setCell]; omega⟩
       have h := HP9.out
       rw [HRE.out] at h
       exact h
      case measure => simp [intOf]; omega
     ·obtain rfl : j = (kid l (p : Int)).length := by omega
      have HBE := Lib.hid hb
      have HME := Lib.hid hM.m
      clear hb hM
      go_wp2_with (fail)
      go_end0
      exact ⟨rfl, R', HME.out, HBE.out, hP.out⟩
   ·have hse : spc l p Q.w = Q.w - (bx l p).gap * (((kid l (p : Int)).length : Int) - 1) := by unfold spc; omega
    have HSE := Lib.hid hse
    rw [hse] at HFL
    clear hse hspw
    go_wp2_with (fail)
    refine HFL.out.mono ?_
    rintro e w8 ⟨v8, rfl, ho8, hx8⟩
    have hB8 := hx8.mono hC
    obtain ⟨r2, r5, r8⟩ := HRN.out w8 hB8
    clear q0 q1 q2 q3 b5 b8 HFL
    go_wp2_with (fail)
    refine (HOFF.out w8 v8 ho8.rd).mono ?_
    rintro e w10 ⟨v10, rfl, ho10, hx10⟩
    have hB10 := hB8.trans (hx10.mono (Nat.le_trans hC hx8.size))
    have hM10 := HMK2.out w10 hB10
    have hb10 := HBK2.out w10 hB10
    have hC10 := Nat.le_trans (Nat.le_trans hC hx8.size) hx10.size
    have ho8' := (ho8.below hx10 (Nat.le_refl _)).weak hC
    have ho10' := ho10.weak (Nat.le_trans hC hx8.size)
    obtain ⟨a8, c8, rfl, hn8, hc8, _⟩ := ho8'.rd.ints
    obtain ⟨a10, c10, rfl, hn10, hc10, _⟩ := ho10'.rd.ints
    rw [HSL.out] at hn8 ho8' ⊢
    have hofl : (offL (szs true l p Q.w) Q.w (bx l p).gap (bx l p).justify).length = (kid l (p : Int)).length := by rw [offL_length, HSL.out]
    rw [hofl] at hn10 ho10' ⊢
    have HOL := Lib.hid hofl
    unfold maxLen at hc8 hc10
    have HPP : Hid (PutTo l p r 0 R R) := PutTo.zero _ _ _ _
    clear ho8 ho10 hx8 hx10 hB8 hB10 r2 r5 r8 hofl HMK2 HBK2 HRN HOFF
    go_wp2_with (fail)
    go_loopw [93] (fun i wx => ∃ j : Nat, j ≤ (kid l (p : Int)).length ∧ i = .int .i64 j ∧ (∃ R', LnM S w.heap.size g9 C wx (.slice (some ⟨bt, ot, none⟩) l.length ct) (.slice al (kid l (p : Int)).length cl) l p Q R' ∧ Hid (PutTo l p r j R R')) ∧
     Own wx C 1 (.slice a8 (kid l (p : Int)).length c8) (Is (szs true l p Q.w)) ∧ Own wx C 1 (.slice a10 (kid l (p : Int)).length c10) (Is (offL (szs true l p Q.w) Q.w (bx l p).gap (bx l p).justify)) ∧ Below S w wx ∧ C ≤ wx.heap.size) (fun i _ => (kid l (p : Int)).length - (intOf i).toNat)
    case atStart => exact ⟨0, Nat.zero_le _, rfl, ⟨R, hM10, HPP⟩, ho8', ho10', hb10, hC10⟩
    case round =>
     clear hM10 HPP ho8' ho10' hb10 hC10 hC HMR
     obtain ⟨j, hj, rfl, ⟨R', hM, hP⟩, hoS, hoO, hb, hC⟩ := hrel
     by_cases hlt : j < (kid l (p : Int)).length
     ·obtain ⟨k, hk⟩ : ∃ k, (kid l (p : Int))[j]? = some k := ⟨_, List.getElem?_eq_getElem hlt⟩
      obtain ⟨hkl, hkp⟩ := mem_kid_iff.1 (List.mem_of_getElem? hk)
      obtain ⟨ga, oa, rfl, _⟩ := hM.L.rd.intAt (show (ni (kid l (p : Int)))[j]? = some (k : Int) by simp [ni, hk])
      have HLK := Lib.hid (fun w9 R9 (h : LnM S w.heap.size g9 C w9 (.slice (some ⟨bt, ot, none⟩) l.length ct) (.slice (some ⟨ga, oa, none⟩) (kid l (p : Int)).length cl) l p Q R9) => show w9.cell? ⟨ga, oa + j, none⟩ = some (.int .i64 (k : Int)) by
       obtain ⟨b', o', e, h⟩ := h.L.rd.intAt (show (ni (kid l (p : Int)))[j]? = some (k : Int) by simp [ni, hk])
       cases e
       exact h)
      have hszj := szs_get HV.out true Q.w hk
      have hxj := HSZ.out _ (List.mem_of_getElem? hszj)
      have hofj : (offL (szs true l p Q.w) Q.w (bx l p).gap (bx l p).justify)[j]? = some (offK true l p Q.w j) := offL_get (by rw [HSL.out]; exact hlt)
      have hob := offK_le HV.out true hp (space := Q.w) (by omega) hszj
      obtain ⟨g1, o1, rfl, ck8⟩ := hoS.rd.intAt hszj
      obtain ⟨g2, o2, rfl, ck10⟩ := hoO.rd.intAt hofj
      have HPS := Lib.hid (fun (R' : List Rc) (h : PutTo l p r j R R') (hl : k < R'.length) => h.step hk hl)
      have HRE := Lib.hid (HPQ.out j k)
      have hji : (j : Int) < (kid l (p : Int)).length := by omega
      have hki : (k : Int) < l.length := by omega
      have hkw : IntKind.i64.wrap ((j : Int) + 1) = (j : Int) + 1 := by rw [IntKind.wrap_i64]; omega
      have HF1 := Lib.hid (fun w9 (h : Below wr.drew.heap.size wr.drew w9) => And.intro (cells4_of (x := Q) (hM.drew.keep (h.mono hC)).r) (cell_below h (show wr.drew.cell? ⟨g1, o1 + j, none⟩ = some (.int .i64 ((szs true l p Q.w).getD j 0)) from ck8)))
      have hM1 := hM.drew
      have hoS1 := hoS.drew
      have hoO1 := hoO.drew
      have hb1 := hb.drew
      have hC1 : C ≤ wr.drew.heap.size := hC
      have HQB := Lib.hid hQb
      clear hk hkp hszj hofj
      generalize (szs true l p Q.w).getD j 0 = sz at *
      generalize offK true l p Q.w j = of at *
      go_upto_region 17 with fail
      refine wp_region_held_drew (S := fun w' => Below wr.drew.heap.size wr.drew w') (by kernel_rfl) (Below.refl _ _) (fun hS => ?_)
      clear hM hoS hoO hb hC ck8 ck10
      generalize wr.drew = wd at *
      refine hTk hS 0 98 rfl (v := ?_) ?_ ?_
      rotate_left
      ·intro _ _; go_simp; first | done | with_reducible rfl
      simp only [Act.put, lsA, ls0, ls1]
      refine hTk hS 1 99 rfl (v := ?_) ?_ ?_
      rotate_left
      ·intro w9 hS9; obtain ⟨⟨q0, q1, q2, q3⟩, _⟩ := HF1.out _ hS9; go_simp; first | done | with_reducible rfl
      simp only [Act.put, lsA, ls0, ls1]
      refine hTk hS 2 100 rfl (v := ?_) ?_ ?_
      rotate_left
      ·intro _ _; go_simp; first | done | with_reducible rfl
      simp only [Act.put, lsA, ls0, ls1]
      refine hTk hS 3 101 rfl (v := ?_) ?_ ?_
      rotate_left
      ·intro _ _; go_simp; first | done | with_reducible rfl
      simp only [Act.put, lsA, ls0, ls1]
      refine hTk hS 4 102 rfl (v := ?_) ?_ ?_
      rotate_left
      ·intro _ _; go_simp; first | done | with_reducible rfl
      simp only [Act.put, lsA, ls0, ls1]
      refine hTk hS 5 103 rfl (v := ?_) ?_ ?_
      rotate_left
      ·intro w9 hS9; obtain ⟨⟨q0, q1, q2, q3⟩, _⟩ := HF1.out _ hS9; go_simp; first | done | with_reducible rfl
      simp only [Act.put, lsA, ls0, ls1]
      refine hTk hS 6 104 rfl (v := ?_) ?_ ?_
      rotate_left
      ·intro _ _; go_simp; first | done | with_reducible rfl
      simp only [Act.put, lsA, ls0, ls1]
      refine hTk hS 7 105 rfl (v := ?_) ?_ ?_
      rotate_left
      ·intro _ _; go_simp; first | done | with_reducible rfl
      simp only [Act.put, lsA, ls0, ls1]
      refine hTk hS 8 106 rfl (v := ?_) ?_ ?_
      rotate_left
      ·intro _ _; go_simp; first | done | with_reducible rfl
      simp only [Act.put, lsA, ls0, ls1]
      refine hTk hS 9 107 rfl (v := ?_) ?_ ?_
      rotate_left
      ·intro w9 hS9; obtain ⟨_, q4⟩ := HF1.out _ hS9; go_simp; first | done | with_reducible rfl
      simp only [Act.put, lsA, ls0, ls1]
      refine hTk hS 10 108 rfl (v := ?_) ?_ ?_
      rotate_left
      ·intro _ _; go_simp; first | done | with_reducible rfl
      simp only [Act.put, lsA, ls0, ls1]
      refine hTk hS 11 109 rfl (v := ?_) ?_ ?_
      rotate_left
      ·intro w9 hS9; obtain ⟨⟨q0, q1, q2, q3⟩, _⟩ := HF1.out _ hS9; go_simp; first | done | with_reducible rfl
      simp only [Act.put, lsA, ls0, ls1]
      refine hTk hS 12 110 rfl (v := ?_) ?_ ?_
      rotate_left
      ·intro _ _; go_simp; first | done | with_reducible rfl
      simp only [Act.put, lsA, ls0, ls1]
      have hS0 : Below wd.heap.size wd wd := Below.refl _ _
      have hww : IntKind.i64.wrap (Q.x + of) = Q.x + of := by rw [IntKind.wrap_i64]; omega
      refine wpAnyH_ready (rs := [13]) (by kernel_rfl) (by simp) ?_
      refine AllReadyH.cons (o := _) rfl (fun K9 hK9 => ?_) AllReadyH.nil
      go_simp
      refine hK9.out _ _ (hS0.alloc (Nat.le_refl _) _) (fun hS => ?_)
      clear hK9 K9
      try simp only [Act.put, lsA, ls0, ls1]
      refine wpAnyH_ready (rs := [14]) (by kernel_rfl) (by simp) ?_
      refine AllReadyH.cons (o := _) rfl (fun K9 hK9 => ?_) AllReadyH.nil
      go_simp
      refine hK9.out _ _ (hS0.alloc (Nat.le_refl _) _) (fun hS => ?_)
      clear hK9 K9
      try simp only [Act.put, lsA, ls0, ls1]
      refine wpAnyH_done (by kernel_rfl) ?_ _
      have hB7 : Below wd.heap.size wd (wd.alloc (.cells #[.int .i64 (Q.x + of), .int .i64 Q.y, .int .i64 sz, .int .i64 Q.h] 96)) := hS0.alloc (Nat.le_refl _) _
      have hK7 := Keep.new wd (.cells #[.int .i64 (Q.x + of), .int .i64 Q.y, .int .i64 sz, .int .i64 Q.h] 96)
      clear hS hS0
      generalize hW7 : wd.alloc (.cells #[.int .i64 (Q.x + of), .int .i64 Q.y, .int .i64 sz, .int .i64 Q.h] 96) = W7 at *
      clear hW7
      go_upto_region 20 with fail
      have hB8 := hB7
      have hK8 := hK7
      clear hB7 hK7
      generalize W7 = W8 at *
      have hM8 := hM1.keep (hB8.mono hC1)
      have hS8 := hoS1.below hB8 (Nat.le_refl _)
      have hO8 := hoO1.below hB8 (Nat.le_refl _)
      have hb8 := hb1.trans (hB8.mono (by omega))
      have hC8 := Nat.le_trans hC1 hB8.size
      have d0 : W8.drew.cell? ⟨S + 1, 1, none⟩ = some (.slice (some ⟨S, 0, none⟩) l.length l.length) := hM8.m.c1
      have d1 : W8.drew.cell? ⟨ga, oa + j, none⟩ = some (.int .i64 (k : Int)) := HLK.out _ _ hM8.drew
      have e0 : W8.drew.cell? ⟨wd.heap.size, 0, none⟩ = some (.int .i64 (Q.x + of)) := hK8.cell 0
      have e1 : W8.drew.cell? ⟨wd.heap.size, 1, none⟩ = some (.int .i64 (Q.y)) := hK8.cell 1
      have e2 : W8.drew.cell? ⟨wd.heap.size, 2, none⟩ = some (.int .i64 (sz)) := hK8.cell 2
      have e3 : W8.drew.cell? ⟨wd.heap.size, 3, none⟩ = some (.int .i64 (Q.h)) := hK8.cell 3
      go_still_tail 10, (by kernel_rfl)
      repeat still_step
      try refine wpStill_nil ?_
      change wpList _ _ _ _ _ W8.drew
      have hM9 := hM8.drew
      have hS9' := hS8.drew
      have hO9 := hO8.drew
      have hb9 := hb8.drew
      have hC9 : C ≤ W8.drew.heap.size := hC8
      clear d0 d1 e0 e1 e2 e3 hM8 hS8 hO8 hb8 hC8 hK8 hB8 hM1 hoS1 hoO1 hb1 hC1
      generalize W8.drew = w9 at *
      have hkR : k < R'.length := by rw [hM9.m.len]; exact hkl
      obtain ⟨x, hx⟩ : ∃ x, R'[k]? = some x := ⟨_, List.getElem?_eq_getElem hkR⟩
      obtain ⟨y0, y1, y2, y3⟩ := hM9.m.at hx
      have hfz := (hM9.m.set hkl).1
      have f0 := hfz (k * 4)
      have f1 := hfz (k * 4 + 1)
      have f2 := hfz (k * 4 + 2)
      have f3 := hfz (k * 4 + 3)
      have HM9 := Lib.hid (hM9.set HS89.out.1 HS89.out.2 hkl (Q.x + of) (Q.y) (sz) (Q.h))
      have HSS := Lib.hid (own_set4 (g2 := S) (o1 := k * 4) (o2 := k * 4 + 1) (o3 := k * 4 + 2) (o4 := k * 4 + 3) hS9' (fun e => by have := (hS9'.lt _ e).1; omega) (.int .i64 (Q.x + of)) (.int .i64 (Q.y)) (.int .i64 (sz)) (.int .i64 (Q.h)))
      have HOO := Lib.hid (own_set4 (g2 := S) (o1 := k * 4) (o2 := k * 4 + 1) (o3 := k * 4 + 2) (o4 := k * 4 + 3) hO9 (fun e => by have := (hO9.lt _ e).1; omega) (.int .i64 (Q.x + of)) (.int .i64 (Q.y)) (.int .i64 (sz)) (.int .i64 (Q.h)))
      have HBB := Lib.hid (below_set4 (g := S) (o1 := k * 4) (o2 := k * 4 + 1) (o3 := k * 4 + 2) (o4 := k * 4 + 3) hb9 (Nat.le_refl _) (.int .i64 (Q.x + of)) (.int .i64 (Q.y)) (.int .i64 (sz)) (.int .i64 (Q.h)))
      have HP9 := Lib.hid (HPS.out R' hP.out hkR)
      clear hM9 hS9' hO9 hb9 hfz hx
      go_wp2
      go_roundw
      case rel =>
       refine ⟨j + 1, by omega, by go_num, ⟨_, HM9.out, ?_⟩, HSS.out, HOO.out, HBB.out, by simp [World.setCell]; omega⟩
       have h := HP9.out
       rw [HRE.out] at h
       exact h
      case measure => simp [intOf]; omega
     ·obtain rfl : j = (kid l (p : Int)).length := by omega
      have HBE := Lib.hid hb
      have HME := Lib.hid hM.m
      clear hb hM
      go_wp2_with (fail)
      go_end0
      exact ⟨rfl, R', HME.out, HBE.out, hP.out⟩
set_option maxRecDepth 100000 in
set_option maxHeartbeats 4000000 in
theorem lineCol_any {S p B : Nat} {tv lv : Value} {l : List Bx} {R : List Rc} {r : Rc} (w : World) (hM : LyM S w tv l.length R) (hrd : Rd w 9 tv (Bs l)) (hw0 : ∀ w', Below S w w' → Rd w' 9 tv (Bs l)) (hv : Valid l) (hp : p < l.length) (hr : R[p]? = some r) (hs : RB 100000 r)
 (hL : Own w B 1 lv (Is (ni (kid l (p : Int))))) (hB : S < B) (hk : (bx l p).kind = 3) (hne : kid l (p : Int) ≠ []) :
 Calls Tryz.prog 114 #[.pointer (some ⟨S + 1, 0, none⟩), .int .i64 (p : Int), lv, .bool true] w fun x w' => x = .returned (.tuple #[]) ∧ ∃ R', LyM S w' tv l.length R' ∧ Below S w w' ∧ PutTo l p r (kid l (p : Int)).length R R' := by
 have hbd := okB_bounds (hv.ok p (by omega))
 have hin := inset_ok (r := r) (e := (bx l p).pad) (by omega) (by obtain ⟨_, _, _, _, h5, h6, _, _⟩ := hs; exact ⟨h5, h6⟩) (by obtain ⟨_, _, _, _, _, _, h7, h8⟩ := hs; exact ⟨h7, h8⟩)
 have hsz0 := hM.lt
 have HV := Lib.hid hv
 have HKN := Lib.hid (hv.kids p (by omega)).1
 have hkn := (hv.kids p (by omega)).1
 have HPL := Lib.hid (fun j k => show placeR l p j r k = ⟨(insetR r (bx l p).pad).x, (insetR r (bx l p).pad).y + offK false l p (insetR r (bx l p).pad).h j, (insetR r (bx l p).pad).w, (szs false l p (insetR r (bx l p).pad).h).getD j 0⟩ by unfold placeR; rw [if_neg (by omega), if_pos hk])
 have HW0 := Lib.hid hw0
 obtain ⟨al, cl, rfl, hnl, hcl, _⟩ := hL.rd.ints
 rw [ni_length] at hnl hL ⊢
 have hm1 : 1 ≤ (kid l (p : Int)).length := by
  rcases Nat.eq_zero_or_pos (kid l (p : Int)).length with h | h
  ·exact absurd (List.eq_nil_of_length_eq_zero h) hne
  ·exact h
 obtain ⟨at_, ct, rfl, hnt, hct, _⟩ := hrd.boxes
 obtain ⟨bt, ot, rfl, hbt, _, ⟨d0, d1, d2, d3, d4, d5, d6, d7, d8⟩⟩ := bx_cells hrd hp
 unfold maxLen at hcl hct
 have hpi : (p : Int) < l.length := by omega
 have hbs : RB 100000 r := hs
 obtain ⟨s1, s2, s3, s4, s5, s6, s7, s8⟩ := hbs
 have hx0 := Below.of_alloc w (.cells (bx l p).arr 39)
 have HI := Lib.hid (inner_any (w.alloc (.cells (bx l p).arr 39)) (hM.below hx0) (hrd.below hx0 (Nat.le_refl _)) rfl hp hr (hs.rs (by omega)) (by omega))
 have hK8 := Keep.new w (.cells (bx l p).arr 39)
 have HMK := Lib.hid (fun W => mk_run0 (P := Tryz.prog) el_flex (kid l (p : Int)).length (by omega) W)
 have m0 := hM.c0
 unfold Rc.agg Bx.arr at HI
 have hL0 := hL.alloc (.cells (bx l p).arr 39)
 have hM0 := hM.below hx0
 have HLT := Lib.hid hL.lt
 unfold Bx.arr at hx0 hK8 hL0 hM0
 clear hM hL hrd hr hw0 hv hne hk
 go_enter Tryz.func114, Tryz.ntmps114
 go_wp2_with (fail)
 refine HI.out.mono ?_
 rintro e w1 ⟨rfl, hx⟩
 have hM1 := hM0.below hx
 have hL1 := hL0.below hx (Nat.le_refl _)
 have hK1 := hK8.below (C := w.heap.size + 1) (Nat.lt_succ_self _) (hx.mono (by simp))
 have hb1 := hx0.trans (hx.mono hx0.size)
 have hs1 := hx.size
 rw [World.size_alloc] at hs1
 clear HI hx hM0 hL0 hK8 hx0
 generalize hq : insetR r (bx l p).pad = q at *
 have hbW := hb1.alloc hb1.size (.cells q.arr 96)
 have hMW := hM1.below (Below.of_alloc w1 (.cells q.arr 96))
 have hLW := hL1.alloc (.cells q.arr 96)
 have hK8W := hK1.alloc (.cells q.arr 96)
 have hK9W := Keep.new w1 (.cells q.arr 96)
 have HT := Lib.hid (turnR_any q (w1.alloc (.cells q.arr 96)))
 have hszW : (w1.alloc (.cells q.arr 96)).heap.size = w1.heap.size + 1 := by simp
 clear hb1 hM1 hL1 hK1
 unfold Rc.arr at hbW hMW hLW hK8W hK9W hszW
 unfold Rc.arr Rc.agg at HT
 go_wp2_with (fail)
 refine HT.out.mono ?_
 rintro e w2 ⟨rfl, hx⟩
 have hx9 : Below w1.heap.size (w1.alloc (.cells #[.int .i64 q.x, .int .i64 q.y, .int .i64 q.w, .int .i64 q.h] 96)) w2 := hx.mono (by omega)
 have hB9 := below_set4 (o1 := 0) (o2 := 1) (o3 := 2) (o4 := 3) hx9 (Nat.le_refl _) (.int .i64 q.turn.x) (.int .i64 q.turn.y) (.int .i64 q.turn.w) (.int .i64 q.turn.h)
 have hK92 := hK9W.below (by omega) hx
 have z0 := hK92.cell 0
 have z1 := hK92.cell 1
 have z2 := hK92.cell 2
 have z3 := hK92.cell 3
 have y0 := hK92.frozen 0
 have y1 := hK92.frozen 1
 have y2 := hK92.frozen 2
 have y3 := hK92.frozen 3
 have hM : LnM S w.heap.size w1.heap.size (w1.heap.size + 1) ((((w2.setCell ⟨w1.heap.size, 0, none⟩ (.int .i64 q.turn.x)).setCell ⟨w1.heap.size, 1, none⟩ (.int .i64 q.turn.y)).setCell ⟨w1.heap.size, 2, none⟩ (.int .i64 q.turn.w)).setCell ⟨w1.heap.size, 3, none⟩ (.int .i64 q.turn.h)) (.slice (some ⟨bt, ot, none⟩) l.length ct) (.slice al (kid l (p : Int)).length cl) l p q.turn R :=
  ⟨hMW.keep (by omega) hB9, hK8W.below (by omega) hB9, (((hK92.store 0 _).store 1 _).store 2 _).store 3 _, (hLW.keep (fun z hz => by have := (HLT.out z hz).2; omega) hB9).weak hB, fun z hz => by have := (HLT.out z hz).2; omega, by omega, by omega, by omega⟩
 have hb : Below S w ((((w2.setCell ⟨w1.heap.size, 0, none⟩ (.int .i64 q.turn.x)).setCell ⟨w1.heap.size, 1, none⟩ (.int .i64 q.turn.y)).setCell ⟨w1.heap.size, 2, none⟩ (.int .i64 q.turn.w)).setCell ⟨w1.heap.size, 3, none⟩ (.int .i64 q.turn.h)) := (hbW.mono (by omega)).trans (hB9.mono (by omega))
 have HPQ := Lib.hid (fun j k => show placeR l p j r k = ⟨q.turn.y, q.turn.x + offK false l p q.turn.w j, q.turn.h, (szs false l p q.turn.w).getD j 0⟩ from (HPL.out j k).trans rfl)
 have hQb : 0 ≤ q.turn.x ∧ q.turn.x ≤ 200000 ∧ 0 ≤ q.turn.y ∧ q.turn.y ≤ 200000 ∧ 0 ≤ q.turn.w ∧ q.turn.w ≤ 10000 ∧ 0 ≤ q.turn.h ∧ q.turn.h ≤ 10000 := by unfold Rc.turn; dsimp only; omega
 have hS9 : S < w1.heap.size := by omega
 have hS8 : S < w.heap.size := by omega
 generalize q.turn = Q at *
 have HM := Lib.hid hM
 have HB := Lib.hid hb
 clear hMW hLW hK8W hK9W hK92 hB9 hx9 hx hbW hin hq HPL s1 s2 s3 s4 s5 s6 s7 s8 m0 hM hb HT hszW
 go_upto_region 4 with fail
 have hM := HM.out
 have hb := HB.out
 clear HM HB z0 z1 z2 z3 y0 y1 y2 y3
 generalize ((((w2.setCell ⟨w1.heap.size, 0, none⟩ (.int .i64 Q.x)).setCell ⟨w1.heap.size, 1, none⟩ (.int .i64 Q.y)).setCell ⟨w1.heap.size, 2, none⟩ (.int .i64 Q.w)).setCell ⟨w1.heap.size, 3, none⟩ (.int .i64 Q.h)) = W at *
 generalize hg9e : w1.heap.size = g9 at *
 generalize hCe : g9 + 1 = C at *
 clear hg9e
 have hCW : C ≤ W.heap.size := by rw [← hCe]; exact Nat.succ_le_of_lt hM.r.lt
 have HFO := Lib.hid (flxs_ok HV.out false p)
 have hoF : Own (W.alloc (.cells (madeCells (Value.agg #[.int .i64 0, .int .i64 0, .int .i64 0, .int .i64 0, .int .i64 0]).cells ((kid l (p : Int)).length * 5)) 156)) C 5 (.slice (some ⟨W.heap.size, 0, none⟩) 0 (kid l (p : Int)).length) (Fs ((flxsOf false l p).take 0)) := by
  have h := Own.made W (madeCells (Value.agg #[.int .i64 0, .int .i64 0, .int .i64 0, .int .i64 0, .int .i64 0]).cells ((kid l (p : Int)).length * 5)) 156 C 5 0 (kid l (p : Int)).length hCW (Nat.zero_le _) (by unfold maxLen; omega) (size_madeCells _ _)
  rw [Nat.zero_mul, List.take_zero] at h
  exact h
 have hMF := hM.keep ((Below.of_alloc W (.cells (madeCells (Value.agg #[.int .i64 0, .int .i64 0, .int .i64 0, .int .i64 0, .int .i64 0]).cells ((kid l (p : Int)).length * 5)) 156)).mono hCW)
 have hbF := hb.alloc (show S ≤ _ by have := hb.size; omega) (.cells (madeCells (Value.agg #[.int .i64 0, .int .i64 0, .int .i64 0, .int .i64 0, .int .i64 0]).cells ((kid l (p : Int)).length * 5)) 156)
 have hCF := Nat.le_trans hCW (Below.of_alloc W (.cells (madeCells (Value.agg #[.int .i64 0, .int .i64 0, .int .i64 0, .int .i64 0, .int .i64 0]).cells ((kid l (p : Int)).length * 5)) 156)).size
 have HS89 := Lib.hid (And.intro hS8 hS9)
 have hSC : S + 2 ≤ C := hM.c1
 clear hM hb hCW
 have hmkw := HMK.out W
 go_wp2_with (fail)
 go_loopw [10, 36] (fun fv i wr => ∃ j : Nat, j ≤ (kid l (p : Int)).length ∧ i = .int .i64 j ∧ Own wr C 5 fv (Fs ((flxsOf false l p).take j)) ∧ LnM S w.heap.size g9 C wr (.slice (some ⟨bt, ot, none⟩) l.length ct) (.slice al (kid l (p : Int)).length cl) l p Q R ∧ Below S w wr ∧ C ≤ wr.heap.size) (fun _ i _ => (kid l (p : Int)).length - (intOf i).toNat)
 case atStart => exact ⟨0, Nat.zero_le _, rfl, hoF, hMF, hbF, hCF⟩
 case round =>
  clear hoF hMF hbF hCF hmkw
  obtain ⟨j, hj, rfl, hoF, hM, hb, hC⟩ := hrel
  by_cases hlt : j < (kid l (p : Int)).length
  ·obtain ⟨k, hk⟩ : ∃ k, (kid l (p : Int))[j]? = some k := ⟨_, List.getElem?_eq_getElem hlt⟩
   obtain ⟨hkl, hkp⟩ := mem_kid_iff.1 (List.mem_of_getElem? hk)
   obtain ⟨ga, oa, rfl, ck⟩ := hM.L.rd.intAt (show (ni (kid l (p : Int)))[j]? = some (k : Int) by simp [ni, hk])
   have hji : (j : Int) < (kid l (p : Int)).length := by omega
   have hki : (k : Int) < l.length := by omega
   have hkw : IntKind.i64.wrap ((j : Int) + 1) = (j : Int) + 1 := by rw [IntKind.wrap_i64]; omega
   have HN := Lib.hid (natural_any HV.out wr (i := (k : Int)) (by omega) (by omega) (HW0.out wr hb))
   rw [Int.toNat_natCast] at HN
   have hn4 := nat_4000 HV.out hkl
   have hfo := HFO.out _ (show flxOf false l k ∈ flxsOf false l p from List.mem_map.2 ⟨k, List.mem_of_getElem? hk, rfl⟩)
   have HAL : Hid (along false l k = (natS l k).2) := rfl
   have ET := Lib.hid (show Fs ((flxsOf false l p).take (j + 1)) = Fs ((flxsOf false l p).take j) ++ Fs [flxOf false l k] by
    rw [List.take_add_one, show (flxsOf false l p)[j]? = some (flxOf false l k) by unfold flxsOf; rw [List.getElem?_map, hk]; rfl, Fs_append]
    rfl)
   have hlk : ((flxsOf false l p).take j).length ≤ 16 := by rw [List.length_take]; omega
   have m0 := hM.m.c0
   clear hk hkp hfo
   go_wp2_with (fail)
   refine HN.out.mono ?_
   rintro e w3 ⟨rfl, hx3⟩
   have hC3 := Nat.le_trans hC hx3.size
   have hM3 := hM.keep (hx3.mono hC)
   have hF3 := hoF.below hx3 (Nat.le_refl _)
   have hb3 := hb.trans (hx3.mono (by omega))
   have hF3b := hF3.lt
   obtain ⟨g13, hg13⟩ : ∃ g, w3.heap.size = g := ⟨_, rfl⟩
   rw [hg13] at hC3 hF3b
   have HF3B := Lib.hid hF3b
   clear hM hoF hb hx3 ck m0 hF3b
   have hM4 := hM3.keep ((Below.of_alloc w3 (.cells #[.int .i64 (natS l k).1, .int .i64 (natS l k).2] 150)).mono (by omega))
   have hF4 := hF3.alloc (.cells #[.int .i64 (natS l k).1, .int .i64 (natS l k).2] 150)
   have hb4 := hb3.alloc (show S ≤ _ by have := hb3.size; omega) (.cells #[.int .i64 (natS l k).1, .int .i64 (natS l k).2] 150)
   have hK4 := Keep.new w3 (.cells #[.int .i64 (natS l k).1, .int .i64 (natS l k).2] 150)
   have hsz4 : (w3.alloc (.cells #[.int .i64 (natS l k).1, .int .i64 (natS l k).2] 150)).heap.size = g13 + 1 := by rw [World.size_alloc]; omega
   rw [hg13] at hK4
   have HTS := Lib.hid (turnS_any (natS l k).1 (natS l k).2 (w3.alloc (.cells #[.int .i64 (natS l k).1, .int .i64 (natS l k).2] 150)))
   clear hM3 hF3 hb3
   go_wp2_with (fail)
   refine HTS.out.mono ?_
   rintro e w4 ⟨rfl, hx4⟩
   have hK4' := hK4.below (by omega) hx4
   have hx4' : Below g13 (w3.alloc (.cells #[.int .i64 (natS l k).1, .int .i64 (natS l k).2] 150)) w4 := hx4.mono (by omega)
   have hB4 := (hx4'.setCell (p := ⟨g13, 0, none⟩) (Nat.le_refl _) (.int .i64 (natS l k).2)).setCell (p := ⟨g13, 1, none⟩) (Nat.le_refl _) (.int .i64 (natS l k).1)
   have z0 := hK4'.cell 0
   have z1 := hK4'.cell 1
   have y0 := hK4'.frozen 0
   have y1 := hK4'.frozen 1
   have HM5 := Lib.hid (hM4.keep (hB4.mono hC3))
   have HF5 := Lib.hid (hF4.keep (fun z hz => by have := (HF3B.out z hz).2; omega) hB4)
   have HB5 := Lib.hid (hb4.trans (hB4.mono (by omega)))
   have HK5 := Lib.hid ((hK4'.store 0 (.int .i64 (natS l k).2)).store 1 (.int .i64 (natS l k).1))
   have HC5 := Lib.hid (show C ≤ ((w4.setCell ⟨g13, 0, none⟩ (.int .i64 (natS l k).2)).setCell ⟨g13, 1, none⟩ (.int .i64 (natS l k).1)).heap.size by have := hx4.size; simp [World.setCell]; omega)
   clear hM4 hF4 hb4 hK4 hK4' hx4 hx4' hB4 HTS hsz4
   go_upto_region 11 with fail
   have hM5 := HM5.out
   have hF5 := HF5.out
   have hb5 := HB5.out
   have hK5 : Keep g13 (.cells #[.int .i64 (natS l k).2, .int .i64 (natS l k).1] 150) _ := HK5.out
   have hC5 := HC5.out
   clear HM5 HF5 HB5 HK5 HC5 z0 z1 y0 y1
   generalize ((w4.setCell ⟨g13, 0, none⟩ (.int .i64 (natS l k).2)).setCell ⟨g13, 1, none⟩ (.int .i64 (natS l k).1)) = W5 at *
   clear hg13
   have hgl := hK5.lt
   have hMd := hM5.drew
   have hFd := hF5.drew
   have hbd5 := hb5.drew
   have hKd := hK5.drew
   have hCd : C ≤ W5.drew.heap.size := hC5
   have m0 : ∀ w9, Below C W5.drew w9 → w9.cell? ⟨S + 1, 0, none⟩ = some (.slice (some ⟨bt, ot, none⟩) l.length ct) := fun w9 h => (hMd.keep h).m.c0
   have HM0 := Lib.hid m0
   have HTC := Lib.hid (fun w9 (h : Below C W5.drew w9) => show Cells9 w9 bt (ot + k * 9) (bx l k) by
    obtain ⟨b', o', e, _, _, hc⟩ := bx_cells (HW0.out w9 (hbd5.trans (h.mono (by omega)))) hkl
    cases e
    exact hc)
   go_upto_region 11 with fail
   refine wp_region_held_drew (S := fun w' => Below C W5.drew w' ∧ Keep g13 (.cells #[.int .i64 (natS l k).2, .int .i64 (natS l k).1] 150) w') (by kernel_rfl) ⟨Below.refl _ _, hKd⟩ (fun hS => ?_)
   clear hM5 hF5 hb5 hK5 hC5 m0
   generalize W5.drew = wd at *
   refine hTk hS 0 49 rfl (v := ?_) ?_ ?_
   rotate_left
   ·intro _ _; go_simp; first | done | with_reducible rfl
   simp only [Act.put, lsA, ls0, ls1]
   refine hTk hS 1 50 rfl (v := ?_) ?_ ?_
   rotate_left
   ·intro _ _; go_simp; first | done | with_reducible rfl
   simp only [Act.put, lsA, ls0, ls1]
   refine hTk hS 2 51 rfl (v := ?_) ?_ ?_
   rotate_left
   ·intro w9 hS9; have q := hS9.2.cell 0; go_simp; first | done | with_reducible rfl
   simp only [Act.put, lsA, ls0, ls1]
   refine hTk hS 3 52 rfl (v := ?_) ?_ ?_
   rotate_left
   ·intro _ _; go_simp; first | done | with_reducible rfl
   simp only [Act.put, lsA, ls0, ls1]
   refine hTk hS 4 53 rfl (v := ?_) ?_ ?_
   rotate_left
   ·intro _ _; go_simp; first | done | with_reducible rfl
   simp only [Act.put, lsA, ls0, ls1]
   refine hTk hS 5 54 rfl (v := ?_) ?_ ?_
   rotate_left
   ·intro _ _; go_simp; first | done | with_reducible rfl
   simp only [Act.put, lsA, ls0, ls1]
   refine hTk hS 6 55 rfl (v := ?_) ?_ ?_
   rotate_left
   ·intro w9 hS9; have q := HM0.out _ hS9.1; go_simp; first | done | with_reducible rfl
   simp only [Act.put, lsA, ls0, ls1]
   refine hTk hS 7 56 rfl (v := ?_) ?_ ?_
   rotate_left
   ·intro _ _; go_simp; first | done | with_reducible rfl
   simp only [Act.put, lsA, ls0, ls1]
   refine hTk hS 8 57 rfl (v := ?_) ?_ ?_
   rotate_left
   ·intro _ _; go_simp; first | done | with_reducible rfl
   simp only [Act.put, lsA, ls0, ls1]
   refine hTk hS 9 58 rfl (v := ?_) ?_ ?_
   rotate_left
   ·intro _ _; go_simp; first | done | with_reducible rfl
   simp only [Act.put, lsA, ls0, ls1]
   refine hTk hS 10 59 rfl (v := ?_) ?_ ?_
   rotate_left
   ·intro w9 hS9; obtain ⟨q0, q1, q2, q3, q4, q5, q6, q7, q8⟩ := HTC.out _ hS9.1; go_simp; first | done | with_reducible rfl
   simp only [Act.put, lsA, ls0, ls1]
   refine hTk hS 11 60 rfl (v := ?_) ?_ ?_
   rotate_left
   ·intro _ _; go_simp; first | done | with_reducible rfl
   simp only [Act.put, lsA, ls0, ls1]
   refine hTk hS 12 61 rfl (v := ?_) ?_ ?_
   rotate_left
   ·intro _ _; go_simp; first | done | with_reducible rfl
   simp only [Act.put, lsA, ls0, ls1]
   refine hTk hS 13 62 rfl (v := ?_) ?_ ?_
   rotate_left
   ·intro _ _; go_simp; first | done | with_reducible rfl
   simp only [Act.put, lsA, ls0, ls1]
   refine hTk hS 14 63 rfl (v := ?_) ?_ ?_
   rotate_left
   ·intro w9 hS9; have q := HM0.out _ hS9.1; go_simp; first | done | with_reducible rfl
   simp only [Act.put, lsA, ls0, ls1]
   refine hTk hS 15 64 rfl (v := ?_) ?_ ?_
   rotate_left
   ·intro _ _; go_simp; first | done | with_reducible rfl
   simp only [Act.put, lsA, ls0, ls1]
   refine hTk hS 16 65 rfl (v := ?_) ?_ ?_
   rotate_left
   ·intro _ _; go_simp; first | done | with_reducible rfl
   simp only [Act.put, lsA, ls0, ls1]
   refine hTk hS 17 66 rfl (v := ?_) ?_ ?_
   rotate_left
   ·intro _ _; go_simp; first | done | with_reducible rfl
   simp only [Act.put, lsA, ls0, ls1]
   refine hTk hS 18 67 rfl (v := ?_) ?_ ?_
   rotate_left
   ·intro w9 hS9; obtain ⟨q0, q1, q2, q3, q4, q5, q6, q7, q8⟩ := HTC.out _ hS9.1; go_simp; first | done | with_reducible rfl
   simp only [Act.put, lsA, ls0, ls1]
   refine hTk hS 19 68 rfl (v := ?_) ?_ ?_
   rotate_left
   ·intro _ _; go_simp; first | done | with_reducible rfl
   simp only [Act.put, lsA, ls0, ls1]
   refine wpAnyH_ready (rs := [20]) (by kernel_rfl) (by simp) ?_
   refine AllReadyH.cons (o := _) rfl (fun K9 hK9 => ?_) AllReadyH.nil
   go_simp
   refine hK9.out _ _ ⟨hS.1.alloc hCd _, hS.2.alloc _⟩ (fun hS => ?_)
   clear hK9 K9
   try simp only [Act.put, lsA, ls0, ls1]
   refine wpAnyH_ready (rs := [21]) (by kernel_rfl) (by simp) ?_
   refine AllReadyH.cons (o := _) rfl (fun K9 hK9 => ?_) AllReadyH.nil
   refine step_app rfl _ _ _ rfl el_flex rfl (hFd.alloc _) rfl (show Rd _ 5 _ (Fs [flxOf false l k]) from Rd.oneAt _ _ rfl) (Fs_one _) ?hl ?hb ?hK
   case hl => rw [Fs_length, Fs_length]; simp only [List.length_singleton]; omega
   case hb => exact Nat.le_trans hCd (Below.of_alloc wd _).size
   intro v' w7 ho7 hg7 hf7
   have hb7 := below_app hS.1 (hFd.alloc _) hg7 (Nat.le_trans hCd (Below.of_alloc wd _).size) (Nat.le_refl _)
   have hk7 : Keep g13 (.cells #[.int .i64 (natS l k).2, .int .i64 (natS l k).1] 150) w7 := by
    have h := hS.2
    unfold Keep
    rw [hg7.block g13 h.lt (fun e => by have := (HF3B.out _ e.symm).2; omega)]
    exact h
   refine hK9.out _ _ ⟨hb7, hk7⟩ (fun hS => ?_)
   clear hK9 K9
   try simp only [Act.put, List.setIfInBounds_toArray]
   refine wpAnyH_ready (rs := [22]) (by kernel_rfl) (by simp) ?_
   refine AllReadyH.cons (o := _) rfl (fun K9 hK9 => ?_) AllReadyH.nil
   go_simp
   refine hK9.out _ _ hS (fun hS => ?_)
   clear hK9 K9
   try simp only [Act.put, lsA, ls0, ls1]
   refine wpAnyH_done (by kernel_rfl) ?_ _
   have hM7 := hMd.keep hb7
   have hbb7 := hbd5.trans (hb7.mono (by omega))
   have hC7 := Nat.le_trans hCd hb7.size
   clear hS hk7 hg7 hf7 hKd hFd hMd hbd5 hb7
   go_wp2
   go_roundw
   case rel => exact ⟨j + 1, by omega, by go_num, by rw [ET.out]; exact ho7, hM7, hbb7, hC7⟩
   case measure => simp [intOf]; omega
  ·obtain rfl : j = (kid l (p : Int)).length := by omega
   rw [List.take_of_length_le (by rw [flxs_length]; exact Nat.le_refl _)] at hoF
   have hg1 := gap_le HV.out hp (n := ((kid l (p : Int)).length : Int) - 1) (by omega) (by omega)
   have hsp := spc_le HV.out hp hm1 (space := Q.w) (by omega)
   have hjj : ¬ ((kid l (p : Int)).length : Int) < (kid l (p : Int)).length := by omega
   have HFL : Hid (Calls Tryz.prog 136 #[u10, .int .i64 (spc l p Q.w)] wr fun e w' => ∃ v', e = .returned v' ∧ Own w' wr.heap.size 1 v' (Is (szs false l p Q.w)) ∧ Ext wr w') := Lib.hid (flexed_any wr hoF.rd HFO.out (by rw [flxs_length]; exact hkn) (space := spc l p Q.w) ⟨hsp.1, by omega⟩)
   obtain ⟨q0, q1, q2, q3⟩ := cells4_of (x := Q) hM.r
   have b5 : wr.cell? ⟨w.heap.size, 5, none⟩ = some (.int .i64 (bx l p).gap) := hM.b.cell 5
   have b8 : wr.cell? ⟨w.heap.size, 8, none⟩ = some (.int .i64 (bx l p).justify) := hM.b.cell 8
   have hszr : (szs false l p Q.w).length = (kid l (p : Int)).length := szs_length HV.out _ _ _
   have HSZ := Lib.hid (szs_mem HV.out false p Q.w)
   have HSL := Lib.hid hszr
   have HOFF := Lib.hid (fun (W : World) (v : Value) (h : Rd W 1 v (Is (szs false l p Q.w))) => offsets_any (space := Q.w) (gap := (bx l p).gap) (j := (bx l p).justify) W h (by rw [HSL.out]; omega) (by rw [HSL.out]; omega) HSZ.out (by omega) (by omega) (by omega))
   have hjw : IntKind.i64.wrap (((kid l (p : Int)).length : Int) - 1) = ((kid l (p : Int)).length : Int) - 1 := by rw [IntKind.wrap_i64]; omega
   have hspw : spc l p Q.w ≤ 10000 := by omega
   have hRN : ∀ w9, Below C wr w9 → w9.cell? ⟨g9, 2, none⟩ = some (.int .i64 Q.w) ∧ w9.cell? ⟨w.heap.size, 5, none⟩ = some (.int .i64 (bx l p).gap) ∧ w9.cell? ⟨w.heap.size, 8, none⟩ = some (.int .i64 (bx l p).justify) := fun w9 h => by
    have h9 := hM.keep h
    exact ⟨(cells4_of (x := Q) h9.r).c2, h9.b.cell 5, h9.b.cell 8⟩
   have HRN := Lib.hid hRN
   have HMK2 := Lib.hid (fun w9 (h : Below C wr w9) => hM.keep h)
   have HBK2 := Lib.hid (fun w9 (h : Below C wr w9) => hb.trans (h.mono (Nat.le_trans (Nat.le_add_right _ _) hSC)))
   have HMR := Lib.hid hM
   clear hoF hszr hRN hsp hM hb
   by_cases hneg : Q.w - (bx l p).gap * (((kid l (p : Int)).length : Int) - 1) < 0
   ·have hse : spc l p Q.w = 0 := by unfold spc; omega
    have HSE := Lib.hid hse
    rw [hse] at HFL
    clear hse hspw
    go_wp2_with (fail)
    refine HFL.out.mono ?_
    rintro e w8 ⟨v8, rfl, ho8, hx8⟩
    have hB8 := hx8.mono hC
    obtain ⟨r2, r5, r8⟩ := HRN.out w8 hB8
    clear q0 q1 q2 q3 b5 b8 HFL
    go_wp2_with (fail)
    refine (HOFF.out w8 v8 ho8.rd).mono ?_
    rintro e w10 ⟨v10, rfl, ho10, hx10⟩
    have hB10 := hB8.trans (hx10.mono (Nat.le_trans hC hx8.size))
    have hM10 := HMK2.out w10 hB10
    have hb10 := HBK2.out w10 hB10
    have hC10 := Nat.le_trans (Nat.le_trans hC hx8.size) hx10.size
    have ho8' := (ho8.below hx10 (Nat.le_refl _)).weak hC
    have ho10' := ho10.weak (Nat.le_trans hC hx8.size)
    obtain ⟨a8, c8, rfl, hn8, hc8, _⟩ := ho8'.rd.ints
    obtain ⟨a10, c10, rfl, hn10, hc10, _⟩ := ho10'.rd.ints
    rw [HSL.out] at hn8 ho8' ⊢
    have hofl : (offL (szs false l p Q.w) Q.w (bx l p).gap (bx l p).justify).length = (kid l (p : Int)).length := by rw [offL_length, HSL.out]
    rw [hofl] at hn10 ho10' ⊢
    have HOL := Lib.hid hofl
    unfold maxLen at hc8 hc10
    have HPP : Hid (PutTo l p r 0 R R) := PutTo.zero _ _ _ _
    clear ho8 ho10 hx8 hx10 hB8 hB10 r2 r5 r8 hofl HMK2 HBK2 HRN HOFF
    go_wp2_with (fail)
    go_loopw [93] (fun i wx => ∃ j : Nat, j ≤ (kid l (p : Int)).length ∧ i = .int .i64 j ∧ (∃ R', LnM S w.heap.size g9 C wx (.slice (some ⟨bt, ot, none⟩) l.length ct) (.slice al (kid l (p : Int)).length cl) l p Q R' ∧ Hid (PutTo l p r j R R')) ∧
     Own wx C 1 (.slice a8 (kid l (p : Int)).length c8) (Is (szs false l p Q.w)) ∧ Own wx C 1 (.slice a10 (kid l (p : Int)).length c10) (Is (offL (szs false l p Q.w) Q.w (bx l p).gap (bx l p).justify)) ∧ Below S w wx ∧ C ≤ wx.heap.size) (fun i _ => (kid l (p : Int)).length - (intOf i).toNat)
    case atStart => exact ⟨0, Nat.zero_le _, rfl, ⟨R, hM10, HPP⟩, ho8', ho10', hb10, hC10⟩
    case round =>
     clear hM10 HPP ho8' ho10' hb10 hC10 hC HMR
     obtain ⟨j, hj, rfl, ⟨R', hM, hP⟩, hoS, hoO, hb, hC⟩ := hrel
     by_cases hlt : j < (kid l (p : Int)).length
     ·obtain ⟨k, hk⟩ : ∃ k, (kid l (p : Int))[j]? = some k := ⟨_, List.getElem?_eq_getElem hlt⟩
      obtain ⟨hkl, hkp⟩ := mem_kid_iff.1 (List.mem_of_getElem? hk)
      obtain ⟨ga, oa, rfl, _⟩ := hM.L.rd.intAt (show (ni (kid l (p : Int)))[j]? = some (k : Int) by simp [ni, hk])
      have HLK := Lib.hid (fun w9 R9 (h : LnM S w.heap.size g9 C w9 (.slice (some ⟨bt, ot, none⟩) l.length ct) (.slice (some ⟨ga, oa, none⟩) (kid l (p : Int)).length cl) l p Q R9) => show w9.cell? ⟨ga, oa + j, none⟩ = some (.int .i64 (k : Int)) by
       obtain ⟨b', o', e, h⟩ := h.L.rd.intAt (show (ni (kid l (p : Int)))[j]? = some (k : Int) by simp [ni, hk])
       cases e
       exact h)
      have hszj := szs_get HV.out false Q.w hk
      have hxj := HSZ.out _ (List.mem_of_getElem? hszj)
      have hofj : (offL (szs false l p Q.w) Q.w (bx l p).gap (bx l p).justify)[j]? = some (offK false l p Q.w j) := offL_get (by rw [HSL.out]; exact hlt)
      have hob := offK_le HV.out false hp (space := Q.w) (by omega) hszj
      obtain ⟨g1, o1, rfl, ck8⟩ := hoS.rd.intAt hszj
      obtain ⟨g2, o2, rfl, ck10⟩ := hoO.rd.intAt hofj
      have HPS := Lib.hid (fun (R' : List Rc) (h : PutTo l p r j R R') (hl : k < R'.length) => h.step hk hl)
      have HRE := Lib.hid (HPQ.out j k)
      have hji : (j : Int) < (kid l (p : Int)).length := by omega
      have hki : (k : Int) < l.length := by omega
      have hkw : IntKind.i64.wrap ((j : Int) + 1) = (j : Int) + 1 := by rw [IntKind.wrap_i64]; omega
      have HF1 := Lib.hid (fun w9 (h : Below wr.drew.heap.size wr.drew w9) => And.intro (cells4_of (x := Q) (hM.drew.keep (h.mono hC)).r) (cell_below h (show wr.drew.cell? ⟨g1, o1 + j, none⟩ = some (.int .i64 ((szs false l p Q.w).getD j 0)) from ck8)))
      have hM1 := hM.drew
      have hoS1 := hoS.drew
      have hoO1 := hoO.drew
      have hb1 := hb.drew
      have hC1 : C ≤ wr.drew.heap.size := hC
      have HQB := Lib.hid hQb
      clear hk hkp hszj hofj
      generalize (szs false l p Q.w).getD j 0 = sz at *
      generalize offK false l p Q.w j = of at *
      go_upto_region 17 with fail
      refine wp_region_held_drew (S := fun w' => Below wr.drew.heap.size wr.drew w') (by kernel_rfl) (Below.refl _ _) (fun hS => ?_)
      clear hM hoS hoO hb hC ck8 ck10
      generalize wr.drew = wd at *
      refine hTk hS 0 98 rfl (v := ?_) ?_ ?_
      rotate_left
      ·intro _ _; go_simp; first | done | with_reducible rfl
      simp only [Act.put, lsA, ls0, ls1]
      refine hTk hS 1 99 rfl (v := ?_) ?_ ?_
      rotate_left
      ·intro w9 hS9; obtain ⟨⟨q0, q1, q2, q3⟩, _⟩ := HF1.out _ hS9; go_simp; first | done | with_reducible rfl
      simp only [Act.put, lsA, ls0, ls1]
      refine hTk hS 2 100 rfl (v := ?_) ?_ ?_
      rotate_left
      ·intro _ _; go_simp; first | done | with_reducible rfl
      simp only [Act.put, lsA, ls0, ls1]
      refine hTk hS 3 101 rfl (v := ?_) ?_ ?_
      rotate_left
      ·intro _ _; go_simp; first | done | with_reducible rfl
      simp only [Act.put, lsA, ls0, ls1]
      refine hTk hS 4 102 rfl (v := ?_) ?_ ?_
      rotate_left
      ·intro _ _; go_simp; first | done | with_reducible rfl
      simp only [Act.put, lsA, ls0, ls1]
      refine hTk hS 5 103 rfl (v := ?_) ?_ ?_
      rotate_left
      ·intro w9 hS9; obtain ⟨⟨q0, q1, q2, q3⟩, _⟩ := HF1.out _ hS9; go_simp; first | done | with_reducible rfl
      simp only [Act.put, lsA, ls0, ls1]
      refine hTk hS 6 104 rfl (v := ?_) ?_ ?_
      rotate_left
      ·intro _ _; go_simp; first | done | with_reducible rfl
      simp only [Act.put, lsA, ls0, ls1]
      refine hTk hS 7 105 rfl (v := ?_) ?_ ?_
      rotate_left
      ·intro _ _; go_simp; first | done | with_reducible rfl
      simp only [Act.put, lsA, ls0, ls1]
      refine hTk hS 8 106 rfl (v := ?_) ?_ ?_
      rotate_left
      ·intro _ _; go_simp; first | done | with_reducible rfl
      simp only [Act.put, lsA, ls0, ls1]
      refine hTk hS 9 107 rfl (v := ?_) ?_ ?_
      rotate_left
      ·intro w9 hS9; obtain ⟨_, q4⟩ := HF1.out _ hS9; go_simp; first | done | with_reducible rfl
      simp only [Act.put, lsA, ls0, ls1]
      refine hTk hS 10 108 rfl (v := ?_) ?_ ?_
      rotate_left
      ·intro _ _; go_simp; first | done | with_reducible rfl
      simp only [Act.put, lsA, ls0, ls1]
      refine hTk hS 11 109 rfl (v := ?_) ?_ ?_
      rotate_left
      ·intro w9 hS9; obtain ⟨⟨q0, q1, q2, q3⟩, _⟩ := HF1.out _ hS9; go_simp; first | done | with_reducible rfl
      simp only [Act.put, lsA, ls0, ls1]
      refine hTk hS 12 110 rfl (v := ?_) ?_ ?_
      rotate_left
      ·intro _ _; go_simp; first | done | with_reducible rfl
      simp only [Act.put, lsA, ls0, ls1]
      have hS0 : Below wd.heap.size wd wd := Below.refl _ _
      have hww : IntKind.i64.wrap (Q.x + of) = Q.x + of := by rw [IntKind.wrap_i64]; omega
      refine wpAnyH_ready (rs := [13]) (by kernel_rfl) (by simp) ?_
      refine AllReadyH.cons (o := _) rfl (fun K9 hK9 => ?_) AllReadyH.nil
      go_simp
      refine hK9.out _ _ (hS0.alloc (Nat.le_refl _) _) (fun hS => ?_)
      clear hK9 K9
      try simp only [Act.put, lsA, ls0, ls1]
      refine wpAnyH_ready (rs := [14]) (by kernel_rfl) (by simp) ?_
      refine AllReadyH.cons (o := _) rfl (fun K9 hK9 => ?_) AllReadyH.nil
      go_simp
      refine hK9.out _ _ (hS0.alloc (Nat.le_refl _) _) (fun hS => ?_)
      clear hK9 K9
      try simp only [Act.put, lsA, ls0, ls1]
      refine wpAnyH_done (by kernel_rfl) ?_ _
      have hB7 : Below wd.heap.size wd (wd.alloc (.cells #[.int .i64 (Q.x + of), .int .i64 Q.y, .int .i64 sz, .int .i64 Q.h] 96)) := hS0.alloc (Nat.le_refl _) _
      have hK7 := Keep.new wd (.cells #[.int .i64 (Q.x + of), .int .i64 Q.y, .int .i64 sz, .int .i64 Q.h] 96)
      clear hS hS0
      generalize hW7 : wd.alloc (.cells #[.int .i64 (Q.x + of), .int .i64 Q.y, .int .i64 sz, .int .i64 Q.h] 96) = W7 at *
      clear hW7
      have HTR := Lib.hid (turnR_any ⟨Q.x + of, Q.y, sz, Q.h⟩ W7)
      unfold Rc.turn Rc.agg at HTR
      dsimp only at HTR
      have hg17 := hK7.lt
      have k0 := hK7.cell 0
      have k1 := hK7.cell 1
      have k2 := hK7.cell 2
      have k3 := hK7.cell 3
      go_wp2_with (fail)
      refine HTR.out.mono ?_
      rintro e w6 ⟨rfl, hx6⟩
      have hK6 := hK7.below hg17 hx6
      have HB8 := Lib.hid (below_set4 (o1 := 0) (o2 := 1) (o3 := 2) (o4 := 3) (hB7.trans (hx6.mono (Nat.le_of_lt hg17))) (Nat.le_refl _) (.int .i64 Q.y) (.int .i64 (Q.x + of)) (.int .i64 Q.h) (.int .i64 sz))
      have HK8 := Lib.hid ((((hK6.store 0 (.int .i64 Q.y)).store 1 (.int .i64 (Q.x + of))).store 2 (.int .i64 Q.h)).store 3 (.int .i64 sz))
      clear k0 k1 k2 k3
      have k0 := hK6.cell 0
      have k1 := hK6.cell 1
      have k2 := hK6.cell 2
      have k3 := hK6.cell 3
      have y0 := hK6.frozen 0
      have y1 := hK6.frozen 1
      have y2 := hK6.frozen 2
      have y3 := hK6.frozen 3
      clear hB7 hK7 hx6 hK6 HTR
      go_upto_region 20 with fail
      have hB8 := HB8.out
      have hK8 : Keep wd.heap.size (.cells #[.int .i64 Q.y, .int .i64 (Q.x + of), .int .i64 Q.h, .int .i64 sz] 96) _ := HK8.out
      clear HB8 HK8 k0 k1 k2 k3 y0 y1 y2 y3
      generalize ((((w6.setCell ⟨wd.heap.size, 0, none⟩ (.int .i64 Q.y)).setCell ⟨wd.heap.size, 1, none⟩ (.int .i64 (Q.x + of))).setCell ⟨wd.heap.size, 2, none⟩ (.int .i64 Q.h)).setCell ⟨wd.heap.size, 3, none⟩ (.int .i64 sz)) = W8 at *
      have hM8 := hM1.keep (hB8.mono hC1)
      have hS8 := hoS1.below hB8 (Nat.le_refl _)
      have hO8 := hoO1.below hB8 (Nat.le_refl _)
      have hb8 := hb1.trans (hB8.mono (by omega))
      have hC8 := Nat.le_trans hC1 hB8.size
      have d0 : W8.drew.cell? ⟨S + 1, 1, none⟩ = some (.slice (some ⟨S, 0, none⟩) l.length l.length) := hM8.m.c1
      have d1 : W8.drew.cell? ⟨ga, oa + j, none⟩ = some (.int .i64 (k : Int)) := HLK.out _ _ hM8.drew
      have e0 : W8.drew.cell? ⟨wd.heap.size, 0, none⟩ = some (.int .i64 (Q.y)) := hK8.cell 0
      have e1 : W8.drew.cell? ⟨wd.heap.size, 1, none⟩ = some (.int .i64 (Q.x + of)) := hK8.cell 1
      have e2 : W8.drew.cell? ⟨wd.heap.size, 2, none⟩ = some (.int .i64 (Q.h)) := hK8.cell 2
      have e3 : W8.drew.cell? ⟨wd.heap.size, 3, none⟩ = some (.int .i64 (sz)) := hK8.cell 3
      go_still_tail 10, (by kernel_rfl)
      repeat still_step
      try refine wpStill_nil ?_
      change wpList _ _ _ _ _ W8.drew
      have hM9 := hM8.drew
      have hS9' := hS8.drew
      have hO9 := hO8.drew
      have hb9 := hb8.drew
      have hC9 : C ≤ W8.drew.heap.size := hC8
      clear d0 d1 e0 e1 e2 e3 hM8 hS8 hO8 hb8 hC8 hK8 hB8 hM1 hoS1 hoO1 hb1 hC1
      generalize W8.drew = w9 at *
      have hkR : k < R'.length := by rw [hM9.m.len]; exact hkl
      obtain ⟨x, hx⟩ : ∃ x, R'[k]? = some x := ⟨_, List.getElem?_eq_getElem hkR⟩
      obtain ⟨y0, y1, y2, y3⟩ := hM9.m.at hx
      have hfz := (hM9.m.set hkl).1
      have f0 := hfz (k * 4)
      have f1 := hfz (k * 4 + 1)
      have f2 := hfz (k * 4 + 2)
      have f3 := hfz (k * 4 + 3)
      have HM9 := Lib.hid (hM9.set HS89.out.1 HS89.out.2 hkl (Q.y) (Q.x + of) (Q.h) (sz))
      have HSS := Lib.hid (own_set4 (g2 := S) (o1 := k * 4) (o2 := k * 4 + 1) (o3 := k * 4 + 2) (o4 := k * 4 + 3) hS9' (fun e => by have := (hS9'.lt _ e).1; omega) (.int .i64 (Q.y)) (.int .i64 (Q.x + of)) (.int .i64 (Q.h)) (.int .i64 (sz)))
      have HOO := Lib.hid (own_set4 (g2 := S) (o1 := k * 4) (o2 := k * 4 + 1) (o3 := k * 4 + 2) (o4 := k * 4 + 3) hO9 (fun e => by have := (hO9.lt _ e).1; omega) (.int .i64 (Q.y)) (.int .i64 (Q.x + of)) (.int .i64 (Q.h)) (.int .i64 (sz)))
      have HBB := Lib.hid (below_set4 (g := S) (o1 := k * 4) (o2 := k * 4 + 1) (o3 := k * 4 + 2) (o4 := k * 4 + 3) hb9 (Nat.le_refl _) (.int .i64 (Q.y)) (.int .i64 (Q.x + of)) (.int .i64 (Q.h)) (.int .i64 (sz)))
      have HP9 := Lib.hid (HPS.out R' hP.out hkR)
      clear hM9 hS9' hO9 hb9 hfz hx
      go_wp2
      go_roundw
      case rel =>
       refine ⟨j + 1, by omega, by go_num, ⟨_, HM9.out, ?_⟩, HSS.out, HOO.out, HBB.out, by simp [World.setCell]; omega⟩
       have h := HP9.out
       rw [HRE.out] at h
       exact h
      case measure => simp [intOf]; omega
     ·obtain rfl : j = (kid l (p : Int)).length := by omega
      have HBE := Lib.hid hb
      have HME := Lib.hid hM.m
      clear hb hM
      go_wp2_with (fail)
      go_end0
      exact ⟨rfl, R', HME.out, HBE.out, hP.out⟩
   ·have hse : spc l p Q.w = Q.w - (bx l p).gap * (((kid l (p : Int)).length : Int) - 1) := by unfold spc; omega
    have HSE := Lib.hid hse
    rw [hse] at HFL
    clear hse hspw
    go_wp2_with (fail)
    refine HFL.out.mono ?_
    rintro e w8 ⟨v8, rfl, ho8, hx8⟩
    have hB8 := hx8.mono hC
    obtain ⟨r2, r5, r8⟩ := HRN.out w8 hB8
    clear q0 q1 q2 q3 b5 b8 HFL
    go_wp2_with (fail)
    refine (HOFF.out w8 v8 ho8.rd).mono ?_
    rintro e w10 ⟨v10, rfl, ho10, hx10⟩
    have hB10 := hB8.trans (hx10.mono (Nat.le_trans hC hx8.size))
    have hM10 := HMK2.out w10 hB10
    have hb10 := HBK2.out w10 hB10
    have hC10 := Nat.le_trans (Nat.le_trans hC hx8.size) hx10.size
    have ho8' := (ho8.below hx10 (Nat.le_refl _)).weak hC
    have ho10' := ho10.weak (Nat.le_trans hC hx8.size)
    obtain ⟨a8, c8, rfl, hn8, hc8, _⟩ := ho8'.rd.ints
    obtain ⟨a10, c10, rfl, hn10, hc10, _⟩ := ho10'.rd.ints
    rw [HSL.out] at hn8 ho8' ⊢
    have hofl : (offL (szs false l p Q.w) Q.w (bx l p).gap (bx l p).justify).length = (kid l (p : Int)).length := by rw [offL_length, HSL.out]
    rw [hofl] at hn10 ho10' ⊢
    have HOL := Lib.hid hofl
    unfold maxLen at hc8 hc10
    have HPP : Hid (PutTo l p r 0 R R) := PutTo.zero _ _ _ _
    clear ho8 ho10 hx8 hx10 hB8 hB10 r2 r5 r8 hofl HMK2 HBK2 HRN HOFF
    go_wp2_with (fail)
    go_loopw [93] (fun i wx => ∃ j : Nat, j ≤ (kid l (p : Int)).length ∧ i = .int .i64 j ∧ (∃ R', LnM S w.heap.size g9 C wx (.slice (some ⟨bt, ot, none⟩) l.length ct) (.slice al (kid l (p : Int)).length cl) l p Q R' ∧ Hid (PutTo l p r j R R')) ∧
     Own wx C 1 (.slice a8 (kid l (p : Int)).length c8) (Is (szs false l p Q.w)) ∧ Own wx C 1 (.slice a10 (kid l (p : Int)).length c10) (Is (offL (szs false l p Q.w) Q.w (bx l p).gap (bx l p).justify)) ∧ Below S w wx ∧ C ≤ wx.heap.size) (fun i _ => (kid l (p : Int)).length - (intOf i).toNat)
    case atStart => exact ⟨0, Nat.zero_le _, rfl, ⟨R, hM10, HPP⟩, ho8', ho10', hb10, hC10⟩
    case round =>
     clear hM10 HPP ho8' ho10' hb10 hC10 hC HMR
     obtain ⟨j, hj, rfl, ⟨R', hM, hP⟩, hoS, hoO, hb, hC⟩ := hrel
     by_cases hlt : j < (kid l (p : Int)).length
     ·obtain ⟨k, hk⟩ : ∃ k, (kid l (p : Int))[j]? = some k := ⟨_, List.getElem?_eq_getElem hlt⟩
      obtain ⟨hkl, hkp⟩ := mem_kid_iff.1 (List.mem_of_getElem? hk)
      obtain ⟨ga, oa, rfl, _⟩ := hM.L.rd.intAt (show (ni (kid l (p : Int)))[j]? = some (k : Int) by simp [ni, hk])
      have HLK := Lib.hid (fun w9 R9 (h : LnM S w.heap.size g9 C w9 (.slice (some ⟨bt, ot, none⟩) l.length ct) (.slice (some ⟨ga, oa, none⟩) (kid l (p : Int)).length cl) l p Q R9) => show w9.cell? ⟨ga, oa + j, none⟩ = some (.int .i64 (k : Int)) by
       obtain ⟨b', o', e, h⟩ := h.L.rd.intAt (show (ni (kid l (p : Int)))[j]? = some (k : Int) by simp [ni, hk])
       cases e
       exact h)
      have hszj := szs_get HV.out false Q.w hk
      have hxj := HSZ.out _ (List.mem_of_getElem? hszj)
      have hofj : (offL (szs false l p Q.w) Q.w (bx l p).gap (bx l p).justify)[j]? = some (offK false l p Q.w j) := offL_get (by rw [HSL.out]; exact hlt)
      have hob := offK_le HV.out false hp (space := Q.w) (by omega) hszj
      obtain ⟨g1, o1, rfl, ck8⟩ := hoS.rd.intAt hszj
      obtain ⟨g2, o2, rfl, ck10⟩ := hoO.rd.intAt hofj
      have HPS := Lib.hid (fun (R' : List Rc) (h : PutTo l p r j R R') (hl : k < R'.length) => h.step hk hl)
      have HRE := Lib.hid (HPQ.out j k)
      have hji : (j : Int) < (kid l (p : Int)).length := by omega
      have hki : (k : Int) < l.length := by omega
      have hkw : IntKind.i64.wrap ((j : Int) + 1) = (j : Int) + 1 := by rw [IntKind.wrap_i64]; omega
      have HF1 := Lib.hid (fun w9 (h : Below wr.drew.heap.size wr.drew w9) => And.intro (cells4_of (x := Q) (hM.drew.keep (h.mono hC)).r) (cell_below h (show wr.drew.cell? ⟨g1, o1 + j, none⟩ = some (.int .i64 ((szs false l p Q.w).getD j 0)) from ck8)))
      have hM1 := hM.drew
      have hoS1 := hoS.drew
      have hoO1 := hoO.drew
      have hb1 := hb.drew
      have hC1 : C ≤ wr.drew.heap.size := hC
      have HQB := Lib.hid hQb
      clear hk hkp hszj hofj
      generalize (szs false l p Q.w).getD j 0 = sz at *
      generalize offK false l p Q.w j = of at *
      go_upto_region 17 with fail
      refine wp_region_held_drew (S := fun w' => Below wr.drew.heap.size wr.drew w') (by kernel_rfl) (Below.refl _ _) (fun hS => ?_)
      clear hM hoS hoO hb hC ck8 ck10
      generalize wr.drew = wd at *
      refine hTk hS 0 98 rfl (v := ?_) ?_ ?_
      rotate_left
      ·intro _ _; go_simp; first | done | with_reducible rfl
      simp only [Act.put, lsA, ls0, ls1]
      refine hTk hS 1 99 rfl (v := ?_) ?_ ?_
      rotate_left
      ·intro w9 hS9; obtain ⟨⟨q0, q1, q2, q3⟩, _⟩ := HF1.out _ hS9; go_simp; first | done | with_reducible rfl
      simp only [Act.put, lsA, ls0, ls1]
      refine hTk hS 2 100 rfl (v := ?_) ?_ ?_
      rotate_left
      ·intro _ _; go_simp; first | done | with_reducible rfl
      simp only [Act.put, lsA, ls0, ls1]
      refine hTk hS 3 101 rfl (v := ?_) ?_ ?_
      rotate_left
      ·intro _ _; go_simp; first | done | with_reducible rfl
      simp only [Act.put, lsA, ls0, ls1]
      refine hTk hS 4 102 rfl (v := ?_) ?_ ?_
      rotate_left
      ·intro _ _; go_simp; first | done | with_reducible rfl
      simp only [Act.put, lsA, ls0, ls1]
      refine hTk hS 5 103 rfl (v := ?_) ?_ ?_
      rotate_left
      ·intro w9 hS9; obtain ⟨⟨q0, q1, q2, q3⟩, _⟩ := HF1.out _ hS9; go_simp; first | done | with_reducible rfl
      simp only [Act.put, lsA, ls0, ls1]
      refine hTk hS 6 104 rfl (v := ?_) ?_ ?_
      rotate_left
      ·intro _ _; go_simp; first | done | with_reducible rfl
      simp only [Act.put, lsA, ls0, ls1]
      refine hTk hS 7 105 rfl (v := ?_) ?_ ?_
      rotate_left
      ·intro _ _; go_simp; first | done | with_reducible rfl
      simp only [Act.put, lsA, ls0, ls1]
      refine hTk hS 8 106 rfl (v := ?_) ?_ ?_
      rotate_left
      ·intro _ _; go_simp; first | done | with_reducible rfl
      simp only [Act.put, lsA, ls0, ls1]
      refine hTk hS 9 107 rfl (v := ?_) ?_ ?_
      rotate_left
      ·intro w9 hS9; obtain ⟨_, q4⟩ := HF1.out _ hS9; go_simp; first | done | with_reducible rfl
      simp only [Act.put, lsA, ls0, ls1]
      refine hTk hS 10 108 rfl (v := ?_) ?_ ?_
      rotate_left
      ·intro _ _; go_simp; first | done | with_reducible rfl
      simp only [Act.put, lsA, ls0, ls1]
      refine hTk hS 11 109 rfl (v := ?_) ?_ ?_
      rotate_left
      ·intro w9 hS9; obtain ⟨⟨q0, q1, q2, q3⟩, _⟩ := HF1.out _ hS9; go_simp; first | done | with_reducible rfl
      simp only [Act.put, lsA, ls0, ls1]
      refine hTk hS 12 110 rfl (v := ?_) ?_ ?_
      rotate_left
      ·intro _ _; go_simp; first | done | with_reducible rfl
      simp only [Act.put, lsA, ls0, ls1]
      have hS0 : Below wd.heap.size wd wd := Below.refl _ _
      have hww : IntKind.i64.wrap (Q.x + of) = Q.x + of := by rw [IntKind.wrap_i64]; omega
      refine wpAnyH_ready (rs := [13]) (by kernel_rfl) (by simp) ?_
      refine AllReadyH.cons (o := _) rfl (fun K9 hK9 => ?_) AllReadyH.nil
      go_simp
      refine hK9.out _ _ (hS0.alloc (Nat.le_refl _) _) (fun hS => ?_)
      clear hK9 K9
      try simp only [Act.put, lsA, ls0, ls1]
      refine wpAnyH_ready (rs := [14]) (by kernel_rfl) (by simp) ?_
      refine AllReadyH.cons (o := _) rfl (fun K9 hK9 => ?_) AllReadyH.nil
      go_simp
      refine hK9.out _ _ (hS0.alloc (Nat.le_refl _) _) (fun hS => ?_)
      clear hK9 K9
      try simp only [Act.put, lsA, ls0, ls1]
      refine wpAnyH_done (by kernel_rfl) ?_ _
      have hB7 : Below wd.heap.size wd (wd.alloc (.cells #[.int .i64 (Q.x + of), .int .i64 Q.y, .int .i64 sz, .int .i64 Q.h] 96)) := hS0.alloc (Nat.le_refl _) _
      have hK7 := Keep.new wd (.cells #[.int .i64 (Q.x + of), .int .i64 Q.y, .int .i64 sz, .int .i64 Q.h] 96)
      clear hS hS0
      generalize hW7 : wd.alloc (.cells #[.int .i64 (Q.x + of), .int .i64 Q.y, .int .i64 sz, .int .i64 Q.h] 96) = W7 at *
      clear hW7
      have HTR := Lib.hid (turnR_any ⟨Q.x + of, Q.y, sz, Q.h⟩ W7)
      unfold Rc.turn Rc.agg at HTR
      dsimp only at HTR
      have hg17 := hK7.lt
      have k0 := hK7.cell 0
      have k1 := hK7.cell 1
      have k2 := hK7.cell 2
      have k3 := hK7.cell 3
      go_wp2_with (fail)
      refine HTR.out.mono ?_
      rintro e w6 ⟨rfl, hx6⟩
      have hK6 := hK7.below hg17 hx6
      have HB8 := Lib.hid (below_set4 (o1 := 0) (o2 := 1) (o3 := 2) (o4 := 3) (hB7.trans (hx6.mono (Nat.le_of_lt hg17))) (Nat.le_refl _) (.int .i64 Q.y) (.int .i64 (Q.x + of)) (.int .i64 Q.h) (.int .i64 sz))
      have HK8 := Lib.hid ((((hK6.store 0 (.int .i64 Q.y)).store 1 (.int .i64 (Q.x + of))).store 2 (.int .i64 Q.h)).store 3 (.int .i64 sz))
      clear k0 k1 k2 k3
      have k0 := hK6.cell 0
      have k1 := hK6.cell 1
      have k2 := hK6.cell 2
      have k3 := hK6.cell 3
      have y0 := hK6.frozen 0
      have y1 := hK6.frozen 1
      have y2 := hK6.frozen 2
      have y3 := hK6.frozen 3
      clear hB7 hK7 hx6 hK6 HTR
      go_upto_region 20 with fail
      have hB8 := HB8.out
      have hK8 : Keep wd.heap.size (.cells #[.int .i64 Q.y, .int .i64 (Q.x + of), .int .i64 Q.h, .int .i64 sz] 96) _ := HK8.out
      clear HB8 HK8 k0 k1 k2 k3 y0 y1 y2 y3
      generalize ((((w6.setCell ⟨wd.heap.size, 0, none⟩ (.int .i64 Q.y)).setCell ⟨wd.heap.size, 1, none⟩ (.int .i64 (Q.x + of))).setCell ⟨wd.heap.size, 2, none⟩ (.int .i64 Q.h)).setCell ⟨wd.heap.size, 3, none⟩ (.int .i64 sz)) = W8 at *
      have hM8 := hM1.keep (hB8.mono hC1)
      have hS8 := hoS1.below hB8 (Nat.le_refl _)
      have hO8 := hoO1.below hB8 (Nat.le_refl _)
      have hb8 := hb1.trans (hB8.mono (by omega))
      have hC8 := Nat.le_trans hC1 hB8.size
      have d0 : W8.drew.cell? ⟨S + 1, 1, none⟩ = some (.slice (some ⟨S, 0, none⟩) l.length l.length) := hM8.m.c1
      have d1 : W8.drew.cell? ⟨ga, oa + j, none⟩ = some (.int .i64 (k : Int)) := HLK.out _ _ hM8.drew
      have e0 : W8.drew.cell? ⟨wd.heap.size, 0, none⟩ = some (.int .i64 (Q.y)) := hK8.cell 0
      have e1 : W8.drew.cell? ⟨wd.heap.size, 1, none⟩ = some (.int .i64 (Q.x + of)) := hK8.cell 1
      have e2 : W8.drew.cell? ⟨wd.heap.size, 2, none⟩ = some (.int .i64 (Q.h)) := hK8.cell 2
      have e3 : W8.drew.cell? ⟨wd.heap.size, 3, none⟩ = some (.int .i64 (sz)) := hK8.cell 3
      go_still_tail 10, (by kernel_rfl)
      repeat still_step
      try refine wpStill_nil ?_
      change wpList _ _ _ _ _ W8.drew
      have hM9 := hM8.drew
      have hS9' := hS8.drew
      have hO9 := hO8.drew
      have hb9 := hb8.drew
      have hC9 : C ≤ W8.drew.heap.size := hC8
      clear d0 d1 e0 e1 e2 e3 hM8 hS8 hO8 hb8 hC8 hK8 hB8 hM1 hoS1 hoO1 hb1 hC1
      generalize W8.drew = w9 at *
      have hkR : k < R'.length := by rw [hM9.m.len]; exact hkl
      obtain ⟨x, hx⟩ : ∃ x, R'[k]? = some x := ⟨_, List.getElem?_eq_getElem hkR⟩
      obtain ⟨y0, y1, y2, y3⟩ := hM9.m.at hx
      have hfz := (hM9.m.set hkl).1
      have f0 := hfz (k * 4)
      have f1 := hfz (k * 4 + 1)
      have f2 := hfz (k * 4 + 2)
      have f3 := hfz (k * 4 + 3)
      have HM9 := Lib.hid (hM9.set HS89.out.1 HS89.out.2 hkl (Q.y) (Q.x + of) (Q.h) (sz))
      have HSS := Lib.hid (own_set4 (g2 := S) (o1 := k * 4) (o2 := k * 4 + 1) (o3 := k * 4 + 2) (o4 := k * 4 + 3) hS9' (fun e => by have := (hS9'.lt _ e).1; omega) (.int .i64 (Q.y)) (.int .i64 (Q.x + of)) (.int .i64 (Q.h)) (.int .i64 (sz)))
      have HOO := Lib.hid (own_set4 (g2 := S) (o1 := k * 4) (o2 := k * 4 + 1) (o3 := k * 4 + 2) (o4 := k * 4 + 3) hO9 (fun e => by have := (hO9.lt _ e).1; omega) (.int .i64 (Q.y)) (.int .i64 (Q.x + of)) (.int .i64 (Q.h)) (.int .i64 (sz)))
      have HBB := Lib.hid (below_set4 (g := S) (o1 := k * 4) (o2 := k * 4 + 1) (o3 := k * 4 + 2) (o4 := k * 4 + 3) hb9 (Nat.le_refl _) (.int .i64 (Q.y)) (.int .i64 (Q.x + of)) (.int .i64 (Q.h)) (.int .i64 (sz)))
      have HP9 := Lib.hid (HPS.out R' hP.out hkR)
      clear hM9 hS9' hO9 hb9 hfz hx
      go_wp2
      go_roundw
      case rel =>
       refine ⟨j + 1, by omega, by go_num, ⟨_, HM9.out, ?_⟩, HSS.out, HOO.out, HBB.out, by simp [World.setCell]; omega⟩
       have h := HP9.out
       rw [HRE.out] at h
       exact h
      case measure => simp [intOf]; omega
     ·obtain rfl : j = (kid l (p : Int)).length := by omega
      have HBE := Lib.hid hb
      have HME := Lib.hid hM.m
      clear hb hM
      go_wp2_with (fail)
      go_end0
      exact ⟨rfl, R', HME.out, HBE.out, hP.out⟩
/-- the boxes directly in the first k boxes have their rectangles -/
def Laid (l : List Bx) (w h : Int) (k : Nat) (R : List Rc) : Prop := ∀ i, i < l.length → par l i < (k : Int) → R[i]? = some (rect l w h i)
theorem laid_zero {l : List Bx} (hv : Valid l) (w h : Int) : Laid l w h 0 ((List.replicate l.length zr).set 0 ⟨0, 0, w, h⟩) := by
 intro i hi hp
 have h0 : i = 0 := by
  rcases Nat.eq_zero_or_pos i with h | h
  ·exact h
  ·have := (hv.par i h hi).1
   omega
 subst h0
 rw [List.getElem?_set_self (by simpa using hi), rect_root hv]
theorem laid_step {l : List Bx} (hv : Valid l) {w h : Int} {k : Nat} {R R' : List Rc} (hL : Laid l w h k R) (hP : PutTo l k (rect l w h k) (kid l (k : Int)).length R R') : Laid l w h (k + 1) R' := by
 intro i hi hp
 by_cases hk : par l i = (k : Int)
 ·obtain ⟨j, hj⟩ := List.getElem?_of_mem (mem_kid_iff.2 ⟨hi, hk⟩)
  rw [hP.1 j i (List.getElem?_eq_some_iff.1 hj).1 hj, rect_kid hv hj]
 ·rw [hP.2 i (fun j _ e => hk (mem_kid_iff.1 (List.mem_of_getElem? e)).2)]
  exact hL i hi (by omega)
theorem laid_full {l : List Bx} (hv : Valid l) {w h : Int} {R : List Rc} (hl : R.length = l.length) (hL : Laid l w h l.length R) : R = rectL l w h :=
 rectL_of hl fun i hi => hL i hi (by
  have := (hv.down hi) i (Nat.le_refl _)
  omega)
set_option maxRecDepth 100000 in
set_option maxHeartbeats 40000000 in
theorem layoutOf_any {tv : Value} {l : List Bx} {sw sh : Int} (W : World) (hrd : Rd W 9 tv (Bs l)) (hv : Valid l) (hsw : 0 ≤ sw ∧ sw ≤ 10000) (hsh : 0 ≤ sh ∧ sh ≤ 10000) :
 Calls Tryz.prog 90 #[tv, .int .i64 sw, .int .i64 sh] W fun e w' => e = .returned (.pointer (some ⟨W.heap.size + 1, 0, none⟩)) ∧ LyM W.heap.size w' tv l.length (rectL l sw sh) ∧ Ext W w' := by
 obtain ⟨at_, ct, rfl, hnt, hct, HXX⟩ := hrd.boxes
 clear HXX
 have hlo := hv.lo
 have hhi := hv.hi
 unfold maxLen at hct
 have hmk := fun W => mk_run (P := Tryz.prog) el_rect l.length l.length (Nat.le_refl _) (by omega) W
 have HV := Lib.hid hv
 have HRD := Lib.hid hrd
 have h0l : (0 : Int) < l.length := by omega
 have hoR := Own.madeRects W W.heap.size l.length 96 (Nat.le_refl _) (by omega)
 have hK := Keep.new (W.alloc (.cells (madeCells zr.agg.cells (l.length * 4)) 96)) (.cells #[.slice (some ⟨at_.elim 0 Addr.block, 0, none⟩) 0 0] 0)
 clear hK hv hrd
 have hM0 : LyM W.heap.size ((W.alloc (.cells (madeCells zr.agg.cells (l.length * 4)) 96)).alloc (.cells #[.slice at_ l.length ct, .slice (some ⟨W.heap.size, 0, none⟩) l.length l.length] 124)) (.slice at_ l.length ct) l.length (List.replicate l.length zr) := by
  have hk := Keep.new (W.alloc (.cells (madeCells zr.agg.cells (l.length * 4)) 96)) (.cells #[.slice at_ l.length ct, .slice (some ⟨W.heap.size, 0, none⟩) l.length l.length] 124)
  rw [World.size_alloc] at hk
  exact ⟨by simp, hk.cell 0, hk.cell 1, hoR.alloc _, by simp⟩
 have hb0 : Below W.heap.size W ((W.alloc (.cells (madeCells zr.agg.cells (l.length * 4)) 96)).alloc (.cells #[.slice at_ l.length ct, .slice (some ⟨W.heap.size, 0, none⟩) l.length l.length] 124)) := ext_two _ _ _
 go_enter Tryz.func90, Tryz.ntmps90
 go_upto_region 2 with fail
 rw [show zr.agg.cells = #[.int .i64 0, .int .i64 0, .int .i64 0, .int .i64 0] from rfl] at hM0 hb0
 generalize (W.alloc (.cells (madeCells #[.int .i64 0, .int .i64 0, .int .i64 0, .int .i64 0] (l.length * 4)) 96)).alloc (.cells #[.slice at_ l.length ct, .slice (some ⟨W.heap.size, 0, none⟩) l.length l.length] 124) = W1 at *
 obtain ⟨hfz, hset⟩ := hM0.set (show 0 < l.length by omega)
 have hM1 := hset ⟨0, 0, sw, sh⟩
 obtain ⟨z0, z1, z2, z3⟩ := hM0.at (k := 0) (r := zr) (by rw [List.getElem?_replicate, if_pos (by omega)])
 have m1 := hM0.c1
 have f0 := hfz 0
 have f1 := hfz 1
 have f2 := hfz 2
 have f3 := hfz 3
 have hb1 := below_set4 (g := W.heap.size) (o1 := 0) (o2 := 1) (o3 := 2) (o4 := 3) hb0 (Nat.le_refl _) (.int .i64 0) (.int .i64 0) (.int .i64 sw) (.int .i64 sh)
 simp only [Nat.zero_mul, Nat.zero_add] at z0 z1 z2 z3 hM1
 unfold zr at z0 z1 z2 z3
 have hL1 : Hid (Laid l sw sh 0 ((List.replicate l.length zr).set 0 ⟨0, 0, sw, sh⟩)) := laid_zero HV.out sw sh
 clear hM0 hoR hset hfz hb0 hmk
 go_wp2_with (fail)
 go_loopw [27] (fun i wr => ∃ k : Nat, k ≤ l.length ∧ i = .int .i64 k ∧ (∃ R, LyM W.heap.size wr (.slice at_ l.length ct) l.length R ∧ Hid (Laid l sw sh k R)) ∧ Ext W wr) (fun i _ => l.length - (intOf i).toNat)
 case atStart => exact ⟨0, Nat.zero_le _, rfl, ⟨_, hM1, hL1⟩, hb1⟩
 case round =>
  clear hM1 hL1 hb1 z0 z1 z2 z3 m1 f0 f1 f2 f3
  obtain ⟨k, hk, rfl, ⟨R, hM, hL⟩, hb⟩ := hrel
  by_cases hlt : k < l.length
  ·have hki : (k : Int) < l.length := by omega
   have hRD := HRD.out.below hb (Nat.le_refl _)
   obtain ⟨bt, ot, rfl, hbt, _, ⟨d0, d1, d2, d3, d4, d5, d6, d7, d8⟩⟩ := bx_cells hRD hlt
   go_upto_region 6 with fail
   have hM2 := hM.below (Below.of_alloc wr (.cells (bx l k).arr 39))
   have hb2 := hb.alloc hb.size (.cells (bx l k).arr 39)
   have hK2 := Keep.new wr (.cells (bx l k).arr 39)
   have hRD2 := hRD.alloc (.cells (bx l k).arr 39)
   have hrk : R[k]? = some (rect l sw sh k) := hL.out k hlt (by
    have := (HV.out.down hlt) k (Nat.le_refl _)
    exact this)
   have hRB := rect_ok HV.out hsw hsh hlt
   have HSTEP := Lib.hid (fun R' (h : PutTo l k (rect l sw sh k) (kid l (k : Int)).length R R') => laid_step HV.out hL.out h)
   have hkw : IntKind.i64.wrap ((k : Int) + 1) = (k : Int) + 1 := by rw [IntKind.wrap_i64]; omega
   unfold Bx.arr at hM2 hb2 hK2 hRD2
   have hg1 : W.heap.size + 2 ≤ wr.heap.size := hM.lt
   clear hM hb hRD hL d0 d1 d2 d3 d4 d5 d6 d7 d8 hbt
   generalize wr.alloc (.cells #[.int .i64 (bx l k).parent, .int .i64 (bx l k).kind, .int .i64 (bx l k).w, .int .i64 (bx l k).h, .int .i64 (bx l k).pad, .int .i64 (bx l k).gap, .int .i64 (bx l k).grow, .int .i64 (bx l k).shrink, .int .i64 (bx l k).justify] 39) = w2 at *
   obtain ⟨g, hg⟩ : ∃ g, wr.heap.size = g := ⟨_, rfl⟩
   rw [hg] at hK2 hg1 ⊢
   clear hg
   go_wp2_with (fail)
   refine (kids_any (k : Int) w2 hRD2 (by omega)).mono ?_
   rintro e w3 ⟨v3, rfl, ho3, hx3⟩
   have hM3 := hM2.below hx3
   have hb3 := hb2.trans (hx3.mono hb2.size)
   have hK3 : Keep g _ w3 := (hx3.block _ hK2.lt).trans hK2
   have hgl := hK2.lt
   have hRD3 := hRD2.below hx3 (Nat.le_refl _)
   clear hM2 hb2 hK2 hRD2 hx3
   obtain ⟨al, cl, rfl, hnl, hcl, _⟩ := ho3.rd.ints
   rw [ni_length] at hnl ho3 ⊢
   have HO3 := Lib.hid ho3
   clear ho3
   have hkc : w3.cell? ⟨g, 1, none⟩ = some (.int .i64 (bx l k).kind) := hK3.cell 1
   by_cases hnil : kid l (k : Int) = []
   ·have hz : (((kid l (k : Int)).length : Int) == 0) = true := by rw [hnil]; rfl
    have HL4 := Lib.hid (HSTEP.out R (by rw [hnil]; exact PutTo.zero _ _ _ _))
    clear hnil HSTEP
    go_wp2
    go_roundw
    case rel => exact ⟨k + 1, by omega, by go_num, ⟨R, hM3, HL4⟩, hb3⟩
    case measure => simp [intOf]; omega
   ·have hz : (((kid l (k : Int)).length : Int) == 0) = false := by
     have : 0 < (kid l (k : Int)).length := List.length_pos_iff.2 hnil
     have h2 : ((kid l (k : Int)).length : Int) ≠ 0 := by omega
     simpa using h2
    have hw0 : ∀ w', Below W.heap.size w3 w' → Rd w' 9 (.slice (some ⟨bt, ot, none⟩) l.length ct) (Bs l) := fun w' h => HRD.out.below (hb3.trans h) (Nat.le_refl _)
    have hkb := okB_bounds (HV.out.ok k hlt)
    have HST := HSTEP
    have hk0 : (bx l k).kind ≠ 0 := fun h => hnil ((HV.out.kids k hlt).2 h)
    rcases (show (bx l k).kind = 1 ∨ (bx l k).kind = 2 ∨ (bx l k).kind = 3 by omega) with hkd | hkd | hkd
    ·have e1 : ((bx l k).kind == 1) = true := by rw [hkd]; rfl
     have HC := Lib.hid (block_any w3 hM3 (hw0 w3 (Below.refl _ _)) hw0 HV.out rfl hlt hrk hRB HO3.out (by omega) (by omega) (by omega))
     clear hw0 hM3 HSTEP hkb hk0 hkd hrk hRB hnil
     go_wp2_with (fail)
     refine HC.out.mono ?_
     rintro e w4 ⟨rfl, R', hM4, hx4, hP⟩
     have hb4 := hb3.trans hx4
     have HL4 := Lib.hid (HST.out R' hP)
     clear hP hx4 hb3
     go_wp2
     go_roundw
     case rel => exact ⟨k + 1, by omega, by go_num, ⟨R', hM4, HL4⟩, hb4⟩
     case measure => simp [intOf]; omega
    ·have e1 : ((bx l k).kind == 1) = false := by rw [hkd]; rfl
     have e3 : ((bx l k).kind == 3) = false := by rw [hkd]; rfl
     have HC := Lib.hid (lineRow_any w3 hM3 (hw0 w3 (Below.refl _ _)) hw0 HV.out hlt hrk hRB HO3.out (by omega) hkd hnil)
     clear hw0 hM3 HSTEP hkb hk0 hkd hrk hRB hnil
     go_wp2_with (fail)
     refine HC.out.mono ?_
     rintro e w4 ⟨rfl, R', hM4, hx4, hP⟩
     have hb4 := hb3.trans hx4
     have HL4 := Lib.hid (HST.out R' hP)
     clear hP hx4 hb3
     go_wp2
     go_roundw
     case rel => exact ⟨k + 1, by omega, by go_num, ⟨R', hM4, HL4⟩, hb4⟩
     case measure => simp [intOf]; omega
    ·have e1 : ((bx l k).kind == 1) = false := by rw [hkd]; rfl
     have e3 : ((bx l k).kind == 3) = true := by rw [hkd]; rfl
     have HC := Lib.hid (lineCol_any w3 hM3 (hw0 w3 (Below.refl _ _)) hw0 HV.out hlt hrk hRB HO3.out (by omega) hkd hnil)
     clear hw0 hM3 HSTEP hkb hk0 hkd hrk hRB hnil
     go_wp2_with (fail)
     refine HC.out.mono ?_
     rintro e w4 ⟨rfl, R', hM4, hx4, hP⟩
     have hb4 := hb3.trans hx4
     have HL4 := Lib.hid (HST.out R' hP)
     clear hP hx4 hb3
     go_wp2
     go_roundw
     case rel => exact ⟨k + 1, by omega, by go_num, ⟨R', hM4, HL4⟩, hb4⟩
     case measure => simp [intOf]; omega
  ·obtain rfl : k = l.length := by omega
   go_wp2
   go_ret
   refine ⟨rfl, ?_, hb⟩
   rw [laid_full HV.out hM.len hL.out] at hM
   exact hM
theorem roR_f {l : List Bx} {sw sh i : Int} (h : roB l sw sh i = false) : roR l sw sh i = zr := by
 unfold roR
 rw [h]
 rfl
theorem roR_t {l : List Bx} {sw sh i : Int} (h : roB l sw sh i = true) : roR l sw sh i = rect l sw sh i.toNat := by
 unfold roR
 rw [if_pos h]
set_option maxRecDepth 100000 in
set_option maxHeartbeats 4000000 in
theorem RectOf_any {v : Value} {l : List Bx} (sw sh i : Int) (w : World) (hv : Rd w 9 v (Bs l)) :
 Calls Tryz.prog 62 #[v, .int .i64 sw, .int .i64 sh, .int .i64 i] w fun x w' => x = .returned (.tuple #[(roR l sw sh i).agg, .bool (roB l sw sh i)]) ∧ Ext w w' := by
 have hrd := hv.alloc (.cells #[.int .i64 0, .int .i64 0, .int .i64 0, .int .i64 0] 96)
 obtain ⟨a, c, rfl, hn, hc, _⟩ := hv.boxes
 unfold maxLen at hc
 have hlw : IntKind.i64.wrap ((l.length : Int) - 1) = (l.length : Int) - 1 := by rw [IntKind.wrap_i64]; omega
 have hb0 := Below.of_alloc w (.cells #[.int .i64 0, .int .i64 0, .int .i64 0, .int .i64 0] 96)
 have k0 := Keep.new w (.cells #[.int .i64 0, .int .i64 0, .int .i64 0, .int .i64 0] 96)
 clear hv
 go_enter Tryz.func62, Tryz.ntmps62
 go_upto_region 1 with fail
 generalize w.alloc (.cells #[.int .i64 0, .int .i64 0, .int .i64 0, .int .i64 0] 96) = W at *
 obtain ⟨g, hg⟩ : ∃ g, w.heap.size = g := ⟨_, rfl⟩
 rw [hg] at k0 ⊢
 have hgw : w.heap.size ≤ g := by omega
 clear hg
 cases hok : scrB l sw sh with
 | false =>
  have hE : roB l sw sh i = false := by unfold roB; rw [hok]; rfl
  have HE := Lib.hid (And.intro hE (roR_f hE))
  go_wp2_with (fail)
  refine (screenOk_any (l := l) _ _ _ hrd).mono ?_
  rintro e w1 ⟨he, hx⟩
  rw [hok] at he
  subst he
  replace hb0 := after hb0 hx (Nat.le_refl _)
  replace k0 : Keep g _ w1 := (hx.block _ k0.lt).trans k0
  have q0 := k0.cell 0
  have q1 := k0.cell 1
  have q2 := k0.cell 2
  have q3 := k0.cell 3
  have z0 := k0.frozen 0
  have z1 := k0.frozen 1
  have z2 := k0.frozen 2
  have z3 := k0.frozen 3
  have hl := k0.lt
  have HB := Lib.hid hb0
  clear k0 hb0
  clear hx hok hE hrd
  go_wp2
  refine bodyPost_ret (v := .tuple #[.agg #[.int .i64 0, .int .i64 0, .int .i64 0, .int .i64 0], .bool false]) ?_ rfl ⟨by rw [HE.out.1, HE.out.2]; rfl, ?_⟩
  ·simp [results, Tryz.results62, go_sem, q0, q1, q2, q3]
  ·exact below_set4' HB.out hgw _ _ _ _
 | true =>
  go_wp2_with (fail)
  refine (screenOk_any (l := l) _ _ _ hrd).mono ?_
  rintro e w1 ⟨he, hx⟩
  rw [hok] at he
  subst he
  replace hb0 := after hb0 hx (Nat.le_refl _)
  replace k0 : Keep g _ w1 := (hx.block _ k0.lt).trans k0
  replace hrd := hrd.below hx (Nat.le_refl _)
  clear hx
  go_wp2_with (fail)
  refine (within_any _ _ _ _).mono ?_
  rintro e w2 ⟨he, rfl⟩
  try rw [hlw] at he
  cases hin : inR i 0 ((l.length : Int) - 1) with
  | false =>
   rw [hin] at he
   subst he
   have hE : roB l sw sh i = false := by unfold roB; rw [hok, hin]; rfl
   have HE := Lib.hid (And.intro hE (roR_f hE))
   have q0 := k0.cell 0
   have q1 := k0.cell 1
   have q2 := k0.cell 2
   have q3 := k0.cell 3
   have z0 := k0.frozen 0
   have z1 := k0.frozen 1
   have z2 := k0.frozen 2
   have z3 := k0.frozen 3
   have hl := k0.lt
   have HB := Lib.hid hb0
   clear k0 hb0
   clear hok hin hE hrd
   go_wp2
   refine bodyPost_ret (v := .tuple #[.agg #[.int .i64 0, .int .i64 0, .int .i64 0, .int .i64 0], .bool false]) ?_ rfl ⟨by rw [HE.out.1, HE.out.2]; rfl, ?_⟩
   ·simp [results, Tryz.results62, go_sem, q0, q1, q2, q3]
   ·exact below_set4' HB.out hgw _ _ _ _
  | true =>
   rw [hin] at he
   subst he
   have hE : roB l sw sh i = true := by unfold roB; rw [hok, hin]; rfl
   have HE := Lib.hid (And.intro hE (roR_t hE))
   obtain ⟨hi0, hi1⟩ := inR_iff.1 hin
   obtain ⟨k, rfl⟩ := Int.eq_ofNat_of_zero_le hi0
   obtain ⟨hval, hsw, hsh⟩ := scrB_iff.1 hok
   have HC := Lib.hid (layoutOf_any _ hrd hval hsw hsh)
   have hk : k < l.length := by omega
   have hki : (k : Int) < l.length := by omega
   clear hok hin hE hrd hval hsw hsh hi0
   go_wp2_with (fail)
   refine HC.out.mono ?_
   rintro e w4 ⟨rfl, hM, hx⟩
   replace hb0 := after hb0 hx (Nat.le_refl _)
   replace k0 : Keep g _ w4 := (hx.block _ k0.lt).trans k0
   have m1 := hM.c1
   obtain ⟨c0, c1, c2, c3⟩ := hM.at (rectL_get (w := sw) (h := sh) hk)
   rw [Int.toNat_natCast] at HE
   generalize rect l sw sh k = r at *
   have q0 := k0.cell 0
   have q1 := k0.cell 1
   have q2 := k0.cell 2
   have q3 := k0.cell 3
   have z0 := k0.frozen 0
   have z1 := k0.frozen 1
   have z2 := k0.frozen 2
   have z3 := k0.frozen 3
   have hl := k0.lt
   have HB := Lib.hid hb0
   clear k0 hb0
   clear hM hx
   go_wp2
   refine bodyPost_ret (v := .tuple #[.agg #[.int .i64 r.x, .int .i64 r.y, .int .i64 r.w, .int .i64 r.h], .bool true]) ?_ rfl ⟨by rw [HE.out.1, HE.out.2]; rfl, ?_⟩
   ·simp [results, Tryz.results62, go_sem, q0, q1, q2, q3]
   ·exact below_set4' HB.out hgw _ _ _ _
set_option maxRecDepth 100000 in
set_option maxHeartbeats 4000000 in
theorem sRectOf_any {v : Value} {l : List Bx} (sw sh i : Int) (w : World) (hv : Rd w 9 v (Bs l)) (hl : l.length ≤ 1048576) :
 Calls Tryz.prog 71 #[v, .int .i64 sw, .int .i64 sh, .int .i64 i] w fun x w' => x = .returned (.tuple #[(roR l sw sh i).agg, .bool (roB l sw sh i)]) ∧ Ext w w' := by
 have hrd := hv.alloc (.cells #[.int .i64 0, .int .i64 0, .int .i64 0, .int .i64 0] 96)
 have hb0 := Below.of_alloc w (.cells #[.int .i64 0, .int .i64 0, .int .i64 0, .int .i64 0] 96)
 have k0 := Keep.new w (.cells #[.int .i64 0, .int .i64 0, .int .i64 0, .int .i64 0] 96)
 clear hv
 go_enter Tryz.func71, Tryz.ntmps71
 go_upto_region 1 with fail
 generalize w.alloc (.cells #[.int .i64 0, .int .i64 0, .int .i64 0, .int .i64 0] 96) = W at *
 obtain ⟨g, hg⟩ : ∃ g, w.heap.size = g := ⟨_, rfl⟩
 rw [hg] at k0 ⊢
 have hgw : w.heap.size ≤ g := by omega
 clear hg
 go_wp2_with (fail)
 refine (sLayoutTree_any (l := l) sw sh _ hrd hl).mono ?_
 rintro e w1 ⟨v1, rfl, ho, hx⟩
 replace hb0 := after hb0 hx (Nat.le_refl _)
 replace k0 : Keep g _ w1 := (hx.block _ k0.lt).trans k0
 have hr := ho.rd
 clear ho hx hrd
 cases hok : scrB l sw sh with
 | false =>
  have hE : roB l sw sh i = false := by unfold roB; rw [hok]; rfl
  have HE := Lib.hid (And.intro hE (roR_f hE))
  rw [rectsOr_f hok] at hr
  obtain ⟨a1, c1, rfl, hn1, hc1, _⟩ := hr.rects
  unfold maxLen at hc1
  rw [List.length_nil] at hn1 ⊢
  have hin : inR i 0 (-1) = false := by
   cases h : inR i 0 (-1) with
   | false => rfl
   | true =>
    have := inR_iff.1 h
    omega
  clear hok hE hr
  go_wp2_with (fail)
  refine (inRange_any _ _ _ _).mono ?_
  rintro e w2 ⟨he, rfl⟩
  replace he : e = .returned (.bool false) := he.trans (by rw [← hin])
  subst he
  have q0 := k0.cell 0
  have q1 := k0.cell 1
  have q2 := k0.cell 2
  have q3 := k0.cell 3
  have z0 := k0.frozen 0
  have z1 := k0.frozen 1
  have z2 := k0.frozen 2
  have z3 := k0.frozen 3
  have hl := k0.lt
  have HB := Lib.hid hb0
  clear k0 hb0
  go_wp2
  refine bodyPost_ret (v := .tuple #[.agg #[.int .i64 0, .int .i64 0, .int .i64 0, .int .i64 0], .bool false]) ?_ rfl ⟨by rw [HE.out.1, HE.out.2]; rfl, ?_⟩
  ·simp [results, Tryz.results71, go_sem, q0, q1, q2, q3]
  ·exact below_set4' HB.out hgw _ _ _ _
 | true =>
  rw [rectsOr_t hok] at hr
  have hlo := (scrB_iff.1 hok).1.lo
  obtain ⟨bO, oO, cO, rfl, hnO, hcO, hRC⟩ := rectS hr hlo
  have hlw : IntKind.i64.wrap ((l.length : Int) - 1) = (l.length : Int) - 1 := by rw [IntKind.wrap_i64]; omega
  clear hr
  go_wp2_with (fail)
  refine (inRange_any _ _ _ _).mono ?_
  rintro e w2 ⟨he, rfl⟩
  try rw [hlw] at he
  cases hin : inR i 0 ((l.length : Int) - 1) with
  | false =>
   rw [hin] at he
   subst he
   have hE : roB l sw sh i = false := by unfold roB; rw [hok, hin]; rfl
   have HE := Lib.hid (And.intro hE (roR_f hE))
   have q0 := k0.cell 0
   have q1 := k0.cell 1
   have q2 := k0.cell 2
   have q3 := k0.cell 3
   have z0 := k0.frozen 0
   have z1 := k0.frozen 1
   have z2 := k0.frozen 2
   have z3 := k0.frozen 3
   have hl := k0.lt
   have HB := Lib.hid hb0
   clear k0 hb0
   clear hok hin hE hRC
   go_wp2
   refine bodyPost_ret (v := .tuple #[.agg #[.int .i64 0, .int .i64 0, .int .i64 0, .int .i64 0], .bool false]) ?_ rfl ⟨by rw [HE.out.1, HE.out.2]; rfl, ?_⟩
   ·simp [results, Tryz.results71, go_sem, q0, q1, q2, q3]
   ·exact below_set4' HB.out hgw _ _ _ _
  | true =>
   rw [hin] at he
   subst he
   have hE : roB l sw sh i = true := by unfold roB; rw [hok, hin]; rfl
   have HE := Lib.hid (And.intro hE (roR_t hE))
   obtain ⟨hi0, hi1⟩ := inR_iff.1 hin
   obtain ⟨k, rfl⟩ := Int.eq_ofNat_of_zero_le hi0
   have hk : k < l.length := by omega
   have hki : (k : Int) < l.length := by omega
   obtain ⟨c0, c1, c2, c3⟩ := hRC.cs k hk
   rw [Int.toNat_natCast] at HE
   generalize rect l sw sh k = r at *
   have q0 := k0.cell 0
   have q1 := k0.cell 1
   have q2 := k0.cell 2
   have q3 := k0.cell 3
   have z0 := k0.frozen 0
   have z1 := k0.frozen 1
   have z2 := k0.frozen 2
   have z3 := k0.frozen 3
   have hl := k0.lt
   have HB := Lib.hid hb0
   clear k0 hb0
   clear hok hin hE hi0 hRC
   go_wp2
   refine bodyPost_ret (v := .tuple #[.agg #[.int .i64 r.x, .int .i64 r.y, .int .i64 r.w, .int .i64 r.h], .bool true]) ?_ rfl ⟨by rw [HE.out.1, HE.out.2]; rfl, ?_⟩
   ·simp [results, Tryz.results71, go_sem, q0, q1, q2, q3]
   ·exact below_set4' HB.out hgw _ _ _ _
theorem hitI_t {l : List Bx} {sw sh x y : Int} (h : scrB l sw sh = true) : hitI l sw sh x y = hitTo l sw sh x y l.length := by
 unfold hitI
 rw [if_pos h]
theorem hitI_f {l : List Bx} {sw sh x y : Int} (h : scrB l sw sh = false) : hitI l sw sh x y = -1 := by
 unfold hitI
 rw [h]
 rfl
theorem hit_yes {l : List Bx} {sw sh x y : Int} {k : Nat} (h : hitB l sw sh x y k = true) : hitTo l sw sh x y (k + 1) = (k : Int) := by
 unfold hitTo
 rw [if_pos h]
theorem hit_no {l : List Bx} {sw sh x y : Int} {k : Nat} (h : hitB l sw sh x y k = false) : hitTo l sw sh x y (k + 1) = hitTo l sw sh x y k := by
 conv => lhs; unfold hitTo
 rw [h]
 rfl
theorem miss_path (l : List Bx) (sw sh x y : Int) (k : Nat) : ((ni (anc l k).reverse).any fun m => !hasB (rect l sw sh m.toNat) x y) = !hitB l sw sh x y k := by
 unfold hitB
 rw [ni_reverse, List.any_reverse]
 generalize anc l k = s
 induction s with
 | nil => rfl
 | cons a t ih =>
  rw [show ni (a :: t) = (a : Int) :: ni t from rfl, List.any_cons, List.all_cons, ih, Int.toNat_natCast, Bool.not_and]
theorem hitB_root {l : List Bx} (hv : Valid l) {sw sh x y : Int} (h : hasB (rect l sw sh 0) x y = true) : hitB l sw sh x y 0 = true := by
 rw [hitB_iff, anc_root (hv.down hv.lo) (by have := hv.root; omega)]
 intro p hp
 rw [List.mem_singleton] at hp
 subst hp
 exact h
theorem hitB_miss {l : List Bx} (hv : Valid l) {sw sh x y : Int} {q : Nat} (hq : q < l.length) (h : hasB (rect l sw sh q) x y = false) : hitB l sw sh x y q = false := by
 cases hh : hitB l sw sh x y q with
 | false => rfl
 | true =>
  have := hitB_iff.1 hh q (anc_self (hv.down hq))
  rw [h] at this
  cases this
theorem hitB_up {l : List Bx} (hv : Valid l) {sw sh x y : Int} {q p : Nat} (hq : q < l.length) (hp : par l q = (p : Int)) (h : hasB (rect l sw sh q) x y = true) : hitB l sw sh x y q = hitB l sw sh x y p := by
 unfold hitB
 rw [anc_up (hv.down hq) hp, List.all_cons, h, Bool.true_and]
theorem missEnter (args : Array Value) (w : World) : (callFunc 93 args).run Tryz.prog w = .ok (.enter 93 args) w := by
 kernel_rfl
set_option maxHeartbeats 2000000 in
theorem miss_any {S n k g1 g2 g3 : Nat} {tv : Value} {R : List Rc} {r : Rc} (x y : Int) (w : World) (hM : LyM S w tv n R) (hr : R[k]? = some r) (hk : k < n) (hs : RS r)
 (h1 : w.cell? ⟨g1, 0, none⟩ = some (.slice (some ⟨S, 0, none⟩) n n)) (h2 : w.cell? ⟨g2, 0, none⟩ = some (.int .i64 x)) (h3 : w.cell? ⟨g3, 0, none⟩ = some (.int .i64 y)) :
 Calls Tryz.prog 93 #[.int .i64 (k : Int), .pointer (some ⟨g1, 0, none⟩), .pointer (some ⟨g2, 0, none⟩), .pointer (some ⟨g3, 0, none⟩)] w fun e w' => e = .returned (.bool (!hasB r x y)) ∧ Ext w w' := by
 obtain ⟨c0, c1, c2, c3⟩ := hM.at hr
 have hki : (k : Int) < n := by omega
 clear hM hr
 go_enter Tryz.func93, Tryz.ntmps93
 go_upto_region 1 with fail
 refine wp_region_held_drew (S := fun w' => Below w.heap.size w w') (by kernel_rfl) (Below.refl _ _).drew (fun hS => ?_)
 change wpAnyH _ _ _ _ _ _ _ _ w.drew
 generalize w.drew = wd at *
 refine hTk hS 0 6 rfl (v := ?_) ?_ ?_
 rotate_left
 ·intro w9 hS9; have q := cell_below hS9 h1; go_simp; first | done | with_reducible rfl
 simp only [Act.put, lsA, ls0, ls1]
 refine hTk hS 1 7 rfl (v := ?_) ?_ ?_
 rotate_left
 ·intro _ _; go_simp; first | done | with_reducible rfl
 simp only [Act.put, lsA, ls0, ls1]
 refine hTk hS 2 8 rfl (v := ?_) ?_ ?_
 rotate_left
 ·intro _ _; go_simp; first | done | with_reducible rfl
 simp only [Act.put, lsA, ls0, ls1]
 refine hTk hS 3 9 rfl (v := ?_) ?_ ?_
 rotate_left
 ·intro w9 hS9; have q0 := cell_below hS9 c0; have q1 := cell_below hS9 c1; have q2 := cell_below hS9 c2; have q3 := cell_below hS9 c3; go_simp; first | done | with_reducible rfl
 simp only [Act.put, lsA, ls0, ls1]
 refine hTk hS 4 10 rfl (v := ?_) ?_ ?_
 rotate_left
 ·intro w9 hS9; have q := cell_below hS9 h2; go_simp; first | done | with_reducible rfl
 simp only [Act.put, lsA, ls0, ls1]
 refine hTk hS 5 11 rfl (v := ?_) ?_ ?_
 rotate_left
 ·intro w9 hS9; have q := cell_below hS9 h3; go_simp; first | done | with_reducible rfl
 simp only [Act.put, lsA, ls0, ls1]
 refine wpAnyH_ready (rs := [6]) (by kernel_rfl) (by simp) ?_
 refine AllReadyH.cons (o := _) rfl (fun K9 hK9 => ?_) AllReadyH.nil
 go_simp
 refine (has_any (r := r) x y _ hs).mono ?_
 rintro e w7 ⟨rfl, hx7⟩
 try go_wp2_with fail
 refine hK9.out _ _ (after hS hx7 (Nat.le_refl _)) (fun hS => ?_)
 clear hK9 K9
 try simp only [Act.put, lsA, ls0, ls1]
 clear hx7
 refine hTk hS 7 13 rfl (v := ?_) ?_ ?_
 rotate_left
 ·intro _ _; go_simp; first | done | with_reducible rfl
 simp only [Act.put, lsA, ls0, ls1]
 refine hTk hS 8 5 rfl (v := ?_) ?_ ?_
 rotate_left
 ·intro _ _; go_simp; first | done | with_reducible rfl
 simp only [Act.put, lsA, ls0, ls1]
 refine wpAnyH_done (by kernel_rfl) ?_ _
 have HB6 := Lib.hid hS
 clear hS
 go_wp2
 go_ret
 exact ⟨rfl, HB6.out⟩
set_option maxRecDepth 100000 in
set_option maxHeartbeats 8000000 in
theorem HitBox_any {v : Value} {l : List Bx} (sw sh x y : Int) (w : World) (hv : Rd w 9 v (Bs l)) :
 Calls Tryz.prog 64 #[v, .int .i64 sw, .int .i64 sh, .int .i64 x, .int .i64 y] w fun e w' => e = .returned (.int .i64 (hitI l sw sh x y)) ∧ Ext w w' := by
 have hrd := (hv.alloc (.cells #[.int .i64 x] 3)).alloc (.cells #[.int .i64 y] 3)
 have hb : Below w.heap.size w ((w.alloc (.cells #[.int .i64 x] 3)).alloc (.cells #[.int .i64 y] 3)) := (Below.of_alloc _ _).alloc (by simp) _
 have k1 := (Keep.new w (.cells #[.int .i64 x] 3)).alloc (.cells #[.int .i64 y] 3)
 have k2 := keep_next w (.cells #[.int .i64 x] 3) (.cells #[.int .i64 y] 3)
 obtain ⟨a, c, rfl, hn, hc, _⟩ := hv.boxes
 unfold maxLen at hc
 clear hv
 go_enter Tryz.func64, Tryz.ntmps64
 go_wp2_with (fail)
 change Calls _ _ _ ((w.alloc (.cells #[.int .i64 x] 3)).alloc (.cells #[.int .i64 y] 3)) _
 generalize (w.alloc (.cells #[.int .i64 x] 3)).alloc (.cells #[.int .i64 y] 3) = W at *
 obtain ⟨g, hg⟩ : ∃ g, w.heap.size = g := ⟨_, rfl⟩
 rw [hg] at k1 k2 ⊢
 clear hg
 cases hok : scrB l sw sh with
 | false =>
  have HO := Lib.hid (hitI_f (x := x) (y := y) hok)
  refine (screenOk_any (l := l) _ _ _ hrd).mono ?_
  rintro e w1 ⟨he, hx⟩
  rw [hok] at he
  subst he
  replace hb := after hb hx (Nat.le_refl _)
  clear hok hrd hx k1 k2
  go_wp2
  go_ret
  exact ⟨by rw [HO.out]; rfl, hb⟩
 | true =>
  have HO := Lib.hid (hitI_t (x := x) (y := y) hok)
  refine (screenOk_any (l := l) _ _ _ hrd).mono ?_
  rintro e w1 ⟨he, hx⟩
  rw [hok] at he
  subst he
  replace hb := after hb hx (Nat.le_refl _)
  replace hrd := hrd.below hx (Nat.le_refl _)
  replace k1 := keepE k1 hx
  replace k2 := keepE k2 hx
  obtain ⟨hval, hsw, hsh⟩ := scrB_iff.1 hok
  have hlo := hval.lo
  have hhi := hval.hi
  have HV := Lib.hid hval
  have HRS := Lib.hid (fun k (hk : k < l.length) => (rect_ok HV.out hsw hsh hk).rs (by omega))
  have HC := Lib.hid (layoutOf_any _ hrd hval hsw hsh)
  clear hok hval hsw hsh hx
  go_wp2_with (fail)
  refine HC.out.mono ?_
  rintro e w2 ⟨rfl, hM, hx⟩
  replace hb := after hb hx (Nat.le_refl _)
  replace hrd := hrd.below hx (Nat.le_refl _)
  replace k1 := keepE k1 hx
  replace k2 := keepE k2 hx
  have m1 := hM.c1
  obtain ⟨S, hS⟩ : ∃ S, w1.heap.size = S := ⟨_, rfl⟩
  rw [hS] at hM m1 ⊢
  clear hx hS HC
  go_wp2_with (fail)
  have k3 := Keep.new w2 (.cells #[.slice (some ⟨S, 0, none⟩) l.length l.length] 101)
  replace k1 := k1.alloc (.cells #[.slice (some ⟨S, 0, none⟩) l.length l.length] 101)
  replace k2 := k2.alloc (.cells #[.slice (some ⟨S, 0, none⟩) l.length l.length] 101)
  replace hM := hM.below (Below.of_alloc w2 (.cells #[.slice (some ⟨S, 0, none⟩) l.length l.length] 101))
  replace hrd := hrd.alloc (.cells #[.slice (some ⟨S, 0, none⟩) l.length l.length] 101)
  replace hb := hb.alloc hb.size (.cells #[.slice (some ⟨S, 0, none⟩) l.length l.length] 101)
  generalize w2.alloc (.cells #[.slice (some ⟨S, 0, none⟩) l.length l.length] 101) = W3 at *
  obtain ⟨h, hh⟩ : ∃ h, w2.heap.size = h := ⟨_, rfl⟩
  rw [hh] at k3 ⊢
  clear hh m1
  have HK1 := Lib.hid k1
  have HK2 := Lib.hid k2
  have HK3 := Lib.hid k3
  have HM := Lib.hid hM
  have HR := Lib.hid hrd
  have HB := Lib.hid hb
  clear k1 k2 k3 hM hrd hb
  go_loopw [13] (fun i wr => ∃ k : Nat, k ≤ l.length ∧ i = .int .i64 ((k : Int) - 1) ∧ Hid (hitTo l sw sh x y l.length = hitTo l sw sh x y k) ∧ Below W3.heap.size W3 wr) (fun i _ => (intOf i + 1).toNat)
  case atStart => exact ⟨l.length, Nat.le_refl _, by go_num, rfl, Below.refl _ _⟩
  case round =>
   obtain ⟨k, hk, rfl, hH, hb⟩ := hrel
   by_cases h0 : k = 0
   ·have hz : ¬ (0 : Int) ≤ (k : Int) - 1 := by omega
    have HE : Hid (hitI l sw sh x y = -1) := by
     show _ = _
     rw [HO.out, hH.out, h0]
     rfl
    clear hH
    go_wp2
    go_ret
    exact ⟨by rw [HE.out]; rfl, HB.out.trans (hb.mono HB.out.size)⟩
   ·obtain ⟨j, rfl⟩ : ∃ j, k = j + 1 := ⟨k - 1, by omega⟩
    have hj : ((j + 1 : Nat) : Int) - 1 = (j : Int) := by omega
    have hjl : j < l.length := by omega
    rw [hj]
    go_wp2_with (fail)
    refine (path_any (l := l) (i := j) _ (HR.out.below hb (Nat.le_refl _)) hjl (HV.out.down hjl) (by omega)).mono ?_
    rintro e w4 ⟨v4, rfl, ho4, hx4⟩
    have hb4 := after hb hx4 (Nat.le_refl _)
    have hr4 := ho4.rd
    clear ho4 hx4 hb
    go_wp2_with (fail)
    refine (ContainsFunc3_any (l := ni (anc l j).reverse) missEnter (fun m => !hasB (rect l sw sh m.toNat) x y) _ hr4 (fun m hm w' hw' => ?_)).mono ?_
    ·obtain ⟨q, hq, rfl⟩ := mem_ni.1 hm
     rw [List.mem_reverse] at hq
     have hql := anc_le j (HV.out.down hjl) q hq
     have hb5 := hb4.trans (hw'.mono hb4.size)
     rw [Int.toNat_natCast]
     exact miss_any (R := rectL l sw sh) x y w' (HM.out.below hb5) (rectL_get (by omega)) (by omega) (HRS.out q (by omega)) (keepE HK3.out hb5 |>.cell 0) (keepE HK1.out hb5 |>.cell 0) (keepE HK2.out hb5 |>.cell 0)
    rintro e w5 ⟨he, hx5⟩
    rw [miss_path] at he
    have hb5 := after hb4 hx5 (Nat.le_refl _)
    clear hr4 hx5 hb4
    cases hh : hitB l sw sh x y j with
    | true =>
     rw [hh] at he
     subst he
     have HE : Hid (hitI l sw sh x y = (j : Int)) := by
      show _ = _
      rw [HO.out, hH.out, hit_yes hh]
     clear hH hh
     go_wp2
     go_ret
     exact ⟨by rw [HE.out]; rfl, HB.out.trans (hb5.mono HB.out.size)⟩
    | false =>
     rw [hh] at he
     subst he
     have HE : Hid (hitTo l sw sh x y l.length = hitTo l sw sh x y j) := by
      show _ = _
      rw [hH.out, hit_no hh]
     clear hH hh
     go_wp2
     go_roundw
     case rel => exact ⟨j, by omega, by go_num, HE, hb5⟩
     case measure => first | (simp [intOf]; done) | (simp [intOf]; omega)
set_option maxRecDepth 100000 in
set_option maxHeartbeats 8000000 in
theorem shit_any {v u : Value} {l : List Bx} {sw sh : Int} (x y : Int) (w : World) (hv : Rd w 9 v (Bs l)) (hu : Rd w 4 u (Rs (rectL l sw sh))) (hval : Valid l) (hsw : 0 ≤ sw ∧ sw ≤ 10000) (hsh : 0 ≤ sh ∧ sh ≤ 10000) :
 Calls Tryz.prog 73 #[v, u, .int .i64 x, .int .i64 y] w fun e w' => e = .returned (.int .i64 (hitTo l sw sh x y l.length)) ∧ Ext w w' := by
 have HRD := Lib.hid hv
 have hlo := hval.lo
 have hhi := hval.hi
 have HRS := Lib.hid (fun k (hk : k < l.length) => (rect_ok hval hsw hsh hk).rs (by omega))
 have HV := Lib.hid hval
 obtain ⟨bO, oO, cO, rfl, hnO, hcO, hRC⟩ := rectS hu hlo
 obtain ⟨at_, ct, rfl, hnt, hct, _⟩ := hv.boxes
 unfold maxLen at hct
 obtain ⟨bT, oT, rfl, hbT, _, _⟩ := bx_cells hv hlo
 have HRC := Lib.hid hRC
 clear hRC hv hu hval
 go_enter Tryz.func73, Tryz.ntmps73
 go_wp2
 go_loopw [9] (fun i wr => ∃ k : Nat, k ≤ l.length ∧ i = .int .i64 ((k : Int) - 1) ∧ Hid (hitTo l sw sh x y l.length = hitTo l sw sh x y k) ∧ Below w.heap.size w wr) (fun i _ => (intOf i + 1).toNat)
 case atStart => exact ⟨l.length, Nat.le_refl _, by go_num, rfl, Below.refl _ _⟩
 case round =>
  obtain ⟨k, hk, rfl, hH, hb⟩ := hrel
  by_cases h0 : k = 0
  ·have hz : ¬ (0 : Int) ≤ (k : Int) - 1 := by omega
   have HE : Hid (hitTo l sw sh x y l.length = -1) := by
    show _ = _
    rw [hH.out, h0]
    rfl
   clear hH
   go_wp2
   go_ret
   exact ⟨by rw [HE.out]; rfl, hb⟩
  ·obtain ⟨j, rfl⟩ : ∃ j, k = j + 1 := ⟨k - 1, by omega⟩
   have hj : ((j + 1 : Nat) : Int) - 1 = (j : Int) := by omega
   have hjl : j < l.length := by omega
   rw [hj]
   go_wp2
   go_loopw [10] (fun a wr => ((a = .int .i64 (-1) ∧ Hid (hitB l sw sh x y j = true)) ∨ ∃ q : Nat, a = .int .i64 q ∧ q ≤ j ∧ Hid (hitB l sw sh x y j = hitB l sw sh x y q)) ∧ Below w.heap.size w wr) (fun a _ => (intOf a + 1).toNat)
   case atStart => exact ⟨.inr ⟨j, rfl, Nat.le_refl _, rfl⟩, hb⟩
   case round =>
    clear hb
    obtain ⟨⟨rfl, hT⟩ | ⟨q, rfl, hq, hQ⟩, hb⟩ := hrel
    ·have HE : Hid (hitTo l sw sh x y l.length = (j : Int)) := by
      show _ = _
      rw [hH.out, hit_yes hT.out]
     go_wp2
     go_ret
     exact ⟨by rw [HE.out]; rfl, hb⟩
    ·have hql : q < l.length := by omega
     have hqi : (q : Int) < l.length := by omega
     obtain ⟨c0, c1, c2, c3⟩ := (HRC.out.below hb (Nat.le_refl _)).cs q hql
     have t0 := (cells_at hql (HRD.out.below hb (Nat.le_refl _))).c0
     cases hh : hasB (rect l sw sh q) x y with
     | false =>
      go_wp2_with (fail)
      refine (sinRect_any (r := rect l sw sh q) x y _ (HRS.out q hql)).mono ?_
      rintro e w4 ⟨he, hx⟩
      rw [hh] at he
      subst he
      have hb4 := after hb hx (Nat.le_refl _)
      have HE : Hid (hitTo l sw sh x y l.length = hitTo l sw sh x y j) := by
       show _ = _
       rw [hH.out, hit_no (hQ.out.trans (hitB_miss HV.out hql hh))]
      clear hh hx t0 hH hQ
      go_wp2
      go_roundw
      case rel => exact ⟨j, by omega, by go_num, HE, hb4⟩
      case measure => first | (simp [intOf]; done) | (simp [intOf]; omega)
     | true =>
      go_wp2_with (fail)
      refine (sinRect_any (r := rect l sw sh q) x y _ (HRS.out q hql)).mono ?_
      rintro e w4 ⟨he, hx⟩
      rw [hh] at he
      subst he
      have hb4 := after hb hx (Nat.le_refl _)
      replace t0 := (cells_at hql (HRD.out.below hb4 (Nat.le_refl _))).c0
      have HP := Lib.hid (HV.out.par q)
      have HUP := Lib.hid (fun p (hp : par l q = (p : Nat)) => hitB_up HV.out hql hp hh)
      have HRT : Hid (q = 0 → hitB l sw sh x y j = true) := fun e => by
       subst e
       rw [hQ.out]
       exact hitB_root HV.out hh
      have HR0 := Lib.hid HV.out.root
      clear hh hx hb c0 c1 c2 c3
      go_wp2
      go_roundw
      case rel =>
       refine ⟨?_, hb4⟩
       by_cases hq0 : q = 0
       ·subst hq0
        have hr0 := HR0.out
        exact .inl ⟨by first | (congr 1; done) | (congr 1; omega), HRT.out rfl⟩
       ·have hpp := HP.out (by omega) hql
        obtain ⟨p, hp⟩ : ∃ p : Nat, par l q = p := ⟨(par l q).toNat, by omega⟩
        refine .inr ⟨p, by rw [show (bx l q).parent = (p : Int) from hp], by omega, ?_⟩
        show _ = _
        rw [hQ.out]
        exact HUP.out p hp
      case measure =>
       have hpp : par l q < (q : Int) := by
        by_cases hq0 : q = 0
        ·have hr0 := HR0.out
         subst hq0
         omega
        ·exact (HP.out (by omega) hql).2.1
       have hpd : (bx l q).parent = par l q := rfl
       simp [intOf]
       omega
set_option maxHeartbeats 2000000 in
theorem sHitBox_any {v : Value} {l : List Bx} (sw sh x y : Int) (w : World) (hv : Rd w 9 v (Bs l)) (hl : l.length ≤ 1048576) :
 Calls Tryz.prog 48 #[v, .int .i64 sw, .int .i64 sh, .int .i64 x, .int .i64 y] w fun e w' => e = .returned (.int .i64 (hitI l sw sh x y)) ∧ Ext w w' := by
 have hrd := hv
 go_enter Tryz.func48, Tryz.ntmps48
 go_wp2_with (fail)
 refine (sLayoutTree_any (l := l) sw sh _ hrd hl).mono ?_
 rintro e w1 ⟨v1, rfl, ho, hx⟩
 have hr := ho.rd
 replace hrd := hrd.below hx (Nat.le_refl _)
 have hb := hx
 clear ho hx
 cases hok : scrB l sw sh with
 | false =>
  have HO := Lib.hid (hitI_f (x := x) (y := y) hok)
  rw [rectsOr_f hok] at hr
  obtain ⟨a1, c1, rfl, hn1, hc1, _⟩ := hr.rects
  rw [List.length_nil] at hn1 ⊢
  clear hok hr
  go_wp2
  go_ret
  exact ⟨by rw [HO.out]; rfl, hb⟩
 | true =>
  have HO := Lib.hid (hitI_t (x := x) (y := y) hok)
  rw [rectsOr_t hok] at hr
  obtain ⟨hval, hsw, hsh⟩ := scrB_iff.1 hok
  have hlo := hval.lo
  have hr2 := hr
  obtain ⟨bO, oO, cO, rfl, hnO, hcO, _⟩ := rectS hr2 hlo
  have HC := Lib.hid (shit_any (sw := sw) (sh := sh) x y w1 hrd hr hval hsw hsh)
  have hne : ((l.length : Int) == 0) = false := by
   have : (l.length : Int) ≠ 0 := by omega
   simpa using this
  clear hok hval hr hr2 hrd
  go_wp2_with (fail)
  refine HC.out.mono ?_
  rintro e w2 ⟨rfl, hx⟩
  replace hb := after hb hx (Nat.le_refl _)
  go_wp2
  go_ret
  exact ⟨by rw [HO.out]; rfl, hb⟩
end Go.Proofs.YthkkgleoikpfgaaGreatDoor
