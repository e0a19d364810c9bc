/-
  Parts of the proof: Flexd SFlex SOff.
-/
import Derived.IntWalk
import Derived.Deep.CutBlock
import Derived.Deep.DeepCutAuto
import Derived.Test.YthkkgleoikpfgaaGreatDoorKAk
import Derived.Test.YthkkgleoikpfgaaGreatDoorKAa
import Derived.Test.YthkkgleoikpfgaaGreatDoorKAd
import Derived.Test.YthkkgleoikpfgaaGreatDoorKAe
namespace Go.Proofs.YthkkgleoikpfgaaGreatDoor
open Go Go.RowKit
/-- the first k of A, the rest of B -/
def mixL {α : Type} (A B : List α) (k : Nat) : List α := A.take k ++ B.drop k
theorem mixL_zero {α : Type} (A B : List α) : mixL A B 0 = B := by simp [mixL]
theorem mixL_full {α : Type} {A B : List α} (h : A.length = B.length) : mixL A B A.length = A := by
 unfold mixL
 rw [List.take_of_length_le (Nat.le_refl _), List.drop_eq_nil_of_le (by omega), List.append_nil]
theorem mixL_length {α : Type} {A B : List α} (h : A.length = B.length) {k : Nat} (hk : k ≤ A.length) : (mixL A B k).length = A.length := by
 unfold mixL
 rw [List.length_append, List.length_take, List.length_drop]
 omega
theorem mixL_get {α : Type} {A B : List α} (h : A.length = B.length) {k : Nat} (hk : k ≤ A.length) : (mixL A B k)[k]? = B[k]? := by
 unfold mixL
 rw [List.getElem?_append_right (by rw [List.length_take]; omega), List.length_take, Nat.min_eq_left hk, Nat.sub_self, List.getElem?_drop]
 simp
theorem mixL_set {α : Type} {A B : List α} (h : A.length = B.length) {k : Nat} {x : α} (hx : A[k]? = some x) : (mixL A B k).set k x = mixL A B (k + 1) := by
 have hk := (List.getElem?_eq_some_iff.1 hx).1
 have hl : (A.take k).length = k := by rw [List.length_take]; omega
 obtain ⟨y, hy⟩ : ∃ y, B[k]? = some y := ⟨_, List.getElem?_eq_getElem (by omega)⟩
 have e : B.drop k = y :: B.drop (k + 1) := by
  obtain ⟨h1, h2⟩ := List.getElem?_eq_some_iff.1 hy
  rw [List.drop_eq_getElem_cons h1, h2]
 unfold mixL
 rw [e, List.set_append, if_neg (by omega), hl, Nat.sub_self, List.set_cons_zero, List.take_add_one, hx, List.append_assoc]
 rfl
theorem mixL_same {α : Type} {A B : List α} (h : A.length = B.length) {k : Nat} {x : α} (hx : A[k]? = some x) (hy : B[k]? = some x) : mixL A B (k + 1) = mixL A B k := by
 have hk := (List.getElem?_eq_some_iff.1 hx).1
 rw [← mixL_set h hx]
 apply List.ext_getElem?
 intro i
 rw [List.getElem?_set]
 split
 ·rename_i e
  subst e
  rw [if_pos (by rw [mixL_length h (by omega)]; exact hk), mixL_get h (by omega), hy]
 ·rfl
/-- a size more is put behind the others -/
theorem FlM.app {S : Nat} {w w5 : World} {lv ov v' : Value} {out out' : List Int} (h : FlM S w lv ov out) (o1 o2 : Obj) (ho : Own w5 (S + 1) 1 v' (Is out')) (hg : ((w.alloc o1).alloc o2).grownBy w5 (blk ov))
 (hb : blk v' = blk ov ∨ ∃ k, blk v' = some k ∧ w.heap.size + 1 + 1 ≤ k) :
 S + 3 ≤ w5.heap.size ∧ w5.cell? ⟨S + 2, 0, none⟩ = some ov ∧ w5.frozen? ⟨S + 2, 0, none⟩ = false ∧ FlM S (w5.setCell ⟨S + 2, 0, none⟩ v') lv v' out' ∧ Below S w (w5.setCell ⟨S + 2, 0, none⟩ v') := by
 obtain ⟨h0, h1, h2, h3, h4, h5⟩ := h
 have hbA : Below w.heap.size w ((w.alloc o1).alloc o2) := (Below.of_alloc w o1).alloc (by simp) o2
 have hsz := hbA.size
 have hlt := h4.lt
 have e0 : w5.heap[S]? = w.heap[S]? := by
  rw [hg.block S (by omega) (fun e => by have := hlt S e.symm; omega), hbA.block S (by omega)]
 have e2 : w5.heap[S + 2]? = w.heap[S + 2]? := by
  rw [hg.block (S + 2) (by omega) (fun e => h5 e.symm), hbA.block (S + 2) (by omega)]
 have hne : blk v' ≠ some (S + 2) := by
  rcases hb with hb | ⟨k, hb, hk⟩
  ·rw [hb]; exact h5
  ·rw [hb]
   intro e
   cases e
   omega
 have hB : Below S w w5 := (hbA.mono (by omega)).grown hg (by omega) fun k hk => by have := hlt k hk; omega
 have c2 : w5.cell? ⟨S + 2, 0, none⟩ = some ov := by unfold World.cell? at h2 ⊢; rw [e2]; exact h2
 have f2 : w5.frozen? ⟨S + 2, 0, none⟩ = false := by unfold World.frozen? at h3 ⊢; rw [e2]; exact h3
 refine ⟨by have := hg.size; omega, c2, f2, ⟨by have := hg.size; simp [World.setCell]; omega, ?_, ?_, ?_, ho.setOther hne v', hne⟩, hB.setCell (by show S ≤ S + 2; omega) _⟩
 ·rw [cell_setOther _ (by dsimp only; omega)]
  unfold World.cell? at h1 ⊢
  rw [e0]
  exact h1
 ·obtain ⟨o, ho2⟩ : ∃ o, w5.heap[S + 2]? = some o := ⟨_, Array.getElem?_eq_getElem (by have := hg.size; omega)⟩
  cases o with
  | cells cs e f =>
   have hcs : 0 < cs.size := by
    rw [cell_of_heap (f := f) (by rw [ho2])] at c2
    exact (Array.getElem?_eq_some_iff.1 c2).1
   unfold World.cell? World.setCell
   simp [Array.getElem?_modify, ho2, hcs]
  | _ => simp [World.cell?, ho2] at c2
 ·rw [frozen_setCell]; exact f2
theorem wt_le {up : Bool} {fs : List Flx} {out : List Int} (hf : ∀ f, f ∈ fs → flOk f) : ∀ x, x ∈ wtL up fs out → x ≤ 10 := by
 intro x hx
 unfold wtL at hx
 obtain ⟨i, hi, rfl⟩ := List.mem_map.1 hx
 have := hf _ (fx_mem (List.mem_range.1 hi))
 unfold flOk at this
 unfold wtI wgtI
 split
 ·split <;> omega
 ·omega
theorem movs_bound {up : Bool} {fs : List Flx} {out : List Int} {left : Int} (hf : ∀ f, f ∈ fs → flOk f) (h : inB2 fs out) (hl : 0 ≤ left) (k : Nat) :
 0 ≤ isum (((List.range fs.length).map (movI up fs out (shareL left (wtL up fs out)))).take k) ∧ isum (((List.range fs.length).map (movI up fs out (shareL left (wtL up fs out)))).take k) ≤ isum ((List.range fs.length).map (movI up fs out (shareL left (wtL up fs out)))) :=
 isum_take_le (fun x hx => by
  obtain ⟨i, hi, rfl⟩ := List.mem_map.1 hx
  exact (mov_pos hf h hl (List.mem_range.1 hi)).1) k
theorem mixL_getD {A B : List Int} (h : A.length = B.length) {k : Nat} (hk : k ≤ A.length) (i : Nat) : (mixL A B k).getD i 0 = if i < k then A.getD i 0 else B.getD i 0 := by
 unfold mixL
 simp only [List.getD_eq_getElem?_getD]
 by_cases hi : i < k
 ·rw [if_pos hi, List.getElem?_append_left (by rw [List.length_take]; omega), List.getElem?_take, if_pos hi]
 ·rw [if_neg hi, List.getElem?_append_right (by rw [List.length_take]; omega), List.length_take, Nat.min_eq_left hk, List.getElem?_drop]
  congr 2
  omega
theorem inB2_mix {fs : List Flx} {A B : List Int} (hA : inB2 fs A) (hB : inB2 fs B) {k : Nat} (hk : k ≤ fs.length) : inB2 fs (mixL A B k) := by
 have hl : A.length = B.length := by rw [hA.1, hB.1]
 refine ⟨by rw [mixL_length hl (by rw [hA.1]; exact hk), hA.1], fun i hi => ?_⟩
 rw [mixL_getD hl (by rw [hA.1]; exact hk)]
 split
 ·exact hA.2 i hi
 ·exact hB.2 i hi
theorem step_at {up : Bool} {fs : List Flx} {out sh : List Int} {sg : Int} (h : (if up then (1 : Int) else -1) = sg) {k : Nat} (hk : k < fs.length) : (stepO up fs out sh)[k]? = some (out.getD k 0 + sg * movI up fs out sh k) := by
 unfold stepO
 rw [List.getElem?_map, List.getElem?_range hk, ← h]
 show some _ = some _
 cases up
 ·simp; omega
 ·simp
theorem room_any {S : Nat} {lv : Value} {fs : List Flx} (up : Bool) (hf : ∀ f, f ∈ fs → flOk f) : ∃ N c1 c2, (if up then Value.func (.func 154) #[] #[.pointer (some ⟨S, 0, none⟩), .pointer (some ⟨S + 2, 0, none⟩)] else Value.func (.func 155) #[] #[.pointer (some ⟨S + 2, 0, none⟩), .pointer (some ⟨S, 0, none⟩)]) = Value.func (.func N) #[] #[c1, c2] ∧
 (∀ args w', (callFunc N args).run Tryz.prog w' = .ok (.enter N args) w') ∧
 ∀ (w : World) (ov : Value) (out : List Int), Rd w 5 lv (Fs fs) → FlM S w lv ov out → inB2 fs out → ∀ i : Nat, i < fs.length → Calls Tryz.prog N #[.int .i64 (i : Int), c1, c2] w fun e w' => e = .returned (.tuple #[.int .i64 (farI up (fx fs i) (out.getD i 0)), .int .i64 (wgtI up (fx fs i))]) ∧ ∃ m, w' = w.drewN m := by
 cases up
 ·exact ⟨_, _, _, rfl, fun _ _ => by kernel_rfl, fun w ov out hr hM hin i hi => roomD_any w hr hM hin.1 hi hf hin⟩
 ·exact ⟨_, _, _, rfl, fun _ _ => by kernel_rfl, fun w ov out hr hM hin i hi => roomU_any w hr hM hin.1 hi hf hin⟩
set_option maxRecDepth 100000 in
set_option maxHeartbeats 2000000 in
theorem flexed_any {v : Value} {fs : List Flx} {space : Int} (w : World) (hv : Rd w 5 v (Fs fs)) (hf : ∀ f, f ∈ fs → flOk f) (hn8 : fs.length ≤ 8) (hs : 0 ≤ space ∧ space ≤ 200000) :
 Calls Tryz.prog 136 #[v, .int .i64 space] w fun e w' => ∃ v', e = .returned v' ∧ Own w' w.heap.size 1 v' (Is (flexL fs space)) ∧ Ext w w' := by
 have hrd := hv
 obtain ⟨a, c, rfl, hn, hc, hcell⟩ := hv.flxs
 clear hv
 unfold maxLen at hc
 have hmk0 := fun W => mk_run0 (P := Tryz.prog) el_int fs.length (by omega) W
 have hmk := fun W => mk_run (P := Tryz.prog) el_int fs.length fs.length (Nat.le_refl _) (by omega) W
 obtain ⟨N, c1, c2, hRM, hN, hRoom⟩ := room_any (S := w.heap.size) (lv := .slice a fs.length c) (upB fs space) hf
 have HRoom := Lib.hid hRoom
 have HRM := Lib.hid hRM
 have HC := Lib.hid hcell
 have HF := Lib.hid hf
 clear hRoom hRM hcell hf
 go_enter Tryz.func136, Tryz.ntmps136
 go_wp2_with (fail)
 rw [show w.heap.size + 1 + 1 = w.heap.size + 2 from rfl]
 obtain ⟨W, hW⟩ : ∃ W, ((w.alloc (.cells #[.slice a fs.length c] 153)).alloc (.cells (madeCells #[Value.int .i64 0] fs.length) 3)).alloc (.cells #[.slice (some ⟨w.heap.size + 1, 0, none⟩) 0 fs.length] 34) = W := ⟨_, rfl⟩
 rw [hW]
 have hbW : Below w.heap.size w W := by
  rw [← hW]
  exact ((Below.of_alloc _ _).alloc (by simp) _).alloc (by simp; omega) _
 have hMW : FlM w.heap.size W (.slice a fs.length c) (.slice (some ⟨w.heap.size + 1, 0, none⟩) 0 fs.length) ((basL fs).take 0) := by
  obtain ⟨k1, k2, k3⟩ := heap_new3 w (.cells #[.slice a fs.length c] 153) (.cells (madeCells #[Value.int .i64 0] fs.length) 3) (.cells #[.slice (some ⟨w.heap.size + 1, 0, none⟩) 0 fs.length] 34)
  rw [hW] at k1 k2 k3
  have ho := Own.madeInts1 (w.alloc (.cells #[.slice a fs.length c] 153)) (w.heap.size + 1) 0 fs.length 3 (by simp) (Nat.zero_le _) (by omega)
  have ho2 := ho.alloc (.cells #[.slice (some ⟨w.heap.size + 1, 0, none⟩) 0 fs.length] 34)
  rw [World.size_alloc, hW] at ho2
  refine ⟨by rw [← hW]; simp, by rw [cell_of_heap k1]; rfl, by rw [cell_of_heap k3]; rfl, frozen_of_heap k3, ho2, fun e => ?_⟩
  have := blk_out e
  omega
 clear hW
 have hbl : (basL fs).length = fs.length := by simp [basL]
 have HBL := Lib.hid hbl
 clear hbl
 go_loopw [7, 25] (fun _p i wr => ∃ (k : Nat) (ov : Value), k ≤ fs.length ∧ i = .int .i64 k ∧ FlM w.heap.size wr (.slice a fs.length c) ov ((basL fs).take k) ∧ Below w.heap.size w wr) (fun _ i _ => fs.length - (intOf i).toNat)
 case atStart => exact ⟨0, _, Nat.zero_le _, rfl, hMW, hbW⟩
 case round =>
  clear hMW hbW hmk0
  obtain ⟨k, ov, hk, rfl, hM, hb⟩ := hrel
  have hsz := hM.lt
  have m0 := hM.c0
  have m2 := hM.c2
  by_cases hlt : k < fs.length
  ·obtain ⟨f, hfk⟩ : ∃ f, fs[k]? = some f := ⟨_, List.getElem?_eq_getElem hlt⟩
   obtain ⟨b, off, rfl, hbs, hC⟩ := HC.out k f hfk
   obtain ⟨e0, e1, e2, e3, e4⟩ := (hC k f hfk).below hb hbs
   have hlti : (k : Int) < fs.length := by omega
   have hkw : IntKind.i64.wrap ((k : Int) + 1) = (k : Int) + 1 := by rw [IntKind.wrap_i64]; omega
   have ET := Lib.hid (show (basL fs).take (k + 1) = (basL fs).take k ++ [f.base] by
    rw [List.take_add_one, show (basL fs)[k]? = some f.base by simp [basL, hfk]]
    rfl)
   have hlk : ((basL fs).take k).length ≤ 16 := by rw [List.length_take]; omega
   have HA := Lib.hid fun w5 v' => hM.app (w5 := w5) (v' := v') (out' := (basL fs).take k ++ [f.base]) (.cells f.arr 156) (.cells #[.int .i64 f.base] 3)
   have how := hM.own
   have HB := Lib.hid hb
   have m2a : (wr.alloc (.cells f.arr 156)).cell? ⟨w.heap.size + 2, 0, none⟩ = some ov := (hM.below (Below.of_alloc _ _)).c2
   unfold Flx.arr at m2a
   clear hC hfk hb
   go_wp2_with (at_builtin; refine wpList_app rfl _ _ _ rfl el_int rfl ((how.alloc _).alloc _) rfl (Rd.oneAt _ _ (by simp)) (Is_one [f.base]) ?hl ?hb ?hK)
   case hl => rw [Is_length]; simp; omega
   case hb => simp; omega
   intro v' w5 ho5 hg5 hf5
   replace ho5 : Own w5 (w.heap.size + 1) 1 v' (Is ((basL fs).take k ++ [f.base])) := by rw [Is_append]; exact ho5
   obtain ⟨hs5, g2, g3, hM5, hb5⟩ := HA.out w5 v' ho5 hg5 hf5
   obtain ⟨a5, n5, c5, rfl⟩ : ∃ a n c, v' = .slice a n c := by obtain ⟨a, n, c, h, _⟩ := ho5; exact ⟨a, n, c, h⟩
   clear HA how hM
   go_wp2
   go_roundw
   case rel => exact ⟨k + 1, _, by omega, by go_num, by rw [ET.out]; exact hM5, HB.out.trans hb5⟩
   case measure => simp [intOf]; omega
  ·obtain rfl : k = fs.length := by omega
   rw [List.take_of_length_le (by rw [HBL.out]; exact Nat.le_refl _)] at hM
   have hin0 := Lib.hid (bas_in HF.out)
   have hbm := inB2_mem HF.out hin0.out
   have hsum0 := isum_pos _ fun x hx => (hbm x hx).1
   have hsum1 := isum_le _ 10000 fun x hx => (hbm x hx).2
   rw [HBL.out] at hsum1
   replace hsum1 : isum (basL fs) ≤ 80000 := by omega
   have HT := Lib.hid (total_any (l := basL fs) wr hM.own.rd (fun x hx => by have := hbm x hx; omega) (by rw [HBL.out]; omega))
   have hkw : ¬ ((fs.length : Int) < fs.length) := by omega
   have hl0 := left0_pos fs space
   have hl1 : left0 fs space ≤ 200000 := by unfold left0; split <;> omega
   have HUP : Hid (upB fs space = decide (isum (basL fs) ≤ space)) := rfl
   clear hbm
   have hsum2 : space - isum (basL fs) ≤ 200000 ∧ -200000 ≤ space - isum (basL fs) := by omega
   go_wp2_with (fail)
   refine HT.out.mono ?_
   rintro e w1 ⟨rfl, hw1⟩
   subst hw1
   go_upto_if 41 with (fail)
   go_cut [8, 9, 10] (fun lf sg rm wx => lf = .int .i64 (left0 fs space) ∧ sg = .int .i64 (if upB fs space then 1 else -1) ∧ rm = .func (.func N) #[] #[c1, c2] ∧ wx = w1)
   case first =>
    by_cases hup : isum (basL fs) ≤ space
    ·have h1 : upB fs space = true := by rw [HUP.out]; simpa using hup
     have E0 := Lib.hid (show left0 fs space = space - isum (basL fs) by unfold left0; rw [if_pos h1])
     have hlt : ¬ (space - isum (basL fs) < 0) := by omega
     have R := HRM
     rw [h1] at R
     have E1 := Lib.hid (show (if upB fs space then (1 : Int) else -1) = 1 by rw [if_pos h1])
     clear h1
     go_wp2
     go_meet
     case rel => exact ⟨by rw [E0.out], by rw [E1.out], R.out, rfl⟩
    ·have h1 : upB fs space = false := by rw [HUP.out]; simpa using hup
     have E0 := Lib.hid (show left0 fs space = -(space - isum (basL fs)) by unfold left0; rw [if_neg (by rw [h1]; simp)]; omega)
     have hlt : space - isum (basL fs) < 0 := by omega
     have R := HRM
     rw [h1] at R
     have E1 := Lib.hid (show (if upB fs space then (1 : Int) else -1) = -1 by rw [if_neg (by rw [h1]; simp)])
     clear h1
     go_wp2
     go_meet
     case rel => exact ⟨by rw [E0.out], by rw [E1.out], R.out, rfl⟩
   case rest =>
   obtain ⟨rfl, rfl, rfl, rfl⟩ := hcut
   obtain ⟨sg, hsg⟩ : ∃ sg : Int, (if upB fs space then (1 : Int) else -1) = sg := ⟨_, rfl⟩
   have HSG := Lib.hid hsg
   rw [hsg]
   have hsg1 : sg = 1 ∨ sg = -1 := by rw [← hsg]; split <;> simp
   clear hsg hsum0 hsum1 hsum2 hlt hk HT hkw
   have HS0 : Hid (flexEnd (upB fs space) fs ((left0 fs space).toNat + 1) (basL fs) (left0 fs space) = flexL fs space) := rfl
   have hlen0 := Lib.hid (Nat.le_refl (left0 fs space).toNat)
   go_wp2_with (fail)
   go_loopw [8] (fun lf wr => ∃ (F : Nat) (ov : Value) (out : List Int) (left : Int), lf = .int .i64 left ∧ 0 ≤ left ∧ left ≤ 200000 ∧ left.toNat ≤ F ∧ FlM w.heap.size wr (.slice a fs.length c) ov out ∧ Below w.heap.size w wr ∧ Hid (inB2 fs out) ∧ Hid (flexEnd (upB fs space) fs (F + 1) out left = flexL fs space)) (fun lf _ => (intOf lf).toNat)
   case atStart => exact ⟨_, _, _, _, rfl, hl0, hl1, hlen0.out, hM, hb, hin0, HS0⟩
   case round =>
    clear hM hb hin0 HS0 hlen0 hl0 hl1
    clear m0 m2 hsz
    obtain ⟨F, ov, out, left, rfl, hl0, hl1, hF, hM, hb, hin, HE⟩ := hrel
    obtain ⟨wo, hwo⟩ : ∃ x, x = wr := ⟨_, rfl⟩
    subst hwo
    have hol := hin.out.1
    have HOL := Lib.hid hol
    have hbm := Lib.hid (inB2_mem HF.out hin.out)
    clear hol
    -- the weights
    have hM1 := hM.below (Below.of_alloc wo (.cells (madeCells #[Value.int .i64 0] fs.length) 3))
    have hoW := Own.madeInts1 wo wo.heap.size fs.length fs.length 3 (Nat.le_refl _) (Nat.le_refl _) (by omega)
    have hbA := Below.of_alloc wo (.cells (madeCells #[Value.int .i64 0] fs.length) 3)
    have m0 := hM1.c0
    have hwl := wtL_length (upB fs space) fs out
    have HWL := Lib.hid (show (wtL (upB fs space) fs out).length = (List.replicate fs.length (0 : Int)).length by rw [hwl, List.length_replicate])
    have HFULL := Lib.hid (show mixL (wtL (upB fs space) fs out) (List.replicate fs.length (0 : Int)) fs.length = wtL (upB fs space) fs out by
     have h := mixL_full HWL.out
     rw [hwl] at h
     exact h)
    clear hwl
    have m0' := hM.c0
    go_wp2_with (fail)
    go_loopw [50] (fun i wa => ∃ k : Nat, k ≤ fs.length ∧ i = .int .i64 k ∧ FlM w.heap.size wa (.slice a fs.length c) ov out ∧ Own wa wo.heap.size 1 (.slice (some ⟨wo.heap.size, 0, none⟩) fs.length fs.length) (Is (mixL (wtL (upB fs space) fs out) (List.replicate fs.length 0) k)) ∧ Below wo.heap.size wo wa) (fun i _ => fs.length - (intOf i).toNat)
    case atStart => exact ⟨0, Nat.zero_le _, rfl, hM1, by rw [mixL_zero]; exact hoW, hbA⟩
    case round =>
     clear hM1 hoW hbA m0 m0'
     obtain ⟨k, hk, rfl, hMa, hoW, hbA⟩ := hrel
     have hsz := hMa.lt
     have hrd2 := (hrd.below hb (Nat.le_refl _)).below hbA (Nat.le_refl _)
     by_cases hlt : k < fs.length
     ·have hlti : (k : Int) < fs.length := by omega
      have hkw : IntKind.i64.wrap ((k : Int) + 1) = (k : Int) + 1 := by rw [IntKind.wrap_i64]; omega
      have hwk : (wtL (upB fs space) fs out)[k]? = some (wtI (upB fs space) (fx fs k) (out.getD k 0)) := by
       unfold wtL
       rw [List.getElem?_map, List.getElem?_range hlt]
       rfl
      have hzk : (List.replicate fs.length (0 : Int))[k]? = some 0 := by rw [List.getElem?_replicate, if_pos hlt]
      have HWK := Lib.hid hwk
      have HZK := Lib.hid hzk
      clear hwk hzk
      go_wp2_with (fail)
      refine (HRoom.out _ ov out hrd2 hMa hin.out k hlt).mono ?_
      rintro e w2 ⟨rfl, q, rfl⟩
      have hM2 := hMa.below (w' := wr.drewN q) (below_drewN (Below.refl _ _) _)
      have hoW2 := own_drewN hoW q
      have hb2 := below_drewN hbA q
      have hsz2 : (wr.drewN q).heap.size = wr.heap.size := rfl
      clear hMa hoW hbA hrd2
      generalize wr.drewN q = w2 at *
      obtain ⟨y, hy⟩ : ∃ y, (mixL (wtL (upB fs space) fs out) (List.replicate fs.length (0 : Int)) k)[k]? = some y := ⟨_, by rw [mixL_get HWL.out (by rw [HWL.out, List.length_replicate]; exact hk)]; exact HZK.out⟩
      obtain ⟨_, cy, fy, hset⟩ := hoW2.setI hy
      have HSET := Lib.hid hset
      have HR := Lib.hid (show wtI (upB fs space) (fx fs k) (out.getD k 0) = if 0 < farI (upB fs space) (fx fs k) (out.getD k 0) then wgtI (upB fs space) (fx fs k) else 0 from rfl)
      have HBS := Lib.hid (fun u => hb2.setCell (p := ⟨wo.heap.size, k, none⟩) (Nat.le_refl _) u)
      clear hset hy hsz2
      by_cases hfar : 0 < farI (upB fs space) (fx fs k) (out.getD k 0)
      ·have hwi := HR.out
       rw [if_pos hfar] at hwi
       have HWI := Lib.hid hwi
       clear hwi
       generalize farI (upB fs space) (fx fs k) (out.getD k 0) = far at *
       generalize hwg : wgtI (upB fs space) (fx fs k) = wg at *
       go_wp2
       go_roundw
       case rel =>
        refine ⟨k + 1, by omega, by go_num, hM.below (HBS.out _), ?_, HBS.out _⟩
        rw [← mixL_set HWL.out HWK.out, HWI.out]
        exact HSET.out _
       case measure => simp [intOf]; omega
      ·have hwi := HR.out
       rw [if_neg hfar] at hwi
       have HWI := Lib.hid hwi
       clear hwi
       generalize farI (upB fs space) (fx fs k) (out.getD k 0) = far at *
       generalize hwg : wgtI (upB fs space) (fx fs k) = wg at *
       go_wp2
       go_roundw
       case rel =>
        refine ⟨k + 1, by omega, by go_num, hM2, ?_, hb2⟩
        rw [mixL_same HWL.out HWK.out (by rw [HWI.out]; exact HZK.out)]
        exact hoW2
       case measure => simp [intOf]; omega
     ·obtain rfl : k = fs.length := by omega
      rw [HFULL.out] at hoW
      have hM2 := hM.below hbA
      have HBLK := Lib.hid (fun q hq => (hM2.own.lt q hq).2)
      have HSH := Lib.hid (share_any wr hoW.rd (s := left) ⟨hl0, by omega⟩ (fun x hx => ⟨wt_pos HF.out x hx, by have := wt_le HF.out x hx; omega⟩) (by rw [HWL.out, List.length_replicate]; exact hn8))
      have hkl : ¬ ((fs.length : Int) < fs.length) := by omega
      clear hoW hMa
      go_wp2_with (fail)
      refine HSH.out.mono ?_
      rintro e w4 ⟨v4, rfl, ho4, hx4⟩
      have hM4 := hM2.below hx4
      have hb4 := hbA.trans (hx4.mono hbA.size)
      have HTT := Lib.hid (total_any w4 ho4.rd (fun x hx => by have h1 := share_pos hl0 (wt_pos HF.out) x hx; have h2 := share_le hl0 (wt_pos HF.out) x hx; omega) (by rw [share_length, HWL.out, List.length_replicate]; omega))
      have hslen : (shareL left (wtL (upB fs space) fs out)).length = fs.length := by rw [share_length, HWL.out, List.length_replicate]
      have hsl2 := step_left HF.out hin.out hl0 (up := upB fs space)
      have HSL2 := Lib.hid hsl2
      have HE0 := Lib.hid (show flexEnd (upB fs space) fs (F + 1) out left = if isum (shareL left (wtL (upB fs space) fs out)) = 0 then out else flexEnd (upB fs space) fs F (stepO (upB fs space) fs out (shareL left (wtL (upB fs space) fs out))) (stepL (upB fs space) fs out (shareL left (wtL (upB fs space) fs out)) left) from rfl)
      clear hsl2 hM2 HSH hx4
      go_wp2_with (fail)
      refine HTT.out.mono ?_
      rintro e w5 ⟨rfl, hw5⟩
      subst hw5
      clear HTT
      have m5 := hM4.c2
      by_cases hz : isum (shareL left (wtL (upB fs space) fs out)) = 0
      ·have he := HE0.out
       rw [if_pos hz, HE.out] at he
       have HFIN := Lib.hid he
       have hz' : (isum (shareL left (wtL (upB fs space) fs out)) == 0) = true := by simp [hz]
       have hown := hM4.own.weak (Nat.le_succ w.heap.size)
       have hbE := hb.trans (hb4.mono hb.size)
       clear he hz
       go_wp2
       go_ret
       exact ⟨_, rfl, by rw [HFIN.out]; exact hown, hbE⟩
      ·have he := HE0.out
       rw [if_neg hz, HE.out] at he
       have HFIN := Lib.hid he
       have hz' : (isum (shareL left (wtL (upB fs space) fs out)) == 0) = false := by simp [hz]
       have hsl := HSL2.out hz
       have HSLEN := Lib.hid hslen
       obtain ⟨G, hG⟩ : ∃ G : Nat, G + 1 = F := ⟨F - 1, by omega⟩
       obtain ⟨a4, cap4, e4, hn4, hc4, _⟩ := ho4.rd.ints
       subst e4
       unfold maxLen at hc4
       rw [hslen] at hn4 ho4 ⊢
       clear he hz hslen
       have hdlen : (stepO (upB fs space) fs out (shareL left (wtL (upB fs space) fs out))).length = out.length := by rw [stepO_length, HOL.out]
       have HD := Lib.hid hdlen
       clear hdlen
       have hstep := step_in HF.out hin.out hl0 (up := upB fs space)
       have hb5 := hb.trans (hb4.mono hb.size)
       have HSTEP := Lib.hid hstep
       have HLEN := Lib.hid (show ((List.range fs.length).map (movI (upB fs space) fs out (shareL left (wtL (upB fs space) fs out)))).length = fs.length by simp)
       have HMB := Lib.hid fun k => movs_bound (up := upB fs space) HF.out hin.out hl0 k
       have hmt : isum ((List.range fs.length).map (movI (upB fs space) fs out (shareL left (wtL (upB fs space) fs out)))) = left - stepL (upB fs space) fs out (shareL left (wtL (upB fs space) fs out)) left := by unfold stepL; omega
       have HMT := Lib.hid hmt
       have HMP := Lib.hid fun i (hi : i < fs.length) => mov_pos (up := upB fs space) HF.out hin.out hl0 hi
       have HSL := Lib.hid hsl
       clear hstep hmt hsl hb4 hsz
       obtain ⟨B4, hB4⟩ : ∃ x, x = wr.heap.size := ⟨_, rfl⟩
       rw [← hB4] at ho4 HBLK
       clear hB4
       go_wp2_with (fail)
       go_loopw [8, 75] (fun lf i wx => ∃ k : Nat, k ≤ fs.length ∧ i = .int .i64 k ∧ lf = .int .i64 (left - isum (((List.range fs.length).map (movI (upB fs space) fs out (shareL left (wtL (upB fs space) fs out)))).take k)) ∧
        FlM w.heap.size wx (.slice a fs.length c) ov (mixL (stepO (upB fs space) fs out (shareL left (wtL (upB fs space) fs out))) out k) ∧ Own wx B4 1 (.slice a4 fs.length cap4) (Is (shareL left (wtL (upB fs space) fs out))) ∧ Below w.heap.size w wx) (fun _ i _ => fs.length - (intOf i).toNat)
       case atStart => exact ⟨0, Nat.zero_le _, rfl, by simp [isum], by rw [mixL_zero]; exact hM4, ho4, hb5⟩
       case round =>
        clear hM4 ho4 hb5 m5
        obtain ⟨k, hk, rfl, rfl, hMb, hoS, hbB⟩ := hrel
        have hszB := hMb.lt
        have hmk1 := HMB.out k
        rw [HMT.out] at hmk1
        have hsl := HSL.out
        by_cases hlt : k < fs.length
        ·have hlti : (k : Int) < fs.length := by omega
         have hkw : IntKind.i64.wrap ((k : Int) + 1) = (k : Int) + 1 := by rw [IntKind.wrap_i64]; omega
         obtain ⟨y, hy⟩ : ∃ y, (shareL left (wtL (upB fs space) fs out))[k]? = some y := ⟨_, List.getElem?_eq_getElem (by rw [HSLEN.out]; exact hlt)⟩
         have hyd : (shareL left (wtL (upB fs space) fs out)).getD k 0 = y := by rw [List.getD_eq_getElem?_getD, hy]; rfl
         obtain ⟨x, hx⟩ : ∃ x, out[k]? = some x := ⟨_, List.getElem?_eq_getElem (by rw [HOL.out]; exact hlt)⟩
         have hxd : out.getD k 0 = x := by rw [List.getD_eq_getElem?_getD, hx]; rfl
         have hxm : (mixL (stepO (upB fs space) fs out (shareL left (wtL (upB fs space) fs out))) out k)[k]? = some x := by
          rw [mixL_get HD.out (by rw [HD.out, HOL.out]; exact hk)]; exact hx
         have hxmd : (mixL (stepO (upB fs space) fs out (shareL left (wtL (upB fs space) fs out))) out k).getD k 0 = x := by rw [List.getD_eq_getElem?_getD, hxm]; rfl
         have hsk := step_at (out := out) (sh := shareL left (wtL (upB fs space) fs out)) HSG.out hlt
         rw [hxd] at hsk
         have hset := mixL_set HD.out hsk
         have hmv := HMP.out k hlt
         have hxb := hbm.out x (List.mem_of_getElem? hx)
         have hyb := share_le hl0 (wt_pos HF.out) y (List.mem_of_getElem? hy)
         have hya := share_pos hl0 (wt_pos HF.out) y (List.mem_of_getElem? hy)
         have htk : isum (((List.range fs.length).map (movI (upB fs space) fs out (shareL left (wtL (upB fs space) fs out)))).take (k + 1)) = isum (((List.range fs.length).map (movI (upB fs space) fs out (shareL left (wtL (upB fs space) fs out)))).take k) + movI (upB fs space) fs out (shareL left (wtL (upB fs space) fs out)) k := isum_take (by simp [hlt])
         have HTK := Lib.hid htk
         have hmk2 := HMB.out (k + 1)
         rw [HMT.out, htk] at hmk2
         have hmov : movI (upB fs space) fs out (shareL left (wtL (upB fs space) fs out)) k = min y (farI (upB fs space) (fx fs k) x) := by unfold movI; rw [hyd, hxd]
         have cy := (hoS.rd.intAt hy)
         obtain ⟨b4, o4, rfl, cy⟩ := cy
         obtain ⟨b, off, n, cc, rfl, hSb, hbs, hbk, hn, _, _, _⟩ := hMb.set hxm
         have hb4 := HBLK.out b hbk
         have hnk : (k : Int) < n := by
          rw [mixL_length HD.out (by rw [HD.out, HOL.out]; exact hk), HD.out, HOL.out] at hn
          omega
         have HR := HRoom.out wr _ _ ((hrd.below hbB (Nat.le_refl _))) hMb (inB2_mix HSTEP.out hin.out hk) k hlt
         rw [hxmd] at HR
         have hxc := (inB2_mix HSTEP.out hin.out hk).2 k hlt
         rw [hxmd] at hxc
         have hfar := far_pos (up := upB fs space) (inB2_mix HSTEP.out hin.out hk) hlt
         rw [hxmd] at hfar
         have hsm : sg * movI (upB fs space) fs out (shareL left (wtL (upB fs space) fs out)) k ≤ 200000 ∧ -200000 ≤ sg * movI (upB fs space) fs out (shareL left (wtL (upB fs space) fs out)) k := by
          rcases hsg1 with rfl | rfl <;> omega
         have HRR := Lib.hid HR
         have HMV := Lib.hid hmov
         have HSET := Lib.hid hset
         have HXM := Lib.hid hxm
         have hmv0 := hmv.1
         clear HR hmov hset hsk hxmd hxm hxd hx hyd hy htk hmv
         go_wp2_with (fail)
         refine HRR.out.mono ?_
         rintro e w6 ⟨rfl, q, rfl⟩
         have hMq := hMb.below (w' := wr.drewN q) (below_drewN (Below.refl _ _) _)
         have hoSq := own_drewN hoS q
         have hbBq := below_drewN hbB q
         clear hMb hoS hbB HRR cy hszB
         generalize wr.drewN q = wq at *
         obtain ⟨b', off', n', cc', e', _, hbs, _, _, cx, fx', hset2⟩ := hMq.set HXM.out
         cases e'
         have m2 := hMq.c2
         have hszq := hMq.lt
         have hst := hset2 (x + sg * movI (upB fs space) fs out (shareL left (wtL (upB fs space) fs out)) k)
         rw [HSET.out] at hst
         have hoS2 := hoSq.setOther (p := ⟨b, off + k, none⟩) (fun e => by have := (hoSq.lt _ e).1; dsimp only at this; omega) (.int .i64 (x + sg * movI (upB fs space) fs out (shareL left (wtL (upB fs space) fs out)) k))
         have hbB2 := hbBq.setCell (p := ⟨b, off + k, none⟩) (by show w.heap.size ≤ b; omega) (.int .i64 (x + sg * movI (upB fs space) fs out (shareL left (wtL (upB fs space) fs out)) k))
         have HST := Lib.hid hst
         have HO2 := Lib.hid hoS2
         have HB2 := Lib.hid hbB2
         clear hst hoS2 hbB2 hset2 hMq hoSq hbBq
         generalize hmvg : movI (upB fs space) fs out (shareL left (wtL (upB fs space) fs out)) k = mv at *
         generalize hws : isum (((List.range fs.length).map (movI (upB fs space) fs out (shareL left (wtL (upB fs space) fs out)))).take k) = ms at *
         generalize hfg : farI (upB fs space) (fx fs k) x = far at *
         have HTK2 := Lib.hid (show left - ms - mv = left - isum (((List.range fs.length).map (movI (upB fs space) fs out (shareL left (wtL (upB fs space) fs out)))).take (k + 1)) by rw [HTK.out]; omega)
         clear HTK hws hmvg hfg
         by_cases hmin : far < y
         ·obtain rfl : mv = far := by have := HMV.out; omega
          clear HMV
          go_wp2
          go_roundw
          case rel => exact ⟨k + 1, by omega, by go_num, by rw [HTK2.out], HST.out, HO2.out, HB2.out⟩
          case measure => simp [intOf]; omega
         ·obtain rfl : mv = y := by have := HMV.out; omega
          clear HMV
          go_wp2
          go_roundw
          case rel => exact ⟨k + 1, by omega, by go_num, by rw [HTK2.out], HST.out, HO2.out, HB2.out⟩
          case measure => simp [intOf]; omega
        ·obtain rfl : k = fs.length := by omega
         have e1 : mixL (stepO (upB fs space) fs out (shareL left (wtL (upB fs space) fs out))) out fs.length = stepO (upB fs space) fs out (shareL left (wtL (upB fs space) fs out)) := by
          have h := mixL_full HD.out
          rw [stepO_length] at h
          exact h
         have e2 : left - isum (((List.range fs.length).map (movI (upB fs space) fs out (shareL left (wtL (upB fs space) fs out)))).take fs.length) = stepL (upB fs space) fs out (shareL left (wtL (upB fs space) fs out)) left := by
          rw [List.take_of_length_le (by rw [HLEN.out]; exact Nat.le_refl _)]
          rfl
         have hkl2 : ¬ ((fs.length : Int) < fs.length) := by omega
         rw [e1] at hMb
         rw [e2]
         have HS2 := Lib.hid hsl
         have HBB := Lib.hid hbB
         clear e1 e2 hmk1 hoS hbB HMB HMT HMP hsl
         generalize stepL (upB fs space) fs out (shareL left (wtL (upB fs space) fs out)) left = lf2 at *
         go_wp2_with (fail)
         go_roundw
         case rel =>
          have hsl := HS2.out
          subst hG
          exact ⟨G, _, _, _, rfl, by omega, by omega, by omega, hMb, HBB.out, HSTEP, Lib.hid HFIN.out.symm⟩
         case measure => have hsl := HS2.out; simp [intOf]; omega
set_option maxRecDepth 100000 in
set_option maxHeartbeats 1000000 in
theorem bases_any {v : Value} {fs : List Flx} (w : World) (hv : Rd w 5 v (Fs fs)) (hn8 : fs.length ≤ 8) :
 Calls Tryz.prog 163 #[v] w fun e w' => ∃ v', e = .returned v' ∧ Own w' w.heap.size 1 v' (Is (basL fs)) ∧ Ext w w' := by
 obtain ⟨a, c, rfl, hn, hc, hcell⟩ := hv.flxs
 clear hv
 unfold maxLen at hc
 have HC := Lib.hid hcell
 clear hcell
 have hb0 := Below.of_alloc w (.cells #[] 3)
 go_enter Tryz.func163, Tryz.ntmps163
 go_wp2_with (fail)
 go_loopw [3, 4] (fun out i wr => ∃ k : Nat, k ≤ fs.length ∧ i = .int .i64 k ∧ Own wr w.heap.size 1 out (Is ((basL fs).take k)) ∧ Below w.heap.size w wr) (fun _ i _ => fs.length - (intOf i).toNat)
 case atStart => exact ⟨0, Nat.zero_le _, rfl, Own.empty _ _ _ _, hb0⟩
 case round =>
  clear hb0
  obtain ⟨k, hk, rfl, ho, hb⟩ := hrel
  have hsz := hb.size
  by_cases hlt : k < fs.length
  ·obtain ⟨f, hf⟩ : ∃ f, fs[k]? = some f := ⟨_, List.getElem?_eq_getElem hlt⟩
   obtain ⟨b, off, rfl, hbs, hC⟩ := HC.out k f hf
   obtain ⟨e0, e1, e2, e3, e4⟩ := (hC k f hf).below hb hbs
   have ET := Lib.hid (show Is ((basL fs).take (k + 1)) = Is ((basL fs).take k) ++ Is [f.base] by
    rw [List.take_add_one, show (basL fs)[k]? = some f.base by simp [basL, hf], Is_append]
    rfl)
   have hlk : ((basL fs).take k).length ≤ 16 := by rw [List.length_take]; omega
   have hlti : (k : Int) < fs.length := by omega
   have hkw : IntKind.i64.wrap ((k : Int) + 1) = (k : Int) + 1 := by rw [IntKind.wrap_i64]; omega
   clear hf hC
   go_wp2_with (at_builtin; refine wpList_app rfl _ _ _ rfl el_int rfl (ho.alloc _) rfl (Rd.oneAt _ _ (by simp)) (Is_one [f.base]) ?hl ?hb ?hK)
   case hl => rw [Is_length]; simp; omega
   case hb => rw [World.size_alloc]; omega
   intro v' w5 ho5 hg5 hf5
   have hb5 := below_app (hb.alloc hb.size (.cells #[.int .i64 f.base] 3)) (ho.alloc _) hg5 (by simp; omega) (Nat.le_refl _)
   go_wp2
   go_roundw
   case rel => exact ⟨k + 1, by omega, by go_num, by rw [ET.out]; exact ho5, hb5⟩
   case measure => simp [intOf]; omega
  ·obtain rfl : k = fs.length := by omega
   rw [List.take_of_length_le (by simp [basL])] at ho
   go_wp2
   go_ret
   exact ⟨_, rfl, ho, hb⟩
theorem own_set_drewN {w : World} {p : Addr} {u : Value} {base size : Nat} {v : Value} {xs : List Value} (h : Own (w.setCell p u) base size v xs) (n : Nat) : Own ((w.drewN n).setCell p u) base size v xs := h
theorem below_set_drewN {B : Nat} {w0 w : World} {p : Addr} {u : Value} (h : Below B w0 (w.setCell p u)) (n : Nat) : Below B w0 ((w.drewN n).setCell p u) := ⟨h.os, h.tape, h.output, h.size, h.block⟩
set_option maxRecDepth 100000 in
set_option maxHeartbeats 2000000 in
theorem sgrow_any {B : Nat} {v ov : Value} {fs : List Flx} {out0 : List Int} {left0 : Int} (w0 w : World) (hv : Rd w0 5 v (Fs fs)) (hB : w0.heap.size ≤ B) (hBw : B ≤ w.heap.size) (hb : Below B w0 w) (hf : ∀ f, f ∈ fs → flOk f) (hn8 : fs.length ≤ 8) (ho : Own w B 1 ov (Is out0)) (hin0 : inB2 fs out0) (hl0 : 0 ≤ left0) (hl1 : left0 ≤ 200000) :
 Calls Tryz.prog 165 #[v, ov, .int .i64 left0] w fun e w' => e = .returned ov ∧ Own w' B 1 ov (Is (flexEnd true fs (left0.toNat + 1) out0 left0)) ∧ Below B w w' := by
 have hrd := hv
 obtain ⟨a, c, rfl, hn, hc, hcell⟩ := hv.flxs
 obtain ⟨ao, co, rfl, hno, hco, _⟩ := ho.rd.ints
 clear hv
 unfold maxLen at hc hco
 rw [hin0.1] at ho hno ⊢
 have HC := Lib.hid hcell
 have HF := Lib.hid hf
 clear hcell hf
 have HS0 : Hid (flexEnd true fs (left0.toNat + 1) out0 left0 = flexEnd true fs (left0.toNat + 1) out0 left0) := rfl
 obtain ⟨R, hR⟩ : ∃ R, flexEnd true fs (left0.toNat + 1) out0 left0 = R := ⟨_, rfl⟩
 have HR0 := Lib.hid hR
 rw [hR]
 clear hR HS0
 go_enter Tryz.func165, Tryz.ntmps165
 go_wp2_with (fail)
 go_loopw [2] (fun lf wr => ∃ (F : Nat) (out : List Int) (left : Int), lf = .int .i64 left ∧ 0 ≤ left ∧ left ≤ 200000 ∧ left.toNat ≤ F ∧ Own wr B 1 (.slice ao fs.length co) (Is out) ∧ Below B w wr ∧ Hid (inB2 fs out) ∧ Hid (flexEnd true fs (F + 1) out left = R)) (fun lf _ => (intOf lf).toNat)
 case atStart => exact ⟨_, _, _, rfl, hl0, hl1, Nat.le_refl _, ho, Below.refl _ _, hin0, HR0⟩
 case round =>
  clear ho hin0 HR0 hl0 hl1
  obtain ⟨wo, hwo⟩ : ∃ x, x = wr := ⟨_, rfl⟩
  subst hwo
  obtain ⟨F, out, left, rfl, hl0, hl1, hF, ho, hbo, hin, HE⟩ := hrel
  have HOL := Lib.hid hin.out.1
  have hbm := Lib.hid (inB2_mem HF.out hin.out)
  have HWL := Lib.hid (wtL_length true fs out)
  have hbw := hb.trans hbo
  have hbA := Below.of_alloc wo (.cells #[] 3)
  go_wp2_with (fail)
  go_loopw [7, 8] (fun wv i wx => ∃ k : Nat, k ≤ fs.length ∧ i = .int .i64 k ∧ Own wx wo.heap.size 1 wv (Is ((wtL true fs out).take k)) ∧ Below wo.heap.size wo wx) (fun _ i _ => fs.length - (intOf i).toNat)
  case atStart => exact ⟨0, Nat.zero_le _, rfl, Own.empty _ _ _ _, hbA⟩
  case round =>
   clear hbA
   obtain ⟨k, hk, rfl, hoW, hbA⟩ := hrel
   have hsz := hbA.size
   have hszo := Nat.le_trans hBw hbo.size
   by_cases hlt : k < fs.length
   ·obtain ⟨f, hf⟩ : ∃ f, fs[k]? = some f := ⟨_, List.getElem?_eq_getElem hlt⟩
    obtain ⟨b, off, rfl, hbs, hC⟩ := HC.out k f hf
    obtain ⟨e0, e1, e2, e3, e4⟩ := ((hC k f hf).below hbw (by omega)).below hbA (by have := hbw.size; omega)
    obtain ⟨x, hx⟩ : ∃ x, out[k]? = some x := ⟨_, List.getElem?_eq_getElem (by rw [HOL.out]; exact hlt)⟩
    obtain ⟨b2, o2, rfl, cx⟩ := ho.rd.intAt hx
    have hxb := hbm.out x (List.mem_of_getElem? hx)
    have hfo := HF.out f (List.mem_of_getElem? hf)
    unfold flOk at hfo
    obtain ⟨t, ht, ht0, ht1⟩ : ∃ t : Int, (if decide (x < f.max) = true then (1 : Int) else 0) = t ∧ 0 ≤ t ∧ t ≤ 1 := ⟨_, rfl, by split <;> omega, by split <;> omega⟩
    have hwk : (wtL true fs out)[k]? = some (f.grow * t) := by
     unfold wtL
     rw [List.getElem?_map, List.getElem?_range hlt]
     show some (wtI true (fx fs k) (out.getD k 0)) = some _
     have e1 : fx fs k = f := by unfold fx; rw [List.getD_eq_getElem?_getD, hf]; rfl
     have e2 : out.getD k 0 = x := by rw [List.getD_eq_getElem?_getD, hx]; rfl
     rw [e1, e2, ← ht]
     unfold wtI farI wgtI
     by_cases h : x < f.max
     ·simp [h]
     ·simp [h]
    have ET := Lib.hid (show Is ((wtL true fs out).take (k + 1)) = Is ((wtL true fs out).take k) ++ Is [f.grow * t] by
     rw [List.take_add_one, hwk, Is_append]
     rfl)
    have hwb : 0 ≤ f.grow * t ∧ f.grow * t ≤ 10 := by
     have h01 : t = 0 ∨ t = 1 := by omega
     rcases h01 with rfl | rfl <;> omega
    have hlk : ((wtL true fs out).take k).length ≤ 16 := by rw [List.length_take]; omega
    have hlti : (k : Int) < fs.length := by omega
    have hkw : IntKind.i64.wrap ((k : Int) + 1) = (k : Int) + 1 := by rw [IntKind.wrap_i64]; omega
    have CE := Lib.hid (fun wx (h : Below wo.heap.size wo wx) => (((hC k f hf).below hbw (by omega)).below h (by have := hbw.size; omega)))
    have CX := Lib.hid (fun wx (h : Below wo.heap.size wo wx) => cell_below h cx)
    clear hf hC hx hwk e0 e1 e2 e3 e4 cx
    have hww : IntKind.i64.wrap (f.grow * t) = f.grow * t := by rw [IntKind.wrap_i64]; omega
    go_upto_region 5 with fail
    refine wp_region_held_drew (S := fun w' => Below wo.heap.size wo w') (by kernel_rfl) hbA.drew (fun hS => ?_)
    have hoD := hoW.drew
    have hszD : wr.heap.size = wr.drew.heap.size := rfl
    rw [hszD] at hsz
    clear hoW hbA hszD
    generalize wr.drew = wd at *
    refine hTk hS 0 19 rfl (v := ?_) ?_ ?_
    rotate_left
    ·intro _ _; go_simp; first | done | with_reducible rfl
    simp only [Act.put, lsA, ls0, ls1]
    refine hTk hS 1 20 rfl (v := ?_) ?_ ?_
    rotate_left
    ·intro _ _; go_simp; first | done | with_reducible rfl
    simp only [Act.put, lsA, ls0, ls1]
    refine hTk hS 2 21 rfl (v := ?_) ?_ ?_
    rotate_left
    ·intro _ _; go_simp; first | done | with_reducible rfl
    simp only [Act.put, lsA, ls0, ls1]
    refine hTk hS 3 22 rfl (v := ?_) ?_ ?_
    rotate_left
    ·intro _ _; go_simp; first | done | with_reducible rfl
    simp only [Act.put, lsA, ls0, ls1]
    refine hTk hS 4 23 rfl (v := ?_) ?_ ?_
    rotate_left
    ·intro _ _; go_simp; first | done | with_reducible rfl
    simp only [Act.put, lsA, ls0, ls1]
    refine hTk hS 5 24 rfl (v := ?_) ?_ ?_
    rotate_left
    ·intro w9 hS9; obtain ⟨e0, e1, e2, e3, e4⟩ := CE.out _ hS9; go_simp; first | done | with_reducible rfl
    simp only [Act.put, lsA, ls0, ls1]
    refine hTk hS 6 25 rfl (v := ?_) ?_ ?_
    rotate_left
    ·intro _ _; go_simp; first | done | with_reducible rfl
    simp only [Act.put, lsA, ls0, ls1]
    refine hTk hS 7 26 rfl (v := ?_) ?_ ?_
    rotate_left
    ·intro _ _; go_simp; first | done | with_reducible rfl
    simp only [Act.put, lsA, ls0, ls1]
    refine hTk hS 8 27 rfl (v := ?_) ?_ ?_
    rotate_left
    ·intro _ _; go_simp; first | done | with_reducible rfl
    simp only [Act.put, lsA, ls0, ls1]
    refine hTk hS 9 28 rfl (v := ?_) ?_ ?_
    rotate_left
    ·intro w9 hS9; have q := CX.out _ hS9; go_simp; first | done | with_reducible rfl
    simp only [Act.put, lsA, ls0, ls1]
    refine hTk hS 10 29 rfl (v := ?_) ?_ ?_
    rotate_left
    ·intro _ _; go_simp; first | done | with_reducible rfl
    simp only [Act.put, lsA, ls0, ls1]
    refine hTk hS 11 30 rfl (v := ?_) ?_ ?_
    rotate_left
    ·intro _ _; go_simp; first | done | with_reducible rfl
    simp only [Act.put, lsA, ls0, ls1]
    refine hTk hS 12 31 rfl (v := ?_) ?_ ?_
    rotate_left
    ·intro _ _; go_simp; first | done | with_reducible rfl
    simp only [Act.put, lsA, ls0, ls1]
    refine hTk hS 13 32 rfl (v := ?_) ?_ ?_
    rotate_left
    ·intro _ _; go_simp; first | done | with_reducible rfl
    simp only [Act.put, lsA, ls0, ls1]
    refine hTk hS 14 33 rfl (v := ?_) ?_ ?_
    rotate_left
    ·intro w9 hS9; obtain ⟨e0, e1, e2, e3, e4⟩ := CE.out _ hS9; go_simp; first | done | with_reducible rfl
    simp only [Act.put, lsA, ls0, ls1]
    refine hTk hS 15 34 rfl (v := ?_) ?_ ?_
    rotate_left
    ·intro _ _; go_simp; first | done | with_reducible rfl
    simp only [Act.put, lsA, ls0, ls1]
    refine wpAnyH_ready (rs := [16]) (by kernel_rfl) (by simp) ?_
    refine AllReadyH.cons (o := _) rfl (fun K9 hK9 => ?_) AllReadyH.nil
    go_simp
    refine (toInt_any _ _).mono ?_
    rintro e w' ⟨he, hw'⟩
    rw [ht] at he
    subst he
    subst hw'
    try go_wp2_with fail
    refine hK9.out _ _ hS (fun hS => ?_)
    clear hK9 K9
    try simp only [Act.put, lsA, ls0, ls1]
    refine hTk hS 17 36 rfl (v := ?_) ?_ ?_
    rotate_left
    ·intro _ _; go_simp; first | done | with_reducible rfl
    simp only [Act.put, lsA, ls0, ls1]
    refine wpAnyH_ready (rs := [18]) (by kernel_rfl) (by simp) ?_
    refine AllReadyH.cons (o := _) rfl (fun K9 hK9 => ?_) AllReadyH.nil
    go_simp
    refine hK9.out _ _ (hS.alloc hsz _) (fun hS => ?_)
    clear hK9 K9
    try simp only [Act.put, lsA, ls0, ls1]
    refine wpAnyH_ready (rs := [19]) (by kernel_rfl) (by simp) ?_
    refine AllReadyH.cons (o := _) rfl (fun K9 hK9 => ?_) AllReadyH.nil
    refine step_app rfl _ _ _ rfl el_int rfl (hoD.alloc _) rfl (Rd.oneAt _ _ (by simp)) (Is_one [f.grow * t]) ?hl ?hb ?hK
    case hl => rw [Is_length]; simp; omega
    case hb => rw [World.size_alloc]; omega
    intro v' w5 ho5 hg5 hf5
    have hb5 := below_app hS (hoD.alloc _) hg5 (by simp; omega) (Nat.le_refl _)
    refine hK9.out _ _ hb5 (fun hS => ?_)
    clear hK9 K9
    try simp only [Act.put, List.setIfInBounds_toArray]
    refine wpAnyH_ready (rs := [20]) (by kernel_rfl) (by simp) ?_
    refine AllReadyH.cons (o := _) rfl (fun K9 hK9 => ?_) AllReadyH.nil
    go_simp
    refine hK9.out _ _ hS (fun hS => ?_)
    clear hK9 K9
    try simp only [Act.put, lsA, ls0, ls1]
    refine wpAnyH_done (by kernel_rfl) ?_ _
    clear hS
    go_wp2
    go_roundw
    case rel => exact ⟨k + 1, by omega, by go_num, by rw [ET.out]; exact ho5, hb5⟩
    case measure => simp [intOf]; omega
   ·obtain rfl : k = fs.length := by omega
    rw [List.take_of_length_le (by rw [HWL.out]; exact Nat.le_refl _)] at hoW
    have HSH := Lib.hid (sshare_any wr hoW.rd (s := left) ⟨hl0, by omega⟩ (fun x hx => ⟨wt_pos HF.out x hx, by have := wt_le HF.out x hx; omega⟩) (by rw [HWL.out]; exact hn8))
    have HOW := Lib.hid (ho.below hbA (Nat.le_refl _))
    have HBB := Lib.hid (fun w' (h : Ext wr w') => hbo.trans ((hbA.mono hszo).trans (h.mono (Nat.le_trans hszo hsz))))
    have hkl : ¬ ((fs.length : Int) < fs.length) := by omega
    clear hoW
    go_wp2_with (fail)
    refine HSH.out.mono ?_
    rintro e w4 ⟨v4, rfl, ho4, hx4⟩
    have hoO4 := HOW.out.below hx4 (Nat.le_refl _)
    have hbB4 := HBB.out w4 hx4
    have HLT := Lib.hid HOW.out.lt
    have HTT := Lib.hid (sum_any w4 ho4.rd (fun x hx => by have h1 := share_pos hl0 (wt_pos HF.out) x hx; have h2 := share_le hl0 (wt_pos HF.out) x hx; omega) (by rw [share_length, HWL.out]; omega))
    have hslen : (shareL left (wtL true fs out)).length = fs.length := by rw [share_length, HWL.out]
    have HSL2 := Lib.hid (step_left HF.out hin.out hl0 (up := true))
    have HE0 := Lib.hid (show flexEnd true fs (F + 1) out left = if isum (shareL left (wtL true fs out)) = 0 then out else flexEnd true fs F (stepO true fs out (shareL left (wtL true fs out))) (stepL true fs out (shareL left (wtL true fs out)) left) from rfl)
    obtain ⟨B4, hB4⟩ : ∃ x, x = wr.heap.size := ⟨_, rfl⟩
    rw [← hB4] at ho4 HLT
    clear hB4 HSH hx4 HOW HBB hbA hsz hbo
    go_wp2_with (fail)
    refine HTT.out.mono ?_
    rintro e w5 ⟨rfl, hw5⟩
    subst hw5
    clear HTT
    by_cases hz : isum (shareL left (wtL true fs out)) = 0
    ·have he := HE0.out
     rw [if_pos hz, HE.out] at he
     have HFIN := Lib.hid he
     have hz' : (isum (shareL left (wtL true fs out)) == 0) = true := by simp [hz]
     clear he hz
     go_wp2
     go_ret
     exact ⟨rfl, by rw [HFIN.out]; exact hoO4, hbB4⟩
    ·have he := HE0.out
     rw [if_neg hz, HE.out] at he
     have HFIN := Lib.hid he
     have hz' : (isum (shareL left (wtL true fs out)) == 0) = false := by simp [hz]
     have hsl := HSL2.out hz
     have HSLEN := Lib.hid hslen
     obtain ⟨G, hG⟩ : ∃ G : Nat, G + 1 = F := ⟨F - 1, by omega⟩
     obtain ⟨a4, cap4, e4, hn4, hc4, _⟩ := ho4.rd.ints
     subst e4
     unfold maxLen at hc4
     rw [hslen] at hn4 ho4 ⊢
     clear he hz hslen
     have HD := Lib.hid (show (stepO true fs out (shareL left (wtL true fs out))).length = out.length by rw [stepO_length, HOL.out])
     have HSTEP := Lib.hid (step_in HF.out hin.out hl0 (up := true))
     have HLEN := Lib.hid (show ((List.range fs.length).map (movI true fs out (shareL left (wtL true fs out)))).length = fs.length by simp)
     have HMB := Lib.hid fun k => movs_bound (up := true) HF.out hin.out hl0 k
     have HMT := Lib.hid (show isum ((List.range fs.length).map (movI true fs out (shareL left (wtL true fs out)))) = left - stepL true fs out (shareL left (wtL true fs out)) left by unfold stepL; omega)
     have HMP := Lib.hid fun i (hi : i < fs.length) => mov_pos (up := true) HF.out hin.out hl0 hi
     have HSL := Lib.hid hsl
     clear hsl
     go_wp2_with (fail)
     go_loopw [2, 10] (fun lf i wx => ∃ k : Nat, k ≤ fs.length ∧ i = .int .i64 k ∧ lf = .int .i64 (left - isum (((List.range fs.length).map (movI true fs out (shareL left (wtL true fs out)))).take k)) ∧
      Own wx B 1 (.slice ao fs.length co) (Is (mixL (stepO true fs out (shareL left (wtL true fs out))) out k)) ∧ Own wx B4 1 (.slice a4 fs.length cap4) (Is (shareL left (wtL true fs out))) ∧ Below B w wx) (fun _ i _ => fs.length - (intOf i).toNat)
     case atStart => exact ⟨0, Nat.zero_le _, rfl, by simp [isum], by rw [mixL_zero]; exact hoO4, ho4, hbB4⟩
     case round =>
      clear hoO4 ho4 hbB4
      obtain ⟨k, hk, rfl, rfl, hoO, hoS, hbB⟩ := hrel
      have hszB := hbB.size
      have hmk1 := HMB.out k
      rw [HMT.out] at hmk1
      have hsl := HSL.out
      by_cases hlt : k < fs.length
      ·have hlti : (k : Int) < fs.length := by omega
       have hkw : IntKind.i64.wrap ((k : Int) + 1) = (k : Int) + 1 := by rw [IntKind.wrap_i64]; omega
       obtain ⟨f, hf⟩ : ∃ f, fs[k]? = some f := ⟨_, List.getElem?_eq_getElem hlt⟩
       have hfd : fx fs k = f := by unfold fx; rw [List.getD_eq_getElem?_getD, hf]; rfl
       obtain ⟨b, off, rfl, hbs, hC⟩ := HC.out k f hf
       obtain ⟨e0, e1, e2, e3, e4⟩ := ((hC k f hf).below hb (by omega)).below hbB (by omega)
       have hfo := HF.out f (List.mem_of_getElem? hf)
       unfold flOk at hfo
       obtain ⟨y, hy⟩ : ∃ y, (shareL left (wtL true fs out))[k]? = some y := ⟨_, List.getElem?_eq_getElem (by rw [HSLEN.out]; exact hlt)⟩
       have hyd : (shareL left (wtL true fs out)).getD k 0 = y := by rw [List.getD_eq_getElem?_getD, hy]; rfl
       obtain ⟨x, hx⟩ : ∃ x, out[k]? = some x := ⟨_, List.getElem?_eq_getElem (by rw [HOL.out]; exact hlt)⟩
       have hxd : out.getD k 0 = x := by rw [List.getD_eq_getElem?_getD, hx]; rfl
       have hxm : (mixL (stepO true fs out (shareL left (wtL true fs out))) out k)[k]? = some x := by
        rw [mixL_get HD.out (by rw [HD.out, HOL.out]; exact hk)]; exact hx
       have hsk : (stepO true fs out (shareL left (wtL true fs out)))[k]? = some (x + movI true fs out (shareL left (wtL true fs out)) k) := by
        unfold stepO
        rw [List.getElem?_map, List.getElem?_range hlt, ← hxd]
        rfl
       have hset := mixL_set HD.out hsk
       have hmv := (HMP.out k hlt).1
       have hxb := hbm.out x (List.mem_of_getElem? hx)
       have hyb := share_le hl0 (wt_pos HF.out) y (List.mem_of_getElem? hy)
       have hya := share_pos hl0 (wt_pos HF.out) y (List.mem_of_getElem? hy)
       have htk : isum (((List.range fs.length).map (movI true fs out (shareL left (wtL true fs out)))).take (k + 1)) = isum (((List.range fs.length).map (movI true fs out (shareL left (wtL true fs out)))).take k) + movI true fs out (shareL left (wtL true fs out)) k := isum_take (by simp [hlt])
       have HTK := Lib.hid htk
       have hmk2 := HMB.out (k + 1)
       rw [HMT.out, htk] at hmk2
       have hmov : movI true fs out (shareL left (wtL true fs out)) k = min y (f.max - x) := by unfold movI; rw [hyd, hxd, hfd]; rfl
       have hxc := hin.out.2 k hlt
       rw [hxd, hfd] at hxc
       obtain ⟨b4, o4, rfl, cy⟩ := hoS.rd.intAt hy
       have hxm' := Is_get hxm
       obtain ⟨b2, o2, n2, c2, e2', _, hbk, hB2, hbs2, hcell2, hfz2, hset2⟩ := hoO.cells (by
        intro h
        rw [h] at hxm'
        cases hxm')
       cases e2'
       have cx := hcell2 k _ hxm'
       have fx2 := hfz2 k
       have hb24 := (HLT.out b2 hbk).2
       have hst := hset2 k (.int .i64 (x + movI true fs out (shareL left (wtL true fs out)) k)) (List.getElem?_eq_some_iff.1 hxm').1
       rw [Is_set, hset] at hst
       have hoS2 := hoS.setOther (p := ⟨b2, o2 + k, none⟩) (fun e => by have := (hoS.lt _ e).1; dsimp only at this; omega) (.int .i64 (x + movI true fs out (shareL left (wtL true fs out)) k))
       have hbB2 := hbB.setCell (p := ⟨b2, o2 + k, none⟩) hB2 (.int .i64 (x + movI true fs out (shareL left (wtL true fs out)) k))
       have HST := Lib.hid (fun q => own_set_drewN hst q)
       have HO2 := Lib.hid (fun q => own_set_drewN hoS2 q)
       have HB2 := Lib.hid (fun q => below_set_drewN hbB2 q)
       have HMV := Lib.hid hmov
       clear hst hoS2 hbB2 hmov hset hset2 hsk hxm hxm' hxd hx hyd hy htk hoS hoO hfd hf hC hcell2 hfz2
       generalize movI true fs out (shareL left (wtL true fs out)) k = mv at *
       generalize hws : isum (((List.range fs.length).map (movI true fs out (shareL left (wtL true fs out)))).take k) = ms at *
       have HTK2 := Lib.hid (show left - ms - mv = left - isum (((List.range fs.length).map (movI true fs out (shareL left (wtL true fs out)))).take (k + 1)) by rw [HTK.out]; omega)
       clear HTK hws
       by_cases hmin : f.max - x < y
       ·have hmf : mv = f.max - x := by have := HMV.out; omega
        subst hmf
        clear HMV
        go_wp2
        go_quiet (fail)
        go_wp2
        go_roundw
        case rel => exact ⟨k + 1, by omega, by go_num, by rw [HTK2.out], HST.out _, HO2.out _, HB2.out _⟩
        case measure => simp [intOf]; omega
       ·obtain rfl : mv = y := by have := HMV.out; omega
        clear HMV
        go_wp2
        go_quiet (fail)
        go_wp2
        go_roundw
        case rel => exact ⟨k + 1, by omega, by go_num, by rw [HTK2.out], HST.out _, HO2.out _, HB2.out _⟩
        case measure => simp [intOf]; omega
      ·obtain rfl : k = fs.length := by omega
       have e1 : mixL (stepO true fs out (shareL left (wtL true fs out))) out fs.length = stepO true fs out (shareL left (wtL true fs out)) := by
        have h := mixL_full HD.out
        rw [stepO_length] at h
        exact h
       have e2 : left - isum (((List.range fs.length).map (movI true fs out (shareL left (wtL true fs out)))).take fs.length) = stepL true fs out (shareL left (wtL true fs out)) left := by
        rw [List.take_of_length_le (by rw [HLEN.out]; exact Nat.le_refl _)]
        rfl
       have hkl2 : ¬ ((fs.length : Int) < fs.length) := by omega
       rw [e1] at hoO
       rw [e2]
       have HS2 := Lib.hid hsl
       clear e1 e2 hmk1 hoS HMB HMT HMP hsl
       generalize stepL true fs out (shareL left (wtL true fs out)) left = lf2 at *
       go_wp2_with (fail)
       go_roundw
       case rel =>
        have hsl := HS2.out
        subst hG
        exact ⟨G, _, _, rfl, by omega, by omega, by omega, hoO, hbB, HSTEP, Lib.hid HFIN.out.symm⟩
       case measure => have hsl := HS2.out; simp [intOf]; omega
set_option maxRecDepth 100000 in
set_option maxHeartbeats 2000000 in
theorem sshrink_any {B : Nat} {v ov : Value} {fs : List Flx} {out0 : List Int} {left0 : Int} (w0 w : World) (hv : Rd w0 5 v (Fs fs)) (hB : w0.heap.size ≤ B) (hBw : B ≤ w.heap.size) (hb : Below B w0 w) (hf : ∀ f, f ∈ fs → flOk f) (hn8 : fs.length ≤ 8) (ho : Own w B 1 ov (Is out0)) (hin0 : inB2 fs out0) (hl0 : 0 ≤ left0) (hl1 : left0 ≤ 200000) :
 Calls Tryz.prog 166 #[v, ov, .int .i64 left0] w fun e w' => e = .returned ov ∧ Own w' B 1 ov (Is (flexEnd false fs (left0.toNat + 1) out0 left0)) ∧ Below B w w' := by
 have hrd := hv
 obtain ⟨a, c, rfl, hn, hc, hcell⟩ := hv.flxs
 obtain ⟨ao, co, rfl, hno, hco, _⟩ := ho.rd.ints
 clear hv
 unfold maxLen at hc hco
 rw [hin0.1] at ho hno ⊢
 have HC := Lib.hid hcell
 have HF := Lib.hid hf
 clear hcell hf
 have HS0 : Hid (flexEnd false fs (left0.toNat + 1) out0 left0 = flexEnd false fs (left0.toNat + 1) out0 left0) := rfl
 obtain ⟨R, hR⟩ : ∃ R, flexEnd false fs (left0.toNat + 1) out0 left0 = R := ⟨_, rfl⟩
 have HR0 := Lib.hid hR
 rw [hR]
 clear hR HS0
 go_enter Tryz.func166, Tryz.ntmps166
 go_wp2_with (fail)
 go_loopw [2] (fun lf wr => ∃ (F : Nat) (out : List Int) (left : Int), lf = .int .i64 left ∧ 0 ≤ left ∧ left ≤ 200000 ∧ left.toNat ≤ F ∧ Own wr B 1 (.slice ao fs.length co) (Is out) ∧ Below B w wr ∧ Hid (inB2 fs out) ∧ Hid (flexEnd false fs (F + 1) out left = R)) (fun lf _ => (intOf lf).toNat)
 case atStart => exact ⟨_, _, _, rfl, hl0, hl1, Nat.le_refl _, ho, Below.refl _ _, hin0, HR0⟩
 case round =>
  clear ho hin0 HR0 hl0 hl1
  obtain ⟨wo, hwo⟩ : ∃ x, x = wr := ⟨_, rfl⟩
  subst hwo
  obtain ⟨F, out, left, rfl, hl0, hl1, hF, ho, hbo, hin, HE⟩ := hrel
  have HOL := Lib.hid hin.out.1
  have hbm := Lib.hid (inB2_mem HF.out hin.out)
  have HWL := Lib.hid (wtL_length false fs out)
  have hbw := hb.trans hbo
  have hbA := Below.of_alloc wo (.cells #[] 3)
  go_wp2_with (fail)
  go_loopw [7, 8] (fun wv i wx => ∃ k : Nat, k ≤ fs.length ∧ i = .int .i64 k ∧ Own wx wo.heap.size 1 wv (Is ((wtL false fs out).take k)) ∧ Below wo.heap.size wo wx) (fun _ i _ => fs.length - (intOf i).toNat)
  case atStart => exact ⟨0, Nat.zero_le _, rfl, Own.empty _ _ _ _, hbA⟩
  case round =>
   clear hbA
   obtain ⟨k, hk, rfl, hoW, hbA⟩ := hrel
   have hsz := hbA.size
   have hszo := Nat.le_trans hBw hbo.size
   by_cases hlt : k < fs.length
   ·obtain ⟨f, hf⟩ : ∃ f, fs[k]? = some f := ⟨_, List.getElem?_eq_getElem hlt⟩
    obtain ⟨b, off, rfl, hbs, hC⟩ := HC.out k f hf
    obtain ⟨e0, e1, e2, e3, e4⟩ := ((hC k f hf).below hbw (by omega)).below hbA (by have := hbw.size; omega)
    obtain ⟨x, hx⟩ : ∃ x, out[k]? = some x := ⟨_, List.getElem?_eq_getElem (by rw [HOL.out]; exact hlt)⟩
    obtain ⟨b2, o2, rfl, cx⟩ := ho.rd.intAt hx
    have hxb := hbm.out x (List.mem_of_getElem? hx)
    have hfo := HF.out f (List.mem_of_getElem? hf)
    unfold flOk at hfo
    obtain ⟨t, ht, ht0, ht1⟩ : ∃ t : Int, (if decide (f.min < x) = true then (1 : Int) else 0) = t ∧ 0 ≤ t ∧ t ≤ 1 := ⟨_, rfl, by split <;> omega, by split <;> omega⟩
    have hwk : (wtL false fs out)[k]? = some (f.shrink * t) := by
     unfold wtL
     rw [List.getElem?_map, List.getElem?_range hlt]
     show some (wtI false (fx fs k) (out.getD k 0)) = some _
     have e1 : fx fs k = f := by unfold fx; rw [List.getD_eq_getElem?_getD, hf]; rfl
     have e2 : out.getD k 0 = x := by rw [List.getD_eq_getElem?_getD, hx]; rfl
     rw [e1, e2, ← ht]
     unfold wtI farI wgtI
     by_cases h : f.min < x
     ·simp [h]
     ·simp [h]
    have ET := Lib.hid (show Is ((wtL false fs out).take (k + 1)) = Is ((wtL false fs out).take k) ++ Is [f.shrink * t] by
     rw [List.take_add_one, hwk, Is_append]
     rfl)
    have hwb : 0 ≤ f.shrink * t ∧ f.shrink * t ≤ 10 := by
     have h01 : t = 0 ∨ t = 1 := by omega
     rcases h01 with rfl | rfl <;> omega
    have hlk : ((wtL false fs out).take k).length ≤ 16 := by rw [List.length_take]; omega
    have hlti : (k : Int) < fs.length := by omega
    have hkw : IntKind.i64.wrap ((k : Int) + 1) = (k : Int) + 1 := by rw [IntKind.wrap_i64]; omega
    have CE := Lib.hid (fun wx (h : Below wo.heap.size wo wx) => (((hC k f hf).below hbw (by omega)).below h (by have := hbw.size; omega)))
    have CX := Lib.hid (fun wx (h : Below wo.heap.size wo wx) => cell_below h cx)
    clear hf hC hx hwk e0 e1 e2 e3 e4 cx
    have hww : IntKind.i64.wrap (f.shrink * t) = f.shrink * t := by rw [IntKind.wrap_i64]; omega
    go_upto_region 5 with fail
    refine wp_region_held_drew (S := fun w' => Below wo.heap.size wo w') (by kernel_rfl) hbA.drew (fun hS => ?_)
    have hoD := hoW.drew
    have hszD : wr.heap.size = wr.drew.heap.size := rfl
    rw [hszD] at hsz
    clear hoW hbA hszD
    generalize wr.drew = wd at *
    refine hTk hS 0 19 rfl (v := ?_) ?_ ?_
    rotate_left
    ·intro _ _; go_simp; first | done | with_reducible rfl
    simp only [Act.put, lsA, ls0, ls1]
    refine hTk hS 1 20 rfl (v := ?_) ?_ ?_
    rotate_left
    ·intro _ _; go_simp; first | done | with_reducible rfl
    simp only [Act.put, lsA, ls0, ls1]
    refine hTk hS 2 21 rfl (v := ?_) ?_ ?_
    rotate_left
    ·intro _ _; go_simp; first | done | with_reducible rfl
    simp only [Act.put, lsA, ls0, ls1]
    refine hTk hS 3 22 rfl (v := ?_) ?_ ?_
    rotate_left
    ·intro _ _; go_simp; first | done | with_reducible rfl
    simp only [Act.put, lsA, ls0, ls1]
    refine hTk hS 4 23 rfl (v := ?_) ?_ ?_
    rotate_left
    ·intro _ _; go_simp; first | done | with_reducible rfl
    simp only [Act.put, lsA, ls0, ls1]
    refine hTk hS 5 24 rfl (v := ?_) ?_ ?_
    rotate_left
    ·intro w9 hS9; obtain ⟨e0, e1, e2, e3, e4⟩ := CE.out _ hS9; go_simp; first | done | with_reducible rfl
    simp only [Act.put, lsA, ls0, ls1]
    refine hTk hS 6 25 rfl (v := ?_) ?_ ?_
    rotate_left
    ·intro _ _; go_simp; first | done | with_reducible rfl
    simp only [Act.put, lsA, ls0, ls1]
    refine hTk hS 7 26 rfl (v := ?_) ?_ ?_
    rotate_left
    ·intro _ _; go_simp; first | done | with_reducible rfl
    simp only [Act.put, lsA, ls0, ls1]
    refine hTk hS 8 27 rfl (v := ?_) ?_ ?_
    rotate_left
    ·intro _ _; go_simp; first | done | with_reducible rfl
    simp only [Act.put, lsA, ls0, ls1]
    refine hTk hS 9 28 rfl (v := ?_) ?_ ?_
    rotate_left
    ·intro w9 hS9; have q := CX.out _ hS9; go_simp; first | done | with_reducible rfl
    simp only [Act.put, lsA, ls0, ls1]
    refine hTk hS 10 29 rfl (v := ?_) ?_ ?_
    rotate_left
    ·intro _ _; go_simp; first | done | with_reducible rfl
    simp only [Act.put, lsA, ls0, ls1]
    refine hTk hS 11 30 rfl (v := ?_) ?_ ?_
    rotate_left
    ·intro _ _; go_simp; first | done | with_reducible rfl
    simp only [Act.put, lsA, ls0, ls1]
    refine hTk hS 12 31 rfl (v := ?_) ?_ ?_
    rotate_left
    ·intro _ _; go_simp; first | done | with_reducible rfl
    simp only [Act.put, lsA, ls0, ls1]
    refine hTk hS 13 32 rfl (v := ?_) ?_ ?_
    rotate_left
    ·intro _ _; go_simp; first | done | with_reducible rfl
    simp only [Act.put, lsA, ls0, ls1]
    refine hTk hS 14 33 rfl (v := ?_) ?_ ?_
    rotate_left
    ·intro w9 hS9; obtain ⟨e0, e1, e2, e3, e4⟩ := CE.out _ hS9; go_simp; first | done | with_reducible rfl
    simp only [Act.put, lsA, ls0, ls1]
    refine hTk hS 15 34 rfl (v := ?_) ?_ ?_
    rotate_left
    ·intro _ _; go_simp; first | done | with_reducible rfl
    simp only [Act.put, lsA, ls0, ls1]
    refine wpAnyH_ready (rs := [16]) (by kernel_rfl) (by simp) ?_
    refine AllReadyH.cons (o := _) rfl (fun K9 hK9 => ?_) AllReadyH.nil
    go_simp
    refine (toInt_any _ _).mono ?_
    rintro e w' ⟨he, hw'⟩
    rw [ht] at he
    subst he
    subst hw'
    try go_wp2_with fail
    refine hK9.out _ _ hS (fun hS => ?_)
    clear hK9 K9
    try simp only [Act.put, lsA, ls0, ls1]
    refine hTk hS 17 36 rfl (v := ?_) ?_ ?_
    rotate_left
    ·intro _ _; go_simp; first | done | with_reducible rfl
    simp only [Act.put, lsA, ls0, ls1]
    refine wpAnyH_ready (rs := [18]) (by kernel_rfl) (by simp) ?_
    refine AllReadyH.cons (o := _) rfl (fun K9 hK9 => ?_) AllReadyH.nil
    go_simp
    refine hK9.out _ _ (hS.alloc hsz _) (fun hS => ?_)
    clear hK9 K9
    try simp only [Act.put, lsA, ls0, ls1]
    refine wpAnyH_ready (rs := [19]) (by kernel_rfl) (by simp) ?_
    refine AllReadyH.cons (o := _) rfl (fun K9 hK9 => ?_) AllReadyH.nil
    refine step_app rfl _ _ _ rfl el_int rfl (hoD.alloc _) rfl (Rd.oneAt _ _ (by simp)) (Is_one [f.shrink * t]) ?hl ?hb ?hK
    case hl => rw [Is_length]; simp; omega
    case hb => rw [World.size_alloc]; omega
    intro v' w5 ho5 hg5 hf5
    have hb5 := below_app hS (hoD.alloc _) hg5 (by simp; omega) (Nat.le_refl _)
    refine hK9.out _ _ hb5 (fun hS => ?_)
    clear hK9 K9
    try simp only [Act.put, List.setIfInBounds_toArray]
    refine wpAnyH_ready (rs := [20]) (by kernel_rfl) (by simp) ?_
    refine AllReadyH.cons (o := _) rfl (fun K9 hK9 => ?_) AllReadyH.nil
    go_simp
    refine hK9.out _ _ hS (fun hS => ?_)
    clear hK9 K9
    try simp only [Act.put, lsA, ls0, ls1]
    refine wpAnyH_done (by kernel_rfl) ?_ _
    clear hS
    go_wp2
    go_roundw
    case rel => exact ⟨k + 1, by omega, by go_num, by rw [ET.out]; exact ho5, hb5⟩
    case measure => simp [intOf]; omega
   ·obtain rfl : k = fs.length := by omega
    rw [List.take_of_length_le (by rw [HWL.out]; exact Nat.le_refl _)] at hoW
    have HSH := Lib.hid (sshare_any wr hoW.rd (s := left) ⟨hl0, by omega⟩ (fun x hx => ⟨wt_pos HF.out x hx, by have := wt_le HF.out x hx; omega⟩) (by rw [HWL.out]; exact hn8))
    have HOW := Lib.hid (ho.below hbA (Nat.le_refl _))
    have HBB := Lib.hid (fun w' (h : Ext wr w') => hbo.trans ((hbA.mono hszo).trans (h.mono (Nat.le_trans hszo hsz))))
    have hkl : ¬ ((fs.length : Int) < fs.length) := by omega
    clear hoW
    go_wp2_with (fail)
    refine HSH.out.mono ?_
    rintro e w4 ⟨v4, rfl, ho4, hx4⟩
    have hoO4 := HOW.out.below hx4 (Nat.le_refl _)
    have hbB4 := HBB.out w4 hx4
    have HLT := Lib.hid HOW.out.lt
    have HTT := Lib.hid (sum_any w4 ho4.rd (fun x hx => by have h1 := share_pos hl0 (wt_pos HF.out) x hx; have h2 := share_le hl0 (wt_pos HF.out) x hx; omega) (by rw [share_length, HWL.out]; omega))
    have hslen : (shareL left (wtL false fs out)).length = fs.length := by rw [share_length, HWL.out]
    have HSL2 := Lib.hid (step_left HF.out hin.out hl0 (up := false))
    have HE0 := Lib.hid (show flexEnd false fs (F + 1) out left = if isum (shareL left (wtL false fs out)) = 0 then out else flexEnd false fs F (stepO false fs out (shareL left (wtL false fs out))) (stepL false fs out (shareL left (wtL false fs out)) left) from rfl)
    obtain ⟨B4, hB4⟩ : ∃ x, x = wr.heap.size := ⟨_, rfl⟩
    rw [← hB4] at ho4 HLT
    clear hB4 HSH hx4 HOW HBB hbA hsz hbo
    go_wp2_with (fail)
    refine HTT.out.mono ?_
    rintro e w5 ⟨rfl, hw5⟩
    subst hw5
    clear HTT
    by_cases hz : isum (shareL left (wtL false fs out)) = 0
    ·have he := HE0.out
     rw [if_pos hz, HE.out] at he
     have HFIN := Lib.hid he
     have hz' : (isum (shareL left (wtL false fs out)) == 0) = true := by simp [hz]
     clear he hz
     go_wp2
     go_ret
     exact ⟨rfl, by rw [HFIN.out]; exact hoO4, hbB4⟩
    ·have he := HE0.out
     rw [if_neg hz, HE.out] at he
     have HFIN := Lib.hid he
     have hz' : (isum (shareL left (wtL false fs out)) == 0) = false := by simp [hz]
     have hsl := HSL2.out hz
     have HSLEN := Lib.hid hslen
     obtain ⟨G, hG⟩ : ∃ G : Nat, G + 1 = F := ⟨F - 1, by omega⟩
     obtain ⟨a4, cap4, e4, hn4, hc4, _⟩ := ho4.rd.ints
     subst e4
     unfold maxLen at hc4
     rw [hslen] at hn4 ho4 ⊢
     clear he hz hslen
     have HD := Lib.hid (show (stepO false fs out (shareL left (wtL false fs out))).length = out.length by rw [stepO_length, HOL.out])
     have HSTEP := Lib.hid (step_in HF.out hin.out hl0 (up := false))
     have HLEN := Lib.hid (show ((List.range fs.length).map (movI false fs out (shareL left (wtL false fs out)))).length = fs.length by simp)
     have HMB := Lib.hid fun k => movs_bound (up := false) HF.out hin.out hl0 k
     have HMT := Lib.hid (show isum ((List.range fs.length).map (movI false fs out (shareL left (wtL false fs out)))) = left - stepL false fs out (shareL left (wtL false fs out)) left by unfold stepL; omega)
     have HMP := Lib.hid fun i (hi : i < fs.length) => mov_pos (up := false) HF.out hin.out hl0 hi
     have HSL := Lib.hid hsl
     clear hsl
     go_wp2_with (fail)
     go_loopw [2, 10] (fun lf i wx => ∃ k : Nat, k ≤ fs.length ∧ i = .int .i64 k ∧ lf = .int .i64 (left - isum (((List.range fs.length).map (movI false fs out (shareL left (wtL false fs out)))).take k)) ∧
      Own wx B 1 (.slice ao fs.length co) (Is (mixL (stepO false fs out (shareL left (wtL false fs out))) out k)) ∧ Own wx B4 1 (.slice a4 fs.length cap4) (Is (shareL left (wtL false fs out))) ∧ Below B w wx) (fun _ i _ => fs.length - (intOf i).toNat)
     case atStart => exact ⟨0, Nat.zero_le _, rfl, by simp [isum], by rw [mixL_zero]; exact hoO4, ho4, hbB4⟩
     case round =>
      clear hoO4 ho4 hbB4
      obtain ⟨k, hk, rfl, rfl, hoO, hoS, hbB⟩ := hrel
      have hszB := hbB.size
      have hmk1 := HMB.out k
      rw [HMT.out] at hmk1
      have hsl := HSL.out
      by_cases hlt : k < fs.length
      ·have hlti : (k : Int) < fs.length := by omega
       have hkw : IntKind.i64.wrap ((k : Int) + 1) = (k : Int) + 1 := by rw [IntKind.wrap_i64]; omega
       obtain ⟨f, hf⟩ : ∃ f, fs[k]? = some f := ⟨_, List.getElem?_eq_getElem hlt⟩
       have hfd : fx fs k = f := by unfold fx; rw [List.getD_eq_getElem?_getD, hf]; rfl
       obtain ⟨b, off, rfl, hbs, hC⟩ := HC.out k f hf
       obtain ⟨e0, e1, e2, e3, e4⟩ := ((hC k f hf).below hb (by omega)).below hbB (by omega)
       have hfo := HF.out f (List.mem_of_getElem? hf)
       unfold flOk at hfo
       obtain ⟨y, hy⟩ : ∃ y, (shareL left (wtL false fs out))[k]? = some y := ⟨_, List.getElem?_eq_getElem (by rw [HSLEN.out]; exact hlt)⟩
       have hyd : (shareL left (wtL false fs out)).getD k 0 = y := by rw [List.getD_eq_getElem?_getD, hy]; rfl
       obtain ⟨x, hx⟩ : ∃ x, out[k]? = some x := ⟨_, List.getElem?_eq_getElem (by rw [HOL.out]; exact hlt)⟩
       have hxd : out.getD k 0 = x := by rw [List.getD_eq_getElem?_getD, hx]; rfl
       have hxm : (mixL (stepO false fs out (shareL left (wtL false fs out))) out k)[k]? = some x := by
        rw [mixL_get HD.out (by rw [HD.out, HOL.out]; exact hk)]; exact hx
       have hsk : (stepO false fs out (shareL left (wtL false fs out)))[k]? = some (x - movI false fs out (shareL left (wtL false fs out)) k) := by
        unfold stepO
        rw [List.getElem?_map, List.getElem?_range hlt, ← hxd]
        rfl
       have hset := mixL_set HD.out hsk
       have hmv := (HMP.out k hlt).1
       have hxb := hbm.out x (List.mem_of_getElem? hx)
       have hyb := share_le hl0 (wt_pos HF.out) y (List.mem_of_getElem? hy)
       have hya := share_pos hl0 (wt_pos HF.out) y (List.mem_of_getElem? hy)
       have htk : isum (((List.range fs.length).map (movI false fs out (shareL left (wtL false fs out)))).take (k + 1)) = isum (((List.range fs.length).map (movI false fs out (shareL left (wtL false fs out)))).take k) + movI false fs out (shareL left (wtL false fs out)) k := isum_take (by simp [hlt])
       have HTK := Lib.hid htk
       have hmk2 := HMB.out (k + 1)
       rw [HMT.out, htk] at hmk2
       have hmov : movI false fs out (shareL left (wtL false fs out)) k = min y (x - f.min) := by unfold movI; rw [hyd, hxd, hfd]; rfl
       have hxc := hin.out.2 k hlt
       rw [hxd, hfd] at hxc
       obtain ⟨b4, o4, rfl, cy⟩ := hoS.rd.intAt hy
       have hxm' := Is_get hxm
       obtain ⟨b2, o2, n2, c2, e2', _, hbk, hB2, hbs2, hcell2, hfz2, hset2⟩ := hoO.cells (by
        intro h
        rw [h] at hxm'
        cases hxm')
       cases e2'
       have cx := hcell2 k _ hxm'
       have fx2 := hfz2 k
       have hb24 := (HLT.out b2 hbk).2
       have hst := hset2 k (.int .i64 (x - movI false fs out (shareL left (wtL false fs out)) k)) (List.getElem?_eq_some_iff.1 hxm').1
       rw [Is_set, hset] at hst
       have hoS2 := hoS.setOther (p := ⟨b2, o2 + k, none⟩) (fun e => by have := (hoS.lt _ e).1; dsimp only at this; omega) (.int .i64 (x - movI false fs out (shareL left (wtL false fs out)) k))
       have hbB2 := hbB.setCell (p := ⟨b2, o2 + k, none⟩) hB2 (.int .i64 (x - movI false fs out (shareL left (wtL false fs out)) k))
       have HST := Lib.hid (fun q => own_set_drewN hst q)
       have HO2 := Lib.hid (fun q => own_set_drewN hoS2 q)
       have HB2 := Lib.hid (fun q => below_set_drewN hbB2 q)
       have HMV := Lib.hid hmov
       clear hst hoS2 hbB2 hmov hset hset2 hsk hxm hxm' hxd hx hyd hy htk hoS hoO hfd hf hC hcell2 hfz2
       generalize movI false fs out (shareL left (wtL false fs out)) k = mv at *
       generalize hws : isum (((List.range fs.length).map (movI false fs out (shareL left (wtL false fs out)))).take k) = ms at *
       have HTK2 := Lib.hid (show left - ms - mv = left - isum (((List.range fs.length).map (movI false fs out (shareL left (wtL false fs out)))).take (k + 1)) by rw [HTK.out]; omega)
       clear HTK hws
       by_cases hmin : x - f.min < y
       ·have hmf : mv = x - f.min := by have := HMV.out; omega
        subst hmf
        clear HMV
        go_wp2
        go_quiet (fail)
        go_wp2
        go_roundw
        case rel => exact ⟨k + 1, by omega, by go_num, by rw [HTK2.out], HST.out _, HO2.out _, HB2.out _⟩
        case measure => simp [intOf]; omega
       ·obtain rfl : mv = y := by have := HMV.out; omega
        clear HMV
        go_wp2
        go_quiet (fail)
        go_wp2
        go_roundw
        case rel => exact ⟨k + 1, by omega, by go_num, by rw [HTK2.out], HST.out _, HO2.out _, HB2.out _⟩
        case measure => simp [intOf]; omega
      ·obtain rfl : k = fs.length := by omega
       have e1 : mixL (stepO false fs out (shareL left (wtL false fs out))) out fs.length = stepO false fs out (shareL left (wtL false fs out)) := by
        have h := mixL_full HD.out
        rw [stepO_length] at h
        exact h
       have e2 : left - isum (((List.range fs.length).map (movI false fs out (shareL left (wtL false fs out)))).take fs.length) = stepL false fs out (shareL left (wtL false fs out)) left := by
        rw [List.take_of_length_le (by rw [HLEN.out]; exact Nat.le_refl _)]
        rfl
       have hkl2 : ¬ ((fs.length : Int) < fs.length) := by omega
       rw [e1] at hoO
       rw [e2]
       have HS2 := Lib.hid hsl
       clear e1 e2 hmk1 hoS HMB HMT HMP hsl
       generalize stepL false fs out (shareL left (wtL false fs out)) left = lf2 at *
       go_wp2_with (fail)
       go_roundw
       case rel =>
        have hsl := HS2.out
        subst hG
        exact ⟨G, _, _, rfl, by omega, by omega, by omega, hoO, hbB, HSTEP, Lib.hid HFIN.out.symm⟩
       case measure => have hsl := HS2.out; simp [intOf]; omega
set_option maxHeartbeats 1000000 in
theorem flex_any {v : Value} {fs : List Flx} {space : Int} (w : World) (hv : Rd w 5 v (Fs fs)) (hf : ∀ f, f ∈ fs → flOk f) (hn8 : fs.length ≤ 8) (hs : 0 ≤ space ∧ space ≤ 200000) :
 Calls Tryz.prog 141 #[v, .int .i64 space] w fun e w' => ∃ v', e = .returned v' ∧ Own w' w.heap.size 1 v' (Is (flexL fs space)) ∧ Ext w w' := by
 have hrd := hv
 obtain ⟨a, c, rfl, hn, hc, _⟩ := hv.flxs
 clear hv
 unfold maxLen at hc
 have hin0 := bas_in hf
 have hbm := inB2_mem hf hin0
 have hbl : (basL fs).length = fs.length := by simp [basL]
 have hsum0 := isum_pos _ fun x hx => (hbm x hx).1
 have hsum1 := isum_le _ 10000 fun x hx => (hbm x hx).2
 rw [hbl] at hsum1
 have HSM := Lib.hid (fun w' v' (h : Rd w' 1 v' (Is (basL fs))) => sum_any w' h (fun x hx => by have := hbm x hx; omega) (by rw [hbl]; omega))
 have HBA := Lib.hid (bases_any w hrd hn8)
 replace hsum1 : isum (basL fs) ≤ 80000 := by omega
 have HIN := Lib.hid hin0
 have HF := Lib.hid hf
 clear hbm hbl hin0 hf
 go_enter Tryz.func141, Tryz.ntmps141
 go_wp2_with (fail)
 refine HBA.out.mono ?_
 rintro e w2 ⟨v2, rfl, ho2, hx2⟩
 go_wp2_with (fail)
 refine (HSM.out _ _ ho2.rd).mono ?_
 rintro e w3 ⟨rfl, hw3⟩
 subst hw3
 by_cases hup : isum (basL fs) ≤ space
 ·have hu : upB fs space = true := by unfold upB; simpa using hup
  have HL := Lib.hid (show flexL fs space = flexEnd true fs ((space - isum (basL fs)).toNat + 1) (basL fs) (space - isum (basL fs)) by unfold flexL left0; rw [hu, if_pos rfl])
  clear hu
  go_wp2_with (fail)
  refine (HSM.out _ _ ho2.rd).mono ?_
  rintro e w4 ⟨rfl, hw4⟩
  subst hw4
  have HG := Lib.hid (sgrow_any w _ hrd (Nat.le_refl _) hx2.size hx2 HF.out hn8 ho2 HIN.out (left0 := space - isum (basL fs)) (by omega) (by omega))
  go_wp2_with (fail)
  refine HG.out.mono ?_
  rintro e w5 ⟨rfl, ho5, hb5⟩
  go_wp2
  go_ret
  exact ⟨_, rfl, by rw [HL.out]; exact ho5, hx2.trans hb5⟩
 ·have hu : upB fs space = false := by unfold upB; simpa using hup
  have HL := Lib.hid (show flexL fs space = flexEnd false fs ((isum (basL fs) - space).toNat + 1) (basL fs) (isum (basL fs) - space) by unfold flexL left0; rw [hu, if_neg (by simp)])
  clear hu
  go_wp2_with (fail)
  refine (HSM.out _ _ ho2.rd).mono ?_
  rintro e w4 ⟨rfl, hw4⟩
  subst hw4
  have HG := Lib.hid (sshrink_any w _ hrd (Nat.le_refl _) hx2.size hx2 HF.out hn8 ho2 HIN.out (left0 := isum (basL fs) - space) (by omega) (by omega))
  go_wp2_with (fail)
  refine HG.out.mono ?_
  rintro e w5 ⟨rfl, ho5, hb5⟩
  go_wp2
  go_ret
  exact ⟨_, rfl, by rw [HL.out]; exact ho5, hx2.trans hb5⟩
set_option maxRecDepth 100000 in
set_option maxHeartbeats 2000000 in
theorem soffsets_any {v : Value} {l : List Int} {space gap j : Int} (w : World) (hv : Rd w 1 v (Is l)) (hn1 : 1 ≤ l.length) (hn8 : l.length ≤ 8) (hm : ∀ x, x ∈ l → 0 ≤ x ∧ x ≤ 10000) (hs : 0 ≤ space ∧ space ≤ 200000) (hg : 0 ≤ gap ∧ gap ≤ 50) (hj : 0 ≤ j ∧ j ≤ 3) :
 Calls Tryz.prog 143 #[v, .int .i64 space, .int .i64 gap, .int .i64 j] w fun e w' => ∃ v', e = .returned v' ∧ Own w' w.heap.size 1 v' (Is (offL l space gap j)) ∧ Ext w w' := by
 have hrd := hv
 obtain ⟨a, c, rfl, hn, hc, _⟩ := hv.ints
 clear hv
 unfold maxLen at hc
 obtain ⟨m, hlm⟩ : ∃ m, l.length = m + 1 := ⟨l.length - 1, by omega⟩
 have hsum0 := isum_pos l fun x hx => (hm x hx).1
 have hsum1 := isum_le l 10000 fun x hx => (hm x hx).2
 have hgm0 : 0 ≤ gap * (m : Int) := Int.mul_nonneg hg.1 (by omega)
 have hgm1 : gap * (m : Int) ≤ 50 * 8 := Int.mul_le_mul hg.2 (by omega) (by omega) (by omega)
 have hmk := fun W => mk_run (P := Tryz.prog) el_int (m + 1) (m + 1) (Nat.le_refl _) (by omega) W
 simp only [Int.natCast_add, Int.natCast_one] at hmk
 have hL : lftI l space gap = max 0 (space - isum l - gap * m) := by
  unfold lftI
  rw [hlm]
  congr 3
  omega
 have HT := Lib.hid (fun w' (h : Below w.heap.size w w') => sum_any (l := l) w' (hrd.below h (Nat.le_refl _)) (fun x hx => by have := hm x hx; omega) (by omega))
 have hm7 : m ≤ 7 := by omega
 have hmw : IntKind.i64.wrap (m : Int) = (m : Int) := by rw [IntKind.wrap_i64]; omega
 have hmw1 : IntKind.i64.wrap ((m : Int) + 1) = (m : Int) + 1 := by rw [IntKind.wrap_i64]; omega
 have HLM := Lib.hid hlm
 replace hsum1 : isum l ≤ 80000 := by omega
 rw [hlm] at hrd hn HT ⊢
 clear hn1 hn8 hlm
 have hbA := Below.of_alloc w (.cells #[] 3)
 go_enter Tryz.func143, Tryz.ntmps143
 go_upto_region 2 with fail
 generalize hwA : w.alloc (.cells #[] 3) = wA at *
 go_cut [10] (fun s wx => s = .int .i64 (lftI l space gap) ∧ wx = wA)
 case first =>
  by_cases hp : 0 < space - isum l - gap * m
  ·have hL' := Lib.hid (hL.trans (Int.max_eq_right (Int.le_of_lt hp)))
   clear hL
   go_wp2_with (fail)
   refine (HT.out _ hbA).mono ?_
   rintro e w1 ⟨rfl, rfl⟩
   go_wp2
   go_meet
   case rel => exact ⟨by rw [hL'.out], rfl⟩
  ·have hL' := Lib.hid (hL.trans (Int.max_eq_left (by omega)))
   clear hL
   go_wp2_with (fail)
   refine (HT.out _ hbA).mono ?_
   rintro e w1 ⟨rfl, rfl⟩
   go_wp2
   go_meet
   case rel => exact ⟨by rw [hL'.out], rfl⟩
 case rest =>
 obtain ⟨rfl, hwc⟩ := hcut
 subst hwc
 have hl0 := lft_pos l space gap
 have hl1 : lftI l space gap ≤ 200000 := by rw [hL]; omega
 clear hL
 have HS := Lib.hid (fun (W : World) v (h : Rd W 1 v (Is (List.replicate m 1))) => sshare_any W h (s := lftI l space gap) ⟨hl0, by omega⟩ (fun x hx => by have := List.eq_of_mem_replicate hx; omega) (by simp; omega))
 have hoM := Own.madeInts1 wc wc.heap.size (m + 1) (m + 1) 3 (Nat.le_refl _) (Nat.le_refl _) (by omega)
 have hbM := hbA.trans ((Below.of_alloc wc (.cells (madeCells #[Value.int .i64 0] (m + 1)) 3)).mono hbA.size)
 have hsA : wc.heap.size = w.heap.size + 1 := by rw [← hwA]; simp
 rw [hsA] at hoM
 clear hwA
 have hoR0 : Own wc w.heap.size 1 (.slice (some ⟨w.heap.size, 0, none⟩) 0 0) (Is []) := Own.empty _ _ _ _
 go_upto_block 0 with fail
 generalize wc.alloc (.cells (madeCells #[Value.int .i64 0] (m + 1)) 3) = wM at *
 go_cut [11, 12, 13, 14] (fun mo at_ _on _i wx => at_ = .int .i64 (at0 l space gap j) ∧ Rd wx 1 mo (Is (moreL l space gap j ++ [0])) ∧ Ext w wx)
 case first =>
  by_cases h3 : j = 3 ∧ 0 < m
  ·obtain ⟨rfl, h0⟩ := h3
   have E0 : Hid (at0 l space gap 3 = 0) := by show _ = _; simp [at0]
   have EM : Hid (moreL l space gap 3 = shareL (lftI l space gap) (List.replicate m 1)) := by show _ = _; unfold moreL; rw [HLM.out, if_pos (by omega)]; rfl
   have h0i : (0 : Int) < m := by omega
   have h0j : (1 : Int) < (m : Int) + 1 := by omega
   have hb0 := hbM.alloc hbM.size (.cells #[] 3)
   go_wp2_with (fail)
   go_loopw [13, 14] (fun on i wr => ∃ k : Nat, k ≤ m ∧ i = .int .i64 (k + 1 : Int) ∧ Own wr w.heap.size 1 on (Is (List.replicate k 1)) ∧ Below w.heap.size w wr) (fun _ i _ => m + 1 - (intOf i).toNat)
   case atStart => exact ⟨0, by omega, rfl, Own.empty _ _ _ _, hb0⟩
   case round =>
    clear hb0
    obtain ⟨k, hk, rfl, ho, hb⟩ := hrel
    have hsz := hb.size
    by_cases hlt : k < m
    ·have hlti : (k : Int) + 1 < (m : Int) + 1 := by omega
     have hkw : IntKind.i64.wrap ((k : Int) + 1 + 1) = (k : Int) + 1 + 1 := by rw [IntKind.wrap_i64]; omega
     have ET := Lib.hid (show Is (List.replicate (k + 1) 1) = Is (List.replicate k 1) ++ Is [1] by rw [List.replicate_succ', Is_append])
     go_wp2_with (at_builtin; refine wpList_app rfl _ _ _ rfl el_int rfl (ho.alloc _) rfl (Rd.oneAt _ _ (by simp)) (Is_one [1]) ?hl ?hb ?hK)
     case hl => rw [Is_length]; simp; omega
     case hb => simp; omega
     intro v' w5 ho5 hg5 hf5
     have hb5 := below_app (hb.alloc hb.size (.cells #[.int .i64 1] 3)) (ho.alloc _) hg5 (by simp; omega) (Nat.le_refl _)
     go_wp2
     go_roundw
     case rel => exact ⟨k + 1, by omega, by go_num, by rw [ET.out]; exact ho5, hb5⟩
     case measure => simp [intOf]; omega
    ·obtain rfl : k = m := by omega
     go_wp2_with (fail)
     refine (HS.out _ _ ho.rd).mono ?_
     rintro e w4 ⟨v4, rfl, ho4, hx4⟩
     have hx4' : Below w.heap.size w w4 := hb.trans (hx4.mono hsz)
     have hs4 := hx4.size
     have ho4w := ho4.weak hsz
     have hml : (shareL (lftI l space gap) (List.replicate k 1)).length = k := by rw [share_length]; simp
     have HML := Lib.hid hml
     clear hml
     go_wp2_with (at_builtin; refine wpList_app rfl _ _ _ rfl el_int rfl (ho4w.alloc _) rfl (Rd.oneAt _ _ (by simp)) (Is_one [0]) ?hl2 ?hb2 ?hK2)
     case hl2 => rw [Is_length, HML.out]; omega
     case hb2 => rw [World.size_alloc]; omega
     intro v' w5 ho5 hg5 hf5
     have hb5 := below_app (hx4'.alloc hx4'.size (.cells #[.int .i64 0] 3)) (ho4w.alloc _) hg5 (by simp; omega) (Nat.le_refl _)
     go_wp2
     go_meet
     case rel => exact ⟨by rw [E0.out], by rw [EM.out, Is_append]; exact ho5.rd, hb5⟩
  ·have EM : Hid (moreL l space gap j ++ [0] = List.replicate (m + 1) 0) := by show _ = _; unfold moreL; rw [HLM.out, if_neg (by omega), List.replicate_succ']; rfl
   have hR : Rd wM 1 (.slice (some ⟨w.heap.size + 1, 0, none⟩) (m + 1) (m + 1)) (Is (moreL l space gap j ++ [0])) := by rw [EM.out]; exact hoM.rd
   clear hoM
   by_cases j1 : j = 1
   ·subst j1
    have E0 : Hid (at0 l space gap 1 = lftI l space gap) := by show _ = _; simp [at0]
    go_wp2
    go_meet
    case rel => exact ⟨by rw [E0.out], hR, hbM⟩
   by_cases j2 : j = 2
   ·subst j2
    have E0 : Hid (at0 l space gap 2 = lftI l space gap / 2) := by show _ = _; simp [at0]
    go_wp2
    go_meet
    case rel => exact ⟨by rw [E0.out], hR, hbM⟩
   have E0 : Hid (at0 l space gap j = 0) := by show _ = _; unfold at0; rw [if_neg j1, if_neg j2]
   by_cases j3 : j = 3
   ·subst j3
    obtain rfl : m = 0 := by omega
    go_wp2
    go_meet
    case rel => exact ⟨by rw [E0.out], hR, hbM⟩
   ·have b1 : (j == 1) = false := by simp [j1]
    have b2 : (j == 2) = false := by simp [j2]
    have b3 : (j == 3) = false := by simp [j3]
    go_wp2
    go_meet
    case rel => exact ⟨by rw [E0.out], hR, hbM⟩
 case rest =>
 obtain ⟨rfl, hR, hb⟩ := hcut
 clear hoM hbM HS hoR0 hmk
 have hml : (moreL l space gap j).length = m := by rw [moreL_length, HLM.out]; rfl
 have hml2 : (moreL l space gap j ++ [0]).length = m + 1 := by rw [List.length_append, hml]; rfl
 have hmp := more_pos l space gap j
 have hms := at0_more l space gap j
 have hm2 : ∀ (k : Nat) (y : Int), (moreL l space gap j ++ [0])[k]? = some y → 0 ≤ y ∧ y ≤ 200000 := fun k y hy => by
  have hmem := List.mem_of_getElem? hy
  rcases List.mem_append.1 hmem with h | h
  ·have := isum_mem hmp h
   have := hmp y h
   omega
  ·simp at h
   omega
 have hoff : ∀ (k : Nat) (x : Int), l[k]? = some x → 0 ≤ offI l space gap j k ∧ offI l space gap j k ≤ 300000 := fun k x hx => by
  have h1 := off_bounds (space := space) (gap := gap) j (fun x hx => (hm x hx).1) hg.1 hx
  have h2 := hm x (List.mem_of_getElem? hx)
  have e : ((l.length : Int) - 1) = m := by rw [HLM.out]; omega
  rw [e] at h1
  omega
 have hsu : ∀ (k : Nat) (x y : Int), l[k]? = some x → (moreL l space gap j ++ [0])[k]? = some y → offI l space gap j k + x + gap + y = offI l space gap j (k + 1) := fun k x y hx hy => by
  by_cases hk : k < m
  ·rw [List.getElem?_append_left (by omega)] at hy
   have := off_succ (space := space) (gap := gap) j hx hy
   omega
  ·have hkl := (List.getElem?_eq_some_iff.1 hx).1
   obtain rfl : k = m := by rw [HLM.out] at hkl; omega
   rw [List.getElem?_append_right (by omega), hml, Nat.sub_self] at hy
   simp at hy
   subst hy
   have e1 := isum_take hx
   unfold offI
   rw [e1, List.take_of_length_le (show (moreL l space gap j).length ≤ k + 1 by omega), List.take_of_length_le (show (moreL l space gap j).length ≤ k by omega)]
   push_cast
   rw [Int.mul_add]
   omega
 have HO := Lib.hid hoff
 have HSU := Lib.hid hsu
 have HM := Lib.hid hm
 have HM2 := Lib.hid hm2
 have HR := Lib.hid hR
 obtain ⟨am, cm, rfl, hnm, hcm, _⟩ := hR.ints
 rw [hml2] at hnm HR ⊢
 unfold maxLen at hcm
 have HA0 := Lib.hid (off_zero l space gap j)
 have HML2 := Lib.hid hml2
 clear hm hmp hms hm2 hoff hR hsum0 hsum1 hl0 hl1 hgm0 hgm1 HT hsu hml hml2
 go_wp2_with (fail)
 go_loopw [9, 12, 15] (fun out at_ i wr => ∃ k : Nat, k ≤ m + 1 ∧ i = .int .i64 k ∧ at_ = .int .i64 (offI l space gap j k) ∧ Own wr wc.heap.size 1 out (Is ((offL l space gap j).take k)) ∧ Below wc.heap.size wc wr) (fun _ _ i _ => m + 1 - (intOf i).toNat)
 case atStart => exact ⟨0, by omega, rfl, by rw [HA0.out], Own.empty _ _ _ _, Below.refl _ _⟩
 case round =>
  obtain ⟨k, hk, rfl, rfl, hoO, hbr⟩ := hrel
  have hsw := hb.size
  by_cases hlt : k < m + 1
  ·obtain ⟨x, hx⟩ : ∃ x, l[k]? = some x := ⟨_, List.getElem?_eq_getElem (by rw [HLM.out]; exact hlt)⟩
   obtain ⟨y, hy⟩ : ∃ y, (moreL l space gap j ++ [0])[k]? = some y := ⟨_, List.getElem?_eq_getElem (by rw [HML2.out]; exact hlt)⟩
   have hb0 := hb.trans (hbr.mono hb.size)
   obtain ⟨b, off, rfl, ck⟩ := hrd.intAt hx
   obtain ⟨bm, om, rfl, _⟩ := HR.out.intAt hy
   have CX := Lib.hid (fun W (hW : Below w.heap.size w W) => show W.cell? ⟨b, off + k, none⟩ = some (.int .i64 x) by
    obtain ⟨b', o', e, h⟩ := (hrd.below hW (Nat.le_refl _)).intAt hx
    cases e
    exact h)
   have CY := Lib.hid (fun W (hW : Below wc.heap.size wc W) => show W.cell? ⟨bm, om + k, none⟩ = some (.int .i64 y) by
    obtain ⟨b', o', e, h⟩ := (HR.out.below hW (Nat.le_refl _)).intAt hy
    cases e
    exact h)
   have hx0 := HM.out x (List.mem_of_getElem? hx)
   have hy0 := HM2.out k y hy
   have ho0 := HO.out k x hx
   have hsz := hbr.size
   have es := Lib.hid (HSU.out k x y hx hy)
   have ET := Lib.hid (show Is ((offL l space gap j).take (k + 1)) = Is ((offL l space gap j).take k) ++ Is [offI l space gap j k] by
    rw [List.take_add_one, offL_get (by rw [HLM.out]; exact hlt), ← Is_append]
    rfl)
   have hlk : ((offL l space gap j).take k).length ≤ 16 := by rw [List.length_take]; omega
   have hlti : (k : Int) < (m : Int) + 1 := by omega
   have hkk : IntKind.i64.wrap ((k : Int) + 1) = (k : Int) + 1 := by rw [IntKind.wrap_i64]; omega
   clear hx hy ck
   go_wp2_with (at_builtin; refine wpList_app rfl _ _ _ rfl el_int rfl (hoO.alloc _) rfl (Rd.oneAt _ _ (by simp)) (Is_one [offI l space gap j k]) ?hl5 ?hb6 ?hK5)
   case hl5 => rw [Is_length]; simp; omega
   case hb6 => rw [World.size_alloc]; omega
   intro v' w5 ho5 hg5 hf5
   have hb5 := below_app (hbr.alloc hbr.size (.cells #[.int .i64 (offI l space gap j k)] 3)) (hoO.alloc _) hg5 (by simp; omega) (Nat.le_refl _)
   have cy5 := CY.out _ hb5
   have cx5 := CX.out _ (hb.trans (hb5.mono hb.size))
   go_wp2
   go_quiet (fail)
   go_wp2
   go_roundw
   case rel => exact ⟨k + 1, by omega, by go_num, by rw [es.out], by rw [ET.out]; exact own_drewN ho5 _, below_drewN hb5 _⟩
   case measure => simp [intOf]; omega
  ·obtain rfl : k = m + 1 := by omega
   have e : (offL l space gap j).take (m + 1) = offL l space gap j := by
    rw [List.take_of_length_le (by rw [offL_length, HLM.out]; exact Nat.le_refl _)]
   rw [e] at hoO
   have hbE := hb.trans (hbr.mono hb.size)
   clear e
   go_wp2
   go_ret
   exact ⟨_, rfl, hoO.weak hb.size, hbE⟩
end Go.Proofs.YthkkgleoikpfgaaGreatDoor
