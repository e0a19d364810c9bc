/-
  Flexible sizes for a space: impl.flexed.
-/
import Derived.IntWalk
import Derived.Deep.CutBlock
import Derived.Deep.DeepCutAuto
import Derived.Test.YtbkhbmcoococmaaRoom
import Derived.Test.YtbkhbmcoococmaaMake
namespace Go.Proofs.Ytbkhbmcoococmaa
open Go Go.RowKit

/-- the first k of A, the rest of B -/
def mixL {α : Type} (A B : List α) (k : Nat) : List α := A.take k ++ B.drop k
theorem mixL_zero {α : Type} (A B : List α) : mixL A B 0 = B := by simp [mixL]
theorem mixL_full {α : Type} {A B : List α} (h : A.length = B.length) : mixL A B A.length = A := by
  unfold mixL
  rw [List.take_of_length_le (Nat.le_refl _), List.drop_eq_nil_of_le (by omega), List.append_nil]
theorem mixL_length {α : Type} {A B : List α} (h : A.length = B.length) {k : Nat} (hk : k ≤ A.length) : (mixL A B k).length = A.length := by
  unfold mixL
  rw [List.length_append, List.length_take, List.length_drop]
  omega
theorem mixL_get {α : Type} {A B : List α} (h : A.length = B.length) {k : Nat} (hk : k ≤ A.length) : (mixL A B k)[k]? = B[k]? := by
  unfold mixL
  rw [List.getElem?_append_right (by rw [List.length_take]; omega), List.length_take, Nat.min_eq_left hk, Nat.sub_self, List.getElem?_drop]
  simp
theorem mixL_set {α : Type} {A B : List α} (h : A.length = B.length) {k : Nat} {x : α} (hx : A[k]? = some x) : (mixL A B k).set k x = mixL A B (k + 1) := by
  have hk := (List.getElem?_eq_some_iff.1 hx).1
  have hl : (A.take k).length = k := by rw [List.length_take]; omega
  obtain ⟨y, hy⟩ : ∃ y, B[k]? = some y := ⟨_, List.getElem?_eq_getElem (by omega)⟩
  have e : B.drop k = y :: B.drop (k + 1) := by
    obtain ⟨h1, h2⟩ := List.getElem?_eq_some_iff.1 hy
    rw [List.drop_eq_getElem_cons h1, h2]
  unfold mixL
  rw [e, List.set_append, if_neg (by omega), hl, Nat.sub_self, List.set_cons_zero, List.take_add_one, hx, List.append_assoc]
  rfl
theorem mixL_same {α : Type} {A B : List α} (h : A.length = B.length) {k : Nat} {x : α} (hx : A[k]? = some x) (hy : B[k]? = some x) : mixL A B (k + 1) = mixL A B k := by
  have hk := (List.getElem?_eq_some_iff.1 hx).1
  rw [← mixL_set h hx]
  apply List.ext_getElem?
  intro i
  rw [List.getElem?_set]
  split
  · rename_i e
    subst e
    rw [if_pos (by rw [mixL_length h (by omega)]; exact hk), mixL_get h (by omega), hy]
  · rfl

/-- a size more is put behind the others -/
theorem FlM.app {S : Nat} {w w5 : World} {lv ov v' : Value} {out out' : List Int} (h : FlM S w lv ov out) (o1 o2 : Obj) (ho : Own w5 (S + 1) 1 v' (Is out')) (hg : ((w.alloc o1).alloc o2).grownBy w5 (blk ov))
    (hb : blk v' = blk ov ∨ ∃ k, blk v' = some k ∧ w.heap.size + 1 + 1 ≤ k) :
    S + 3 ≤ w5.heap.size ∧ w5.cell? ⟨S + 2, 0, none⟩ = some ov ∧ w5.frozen? ⟨S + 2, 0, none⟩ = false ∧ FlM S (w5.setCell ⟨S + 2, 0, none⟩ v') lv v' out' ∧ Below S w (w5.setCell ⟨S + 2, 0, none⟩ v') := by
  obtain ⟨h0, h1, h2, h3, h4, h5⟩ := h
  have hbA : Below w.heap.size w ((w.alloc o1).alloc o2) := (Below.of_alloc w o1).alloc (by simp) o2
  have hsz := hbA.size
  have hlt := h4.lt
  have e0 : w5.heap[S]? = w.heap[S]? := by
    rw [hg.block S (by omega) (fun e => by have := hlt S e.symm; omega), hbA.block S (by omega)]
  have e2 : w5.heap[S + 2]? = w.heap[S + 2]? := by
    rw [hg.block (S + 2) (by omega) (fun e => h5 e.symm), hbA.block (S + 2) (by omega)]
  have hne : blk v' ≠ some (S + 2) := by
    rcases hb with hb | ⟨k, hb, hk⟩
    · rw [hb]; exact h5
    · rw [hb]
      intro e
      cases e
      omega
  have hB : Below S w w5 := (hbA.mono (by omega)).grown hg (by omega) fun k hk => by have := hlt k hk; omega
  have c2 : w5.cell? ⟨S + 2, 0, none⟩ = some ov := by unfold World.cell? at h2 ⊢; rw [e2]; exact h2
  have f2 : w5.frozen? ⟨S + 2, 0, none⟩ = false := by unfold World.frozen? at h3 ⊢; rw [e2]; exact h3
  refine ⟨by have := hg.size; omega, c2, f2, ⟨by have := hg.size; simp [World.setCell]; omega, ?_, ?_, ?_, ho.setOther hne v', hne⟩, hB.setCell (by show S ≤ S + 2; omega) _⟩
  · rw [cell_setOther _ (by dsimp only; omega)]
    unfold World.cell? at h1 ⊢
    rw [e0]
    exact h1
  · obtain ⟨o, ho2⟩ : ∃ o, w5.heap[S + 2]? = some o := ⟨_, Array.getElem?_eq_getElem (by have := hg.size; omega)⟩
    cases o with
    | cells cs e f =>
      have hcs : 0 < cs.size := by
        rw [cell_of_heap (f := f) (by rw [ho2])] at c2
        exact (Array.getElem?_eq_some_iff.1 c2).1
      unfold World.cell? World.setCell
      simp [Array.getElem?_modify, ho2, hcs]
    | _ => simp [World.cell?, ho2] at c2
  · rw [frozen_setCell]; exact f2

theorem wt_le {up : Bool} {fs : List Flx} {out : List Int} (hf : ∀ f, f ∈ fs → flOk f) : ∀ x, x ∈ wtL up fs out → x ≤ 10 := by
  intro x hx
  unfold wtL at hx
  obtain ⟨i, hi, rfl⟩ := List.mem_map.1 hx
  have := hf _ (fx_mem (List.mem_range.1 hi))
  unfold flOk at this
  unfold wtI wgtI
  split
  · split <;> omega
  · omega
theorem movs_bound {up : Bool} {fs : List Flx} {out : List Int} {left : Int} (hf : ∀ f, f ∈ fs → flOk f) (h : inB2 fs out) (hl : 0 ≤ left) (k : Nat) :
    0 ≤ isum (((List.range fs.length).map (movI up fs out (shareL left (wtL up fs out)))).take k) ∧ isum (((List.range fs.length).map (movI up fs out (shareL left (wtL up fs out)))).take k) ≤ isum ((List.range fs.length).map (movI up fs out (shareL left (wtL up fs out)))) :=
  isum_take_le (fun x hx => by
    obtain ⟨i, hi, rfl⟩ := List.mem_map.1 hx
    exact (mov_pos hf h hl (List.mem_range.1 hi)).1) k

theorem mixL_getD {A B : List Int} (h : A.length = B.length) {k : Nat} (hk : k ≤ A.length) (i : Nat) : (mixL A B k).getD i 0 = if i < k then A.getD i 0 else B.getD i 0 := by
  unfold mixL
  simp only [List.getD_eq_getElem?_getD]
  by_cases hi : i < k
  · rw [if_pos hi, List.getElem?_append_left (by rw [List.length_take]; omega), List.getElem?_take, if_pos hi]
  · rw [if_neg hi, List.getElem?_append_right (by rw [List.length_take]; omega), List.length_take, Nat.min_eq_left hk, List.getElem?_drop]
    congr 2
    omega
theorem inB2_mix {fs : List Flx} {A B : List Int} (hA : inB2 fs A) (hB : inB2 fs B) {k : Nat} (hk : k ≤ fs.length) : inB2 fs (mixL A B k) := by
  have hl : A.length = B.length := by rw [hA.1, hB.1]
  refine ⟨by rw [mixL_length hl (by rw [hA.1]; exact hk), hA.1], fun i hi => ?_⟩
  rw [mixL_getD hl (by rw [hA.1]; exact hk)]
  split
  · exact hA.2 i hi
  · exact hB.2 i hi

theorem step_at {up : Bool} {fs : List Flx} {out sh : List Int} {sg : Int} (h : (if up then (1 : Int) else -1) = sg) {k : Nat} (hk : k < fs.length) : (stepO up fs out sh)[k]? = some (out.getD k 0 + sg * movI up fs out sh k) := by
  unfold stepO
  rw [List.getElem?_map, List.getElem?_range hk, ← h]
  show some _ = some _
  cases up
  · simp; omega
  · simp

theorem room_any {S : Nat} {lv : Value} {fs : List Flx} (up : Bool) (hf : ∀ f, f ∈ fs → flOk f) : ∃ N c1 c2, (if up then Value.func (.func 95) #[] #[.pointer (some ⟨S, 0, none⟩), .pointer (some ⟨S + 2, 0, none⟩)] else Value.func (.func 96) #[] #[.pointer (some ⟨S + 2, 0, none⟩), .pointer (some ⟨S, 0, none⟩)]) = Value.func (.func N) #[] #[c1, c2] ∧
    (∀ args w', (callFunc N args).run Try.prog w' = .ok (.enter N args) w') ∧
    ∀ (w : World) (ov : Value) (out : List Int), Rd w 5 lv (Fs fs) → FlM S w lv ov out → inB2 fs out → ∀ i : Nat, i < fs.length → Calls Try.prog N #[.int .i64 (i : Int), c1, c2] w fun e w' => e = .returned (.tuple #[.int .i64 (farI up (fx fs i) (out.getD i 0)), .int .i64 (wgtI up (fx fs i))]) ∧ ∃ m, w' = w.drewN m := by
  cases up
  · exact ⟨_, _, _, rfl, fun _ _ => by kernel_rfl, fun w ov out hr hM hin i hi => roomD_any w hr hM hin.1 hi hf hin⟩
  · exact ⟨_, _, _, rfl, fun _ _ => by kernel_rfl, fun w ov out hr hM hin i hi => roomU_any w hr hM hin.1 hi hf hin⟩
set_option maxRecDepth 100000 in
set_option maxHeartbeats 2000000 in
theorem flexed_any {v : Value} {fs : List Flx} {space : Int} (w : World) (hv : Rd w 5 v (Fs fs)) (hf : ∀ f, f ∈ fs → flOk f) (hn8 : fs.length ≤ 8) (hs : 0 ≤ space ∧ space ≤ 200000) :
    Calls Try.prog 57 #[v, .int .i64 space] w fun e w' => ∃ v', e = .returned v' ∧ Own w' w.heap.size 1 v' (Is (flexL fs space)) ∧ Ext w w' := by
  have hrd := hv
  obtain ⟨a, c, rfl, hn, hc, hcell⟩ := hv.flxs
  clear hv
  unfold maxLen at hc
  have hmk0 := fun W => mk_run0 (P := Try.prog) el_int fs.length (by omega) W
  have hmk := fun W => mk_run (P := Try.prog) el_int fs.length fs.length (Nat.le_refl _) (by omega) W
  obtain ⟨N, c1, c2, hRM, hN, hRoom⟩ := room_any (S := w.heap.size) (lv := .slice a fs.length c) (upB fs space) hf
  have HRoom := Lib.hid hRoom
  have HRM := Lib.hid hRM
  have HC := Lib.hid hcell
  have HF := Lib.hid hf
  clear hRoom hRM hcell hf
  go_enter Try.func57, Try.ntmps57
  go_wp2_with (fail)
  rw [show w.heap.size + 1 + 1 = w.heap.size + 2 from rfl]
  obtain ⟨W, hW⟩ : ∃ W, ((w.alloc (.cells #[.slice a fs.length c] 33)).alloc (.cells (madeCells #[Value.int .i64 0] fs.length) 3)).alloc (.cells #[.slice (some ⟨w.heap.size + 1, 0, none⟩) 0 fs.length] 31) = W := ⟨_, rfl⟩
  rw [hW]
  have hbW : Below w.heap.size w W := by
    rw [← hW]
    exact ((Below.of_alloc _ _).alloc (by simp) _).alloc (by simp; omega) _
  have hMW : FlM w.heap.size W (.slice a fs.length c) (.slice (some ⟨w.heap.size + 1, 0, none⟩) 0 fs.length) ((basL fs).take 0) := by
    obtain ⟨k1, k2, k3⟩ := heap_new3 w (.cells #[.slice a fs.length c] 33) (.cells (madeCells #[Value.int .i64 0] fs.length) 3) (.cells #[.slice (some ⟨w.heap.size + 1, 0, none⟩) 0 fs.length] 31)
    rw [hW] at k1 k2 k3
    have ho := Own.madeInts1 (w.alloc (.cells #[.slice a fs.length c] 33)) (w.heap.size + 1) 0 fs.length 3 (by simp) (Nat.zero_le _) (by omega)
    have ho2 := ho.alloc (.cells #[.slice (some ⟨w.heap.size + 1, 0, none⟩) 0 fs.length] 31)
    rw [World.size_alloc, hW] at ho2
    refine ⟨by rw [← hW]; simp, by rw [cell_of_heap k1]; rfl, by rw [cell_of_heap k3]; rfl, frozen_of_heap k3, ho2, fun e => ?_⟩
    have := blk_out e
    omega
  clear hW
  have hbl : (basL fs).length = fs.length := by simp [basL]
  have HBL := Lib.hid hbl
  clear hbl
  go_loopw [7, 25] (fun _p i wr => ∃ (k : Nat) (ov : Value), k ≤ fs.length ∧ i = .int .i64 k ∧ FlM w.heap.size wr (.slice a fs.length c) ov ((basL fs).take k) ∧ Below w.heap.size w wr) (fun _ i _ => fs.length - (intOf i).toNat)
  case atStart => exact ⟨0, _, Nat.zero_le _, rfl, hMW, hbW⟩
  case round =>
    clear hMW hbW hmk0
    obtain ⟨k, ov, hk, rfl, hM, hb⟩ := hrel
    have hsz := hM.lt
    have m0 := hM.c0
    have m2 := hM.c2
    by_cases hlt : k < fs.length
    · obtain ⟨f, hfk⟩ : ∃ f, fs[k]? = some f := ⟨_, List.getElem?_eq_getElem hlt⟩
      obtain ⟨b, off, rfl, hbs, hC⟩ := HC.out k f hfk
      obtain ⟨e0, e1, e2, e3, e4⟩ := (hC k f hfk).below hb hbs
      have hlti : (k : Int) < fs.length := by omega
      have hkw : IntKind.i64.wrap ((k : Int) + 1) = (k : Int) + 1 := by rw [IntKind.wrap_i64]; omega
      have ET := Lib.hid (show (basL fs).take (k + 1) = (basL fs).take k ++ [f.base] by
        rw [List.take_add_one, show (basL fs)[k]? = some f.base by simp [basL, hfk]]
        rfl)
      have hlk : ((basL fs).take k).length ≤ 16 := by rw [List.length_take]; omega
      have HA := Lib.hid fun w5 v' => hM.app (w5 := w5) (v' := v') (out' := (basL fs).take k ++ [f.base]) (.cells f.arr 37) (.cells #[.int .i64 f.base] 3)
      have how := hM.own
      have HB := Lib.hid hb
      have m2a : (wr.alloc (.cells f.arr 37)).cell? ⟨w.heap.size + 2, 0, none⟩ = some ov := (hM.below (Below.of_alloc _ _)).c2
      unfold Flx.arr at m2a
      clear hC hfk hb
      go_wp2_with (at_builtin; refine wpList_app rfl _ _ _ rfl el_int rfl ((how.alloc _).alloc _) rfl (Rd.oneAt _ _ (by simp)) (Is_one [f.base]) ?hl ?hb ?hK)
      case hl => rw [Is_length]; simp; omega
      case hb => simp; omega
      intro v' w5 ho5 hg5 hf5
      replace ho5 : Own w5 (w.heap.size + 1) 1 v' (Is ((basL fs).take k ++ [f.base])) := by rw [Is_append]; exact ho5
      obtain ⟨hs5, g2, g3, hM5, hb5⟩ := HA.out w5 v' ho5 hg5 hf5
      obtain ⟨a5, n5, c5, rfl⟩ : ∃ a n c, v' = .slice a n c := by obtain ⟨a, n, c, h, _⟩ := ho5; exact ⟨a, n, c, h⟩
      clear HA how hM
      go_wp2
      go_roundw
      case rel => exact ⟨k + 1, _, by omega, by go_num, by rw [ET.out]; exact hM5, HB.out.trans hb5⟩
      case measure => simp [intOf]; omega
    · obtain rfl : k = fs.length := by omega
      rw [List.take_of_length_le (by rw [HBL.out]; exact Nat.le_refl _)] at hM
      have hin0 := Lib.hid (bas_in HF.out)
      have hbm := inB2_mem HF.out hin0.out
      have hsum0 := isum_pos _ fun x hx => (hbm x hx).1
      have hsum1 := isum_le _ 10000 fun x hx => (hbm x hx).2
      rw [HBL.out] at hsum1
      replace hsum1 : isum (basL fs) ≤ 80000 := by omega
      have HT := Lib.hid (total_any (l := basL fs) wr hM.own.rd (fun x hx => by have := hbm x hx; omega) (by rw [HBL.out]; omega))
      have hkw : ¬ ((fs.length : Int) < fs.length) := by omega
      have hl0 := left0_pos fs space
      have hl1 : left0 fs space ≤ 200000 := by unfold left0; split <;> omega
      have HUP : Hid (upB fs space = decide (isum (basL fs) ≤ space)) := rfl
      clear hbm
      have hsum2 : space - isum (basL fs) ≤ 200000 ∧ -200000 ≤ space - isum (basL fs) := by omega
      go_wp2_with (fail)
      refine HT.out.mono ?_
      rintro e w1 ⟨rfl, hw1⟩
      subst hw1
      go_upto_if 41 with (fail)
      go_cut [8, 9, 10] (fun lf sg rm wx => lf = .int .i64 (left0 fs space) ∧ sg = .int .i64 (if upB fs space then 1 else -1) ∧ rm = .func (.func N) #[] #[c1, c2] ∧ wx = w1)
      case first =>
        by_cases hup : isum (basL fs) ≤ space
        · have h1 : upB fs space = true := by rw [HUP.out]; simpa using hup
          have E0 := Lib.hid (show left0 fs space = space - isum (basL fs) by unfold left0; rw [if_pos h1])
          have hlt : ¬ (space - isum (basL fs) < 0) := by omega
          have R := HRM
          rw [h1] at R
          have E1 := Lib.hid (show (if upB fs space then (1 : Int) else -1) = 1 by rw [if_pos h1])
          clear h1
          go_wp2
          go_meet
          case rel => exact ⟨by rw [E0.out], by rw [E1.out], R.out, rfl⟩
        · have h1 : upB fs space = false := by rw [HUP.out]; simpa using hup
          have E0 := Lib.hid (show left0 fs space = -(space - isum (basL fs)) by unfold left0; rw [if_neg (by rw [h1]; simp)]; omega)
          have hlt : space - isum (basL fs) < 0 := by omega
          have R := HRM
          rw [h1] at R
          have E1 := Lib.hid (show (if upB fs space then (1 : Int) else -1) = -1 by rw [if_neg (by rw [h1]; simp)])
          clear h1
          go_wp2
          go_meet
          case rel => exact ⟨by rw [E0.out], by rw [E1.out], R.out, rfl⟩
      case rest =>
      obtain ⟨rfl, rfl, rfl, rfl⟩ := hcut
      obtain ⟨sg, hsg⟩ : ∃ sg : Int, (if upB fs space then (1 : Int) else -1) = sg := ⟨_, rfl⟩
      have HSG := Lib.hid hsg
      rw [hsg]
      have hsg1 : sg = 1 ∨ sg = -1 := by rw [← hsg]; split <;> simp
      clear hsg hsum0 hsum1 hsum2 hlt hk HT hkw
      have HS0 : Hid (flexEnd (upB fs space) fs ((left0 fs space).toNat + 1) (basL fs) (left0 fs space) = flexL fs space) := rfl
      have hlen0 := Lib.hid (Nat.le_refl (left0 fs space).toNat)
      go_wp2_with (fail)
      go_loopw [8] (fun lf wr => ∃ (F : Nat) (ov : Value) (out : List Int) (left : Int), lf = .int .i64 left ∧ 0 ≤ left ∧ left ≤ 200000 ∧ left.toNat ≤ F ∧ FlM w.heap.size wr (.slice a fs.length c) ov out ∧ Below w.heap.size w wr ∧ Hid (inB2 fs out) ∧ Hid (flexEnd (upB fs space) fs (F + 1) out left = flexL fs space)) (fun lf _ => (intOf lf).toNat)
      case atStart => exact ⟨_, _, _, _, rfl, hl0, hl1, hlen0.out, hM, hb, hin0, HS0⟩
      case round =>
        clear hM hb hin0 HS0 hlen0 hl0 hl1
        clear m0 m2 hsz
        obtain ⟨F, ov, out, left, rfl, hl0, hl1, hF, hM, hb, hin, HE⟩ := hrel
        obtain ⟨wo, hwo⟩ : ∃ x, x = wr := ⟨_, rfl⟩
        subst hwo
        have hol := hin.out.1
        have HOL := Lib.hid hol
        have hbm := Lib.hid (inB2_mem HF.out hin.out)
        clear hol
        -- the weights
        have hM1 := hM.below (Below.of_alloc wo (.cells (madeCells #[Value.int .i64 0] fs.length) 3))
        have hoW := Own.madeInts1 wo wo.heap.size fs.length fs.length 3 (Nat.le_refl _) (Nat.le_refl _) (by omega)
        have hbA := Below.of_alloc wo (.cells (madeCells #[Value.int .i64 0] fs.length) 3)
        have m0 := hM1.c0
        have hwl := wtL_length (upB fs space) fs out
        have HWL := Lib.hid (show (wtL (upB fs space) fs out).length = (List.replicate fs.length (0 : Int)).length by rw [hwl, List.length_replicate])
        have HFULL := Lib.hid (show mixL (wtL (upB fs space) fs out) (List.replicate fs.length (0 : Int)) fs.length = wtL (upB fs space) fs out by
          have h := mixL_full HWL.out
          rw [hwl] at h
          exact h)
        clear hwl
        have m0' := hM.c0
        go_wp2_with (fail)
        go_loopw [50] (fun i wa => ∃ k : Nat, k ≤ fs.length ∧ i = .int .i64 k ∧ FlM w.heap.size wa (.slice a fs.length c) ov out ∧ Own wa wo.heap.size 1 (.slice (some ⟨wo.heap.size, 0, none⟩) fs.length fs.length) (Is (mixL (wtL (upB fs space) fs out) (List.replicate fs.length 0) k)) ∧ Below wo.heap.size wo wa) (fun i _ => fs.length - (intOf i).toNat)
        case atStart => exact ⟨0, Nat.zero_le _, rfl, hM1, by rw [mixL_zero]; exact hoW, hbA⟩
        case round =>
          clear hM1 hoW hbA m0 m0'
          obtain ⟨k, hk, rfl, hMa, hoW, hbA⟩ := hrel
          have hsz := hMa.lt
          have hrd2 := (hrd.below hb (Nat.le_refl _)).below hbA (Nat.le_refl _)
          by_cases hlt : k < fs.length
          · have hlti : (k : Int) < fs.length := by omega
            have hkw : IntKind.i64.wrap ((k : Int) + 1) = (k : Int) + 1 := by rw [IntKind.wrap_i64]; omega
            have hwk : (wtL (upB fs space) fs out)[k]? = some (wtI (upB fs space) (fx fs k) (out.getD k 0)) := by
              unfold wtL
              rw [List.getElem?_map, List.getElem?_range hlt]
              rfl
            have hzk : (List.replicate fs.length (0 : Int))[k]? = some 0 := by rw [List.getElem?_replicate, if_pos hlt]
            have HWK := Lib.hid hwk
            have HZK := Lib.hid hzk
            clear hwk hzk
            go_wp2_with (fail)
            refine (HRoom.out _ ov out hrd2 hMa hin.out k hlt).mono ?_
            rintro e w2 ⟨rfl, q, rfl⟩
            have hM2 := hMa.below (w' := wr.drewN q) (below_drewN (Below.refl _ _) _)
            have hoW2 := own_drewN hoW q
            have hb2 := below_drewN hbA q
            have hsz2 : (wr.drewN q).heap.size = wr.heap.size := rfl
            clear hMa hoW hbA hrd2
            generalize wr.drewN q = w2 at *
            obtain ⟨y, hy⟩ : ∃ y, (mixL (wtL (upB fs space) fs out) (List.replicate fs.length (0 : Int)) k)[k]? = some y := ⟨_, by rw [mixL_get HWL.out (by rw [HWL.out, List.length_replicate]; exact hk)]; exact HZK.out⟩
            obtain ⟨_, cy, fy, hset⟩ := hoW2.setI hy
            have HSET := Lib.hid hset
            have HR := Lib.hid (show wtI (upB fs space) (fx fs k) (out.getD k 0) = if 0 < farI (upB fs space) (fx fs k) (out.getD k 0) then wgtI (upB fs space) (fx fs k) else 0 from rfl)
            have HBS := Lib.hid (fun u => hb2.setCell (p := ⟨wo.heap.size, k, none⟩) (Nat.le_refl _) u)
            clear hset hy hsz2
            by_cases hfar : 0 < farI (upB fs space) (fx fs k) (out.getD k 0)
            · have hwi := HR.out
              rw [if_pos hfar] at hwi
              have HWI := Lib.hid hwi
              clear hwi
              generalize farI (upB fs space) (fx fs k) (out.getD k 0) = far at *
              generalize hwg : wgtI (upB fs space) (fx fs k) = wg at *
              go_wp2
              go_roundw
              case rel =>
                refine ⟨k + 1, by omega, by go_num, hM.below (HBS.out _), ?_, HBS.out _⟩
                rw [← mixL_set HWL.out HWK.out, HWI.out]
                exact HSET.out _
              case measure => simp [intOf]; omega
            · have hwi := HR.out
              rw [if_neg hfar] at hwi
              have HWI := Lib.hid hwi
              clear hwi
              generalize farI (upB fs space) (fx fs k) (out.getD k 0) = far at *
              generalize hwg : wgtI (upB fs space) (fx fs k) = wg at *
              go_wp2
              go_roundw
              case rel =>
                refine ⟨k + 1, by omega, by go_num, hM2, ?_, hb2⟩
                rw [mixL_same HWL.out HWK.out (by rw [HWI.out]; exact HZK.out)]
                exact hoW2
              case measure => simp [intOf]; omega
          · obtain rfl : k = fs.length := by omega
            rw [HFULL.out] at hoW
            have hM2 := hM.below hbA
            have HBLK := Lib.hid (fun q hq => (hM2.own.lt q hq).2)
            have HSH := Lib.hid (share_any wr hoW.rd (s := left) ⟨hl0, by omega⟩ (fun x hx => ⟨wt_pos HF.out x hx, by have := wt_le HF.out x hx; omega⟩) (by rw [HWL.out, List.length_replicate]; exact hn8))
            have hkl : ¬ ((fs.length : Int) < fs.length) := by omega
            clear hoW hMa
            go_wp2_with (fail)
            refine HSH.out.mono ?_
            rintro e w4 ⟨v4, rfl, ho4, hx4⟩
            have hM4 := hM2.below hx4
            have hb4 := hbA.trans (hx4.mono hbA.size)
            have HTT := Lib.hid (total_any w4 ho4.rd (fun x hx => by have h1 := share_pos hl0 (wt_pos HF.out) x hx; have h2 := share_le hl0 (wt_pos HF.out) x hx; omega) (by rw [share_length, HWL.out, List.length_replicate]; omega))
            have hslen : (shareL left (wtL (upB fs space) fs out)).length = fs.length := by rw [share_length, HWL.out, List.length_replicate]
            have hsl2 := step_left HF.out hin.out hl0 (up := upB fs space)
            have HSL2 := Lib.hid hsl2
            have HE0 := Lib.hid (show flexEnd (upB fs space) fs (F + 1) out left = if isum (shareL left (wtL (upB fs space) fs out)) = 0 then out else flexEnd (upB fs space) fs F (stepO (upB fs space) fs out (shareL left (wtL (upB fs space) fs out))) (stepL (upB fs space) fs out (shareL left (wtL (upB fs space) fs out)) left) from rfl)
            clear hsl2 hM2 HSH hx4
            go_wp2_with (fail)
            refine HTT.out.mono ?_
            rintro e w5 ⟨rfl, hw5⟩
            subst hw5
            clear HTT
            have m5 := hM4.c2
            by_cases hz : isum (shareL left (wtL (upB fs space) fs out)) = 0
            · have he := HE0.out
              rw [if_pos hz, HE.out] at he
              have HFIN := Lib.hid he
              have hz' : (isum (shareL left (wtL (upB fs space) fs out)) == 0) = true := by simp [hz]
              have hown := hM4.own.weak (Nat.le_succ w.heap.size)
              have hbE := hb.trans (hb4.mono hb.size)
              clear he hz
              go_wp2
              go_ret
              exact ⟨_, rfl, by rw [HFIN.out]; exact hown, hbE⟩
            · have he := HE0.out
              rw [if_neg hz, HE.out] at he
              have HFIN := Lib.hid he
              have hz' : (isum (shareL left (wtL (upB fs space) fs out)) == 0) = false := by simp [hz]
              have hsl := HSL2.out hz
              have HSLEN := Lib.hid hslen
              obtain ⟨G, hG⟩ : ∃ G : Nat, G + 1 = F := ⟨F - 1, by omega⟩
              obtain ⟨a4, cap4, e4, hn4, hc4, _⟩ := ho4.rd.ints
              subst e4
              unfold maxLen at hc4
              rw [hslen] at hn4 ho4 ⊢
              clear he hz hslen
              have hdlen : (stepO (upB fs space) fs out (shareL left (wtL (upB fs space) fs out))).length = out.length := by rw [stepO_length, HOL.out]
              have HD := Lib.hid hdlen
              clear hdlen
              have hstep := step_in HF.out hin.out hl0 (up := upB fs space)
              have hb5 := hb.trans (hb4.mono hb.size)
              have HSTEP := Lib.hid hstep
              have HLEN := Lib.hid (show ((List.range fs.length).map (movI (upB fs space) fs out (shareL left (wtL (upB fs space) fs out)))).length = fs.length by simp)
              have HMB := Lib.hid fun k => movs_bound (up := upB fs space) HF.out hin.out hl0 k
              have hmt : isum ((List.range fs.length).map (movI (upB fs space) fs out (shareL left (wtL (upB fs space) fs out)))) = left - stepL (upB fs space) fs out (shareL left (wtL (upB fs space) fs out)) left := by unfold stepL; omega
              have HMT := Lib.hid hmt
              have HMP := Lib.hid fun i (hi : i < fs.length) => mov_pos (up := upB fs space) HF.out hin.out hl0 hi
              have HSL := Lib.hid hsl
              clear hstep hmt hsl hb4 hsz
              obtain ⟨B4, hB4⟩ : ∃ x, x = wr.heap.size := ⟨_, rfl⟩
              rw [← hB4] at ho4 HBLK
              clear hB4
              go_wp2_with (fail)
              go_loopw [8, 75] (fun lf i wx => ∃ k : Nat, k ≤ fs.length ∧ i = .int .i64 k ∧ lf = .int .i64 (left - isum (((List.range fs.length).map (movI (upB fs space) fs out (shareL left (wtL (upB fs space) fs out)))).take k)) ∧
                FlM w.heap.size wx (.slice a fs.length c) ov (mixL (stepO (upB fs space) fs out (shareL left (wtL (upB fs space) fs out))) out k) ∧ Own wx B4 1 (.slice a4 fs.length cap4) (Is (shareL left (wtL (upB fs space) fs out))) ∧ Below w.heap.size w wx) (fun _ i _ => fs.length - (intOf i).toNat)
              case atStart => exact ⟨0, Nat.zero_le _, rfl, by simp [isum], by rw [mixL_zero]; exact hM4, ho4, hb5⟩
              case round =>
                clear hM4 ho4 hb5 m5
                obtain ⟨k, hk, rfl, rfl, hMb, hoS, hbB⟩ := hrel
                have hszB := hMb.lt
                have hmk1 := HMB.out k
                rw [HMT.out] at hmk1
                have hsl := HSL.out
                by_cases hlt : k < fs.length
                · have hlti : (k : Int) < fs.length := by omega
                  have hkw : IntKind.i64.wrap ((k : Int) + 1) = (k : Int) + 1 := by rw [IntKind.wrap_i64]; omega
                  obtain ⟨y, hy⟩ : ∃ y, (shareL left (wtL (upB fs space) fs out))[k]? = some y := ⟨_, List.getElem?_eq_getElem (by rw [HSLEN.out]; exact hlt)⟩
                  have hyd : (shareL left (wtL (upB fs space) fs out)).getD k 0 = y := by rw [List.getD_eq_getElem?_getD, hy]; rfl
                  obtain ⟨x, hx⟩ : ∃ x, out[k]? = some x := ⟨_, List.getElem?_eq_getElem (by rw [HOL.out]; exact hlt)⟩
                  have hxd : out.getD k 0 = x := by rw [List.getD_eq_getElem?_getD, hx]; rfl
                  have hxm : (mixL (stepO (upB fs space) fs out (shareL left (wtL (upB fs space) fs out))) out k)[k]? = some x := by
                    rw [mixL_get HD.out (by rw [HD.out, HOL.out]; exact hk)]; exact hx
                  have hxmd : (mixL (stepO (upB fs space) fs out (shareL left (wtL (upB fs space) fs out))) out k).getD k 0 = x := by rw [List.getD_eq_getElem?_getD, hxm]; rfl
                  have hsk := step_at (out := out) (sh := shareL left (wtL (upB fs space) fs out)) HSG.out hlt
                  rw [hxd] at hsk
                  have hset := mixL_set HD.out hsk
                  have hmv := HMP.out k hlt
                  have hxb := hbm.out x (List.mem_of_getElem? hx)
                  have hyb := share_le hl0 (wt_pos HF.out) y (List.mem_of_getElem? hy)
                  have hya := share_pos hl0 (wt_pos HF.out) y (List.mem_of_getElem? hy)
                  have htk : isum (((List.range fs.length).map (movI (upB fs space) fs out (shareL left (wtL (upB fs space) fs out)))).take (k + 1)) = isum (((List.range fs.length).map (movI (upB fs space) fs out (shareL left (wtL (upB fs space) fs out)))).take k) + movI (upB fs space) fs out (shareL left (wtL (upB fs space) fs out)) k := isum_take (by simp [hlt])
                  have HTK := Lib.hid htk
                  have hmk2 := HMB.out (k + 1)
                  rw [HMT.out, htk] at hmk2
                  have hmov : movI (upB fs space) fs out (shareL left (wtL (upB fs space) fs out)) k = min y (farI (upB fs space) (fx fs k) x) := by unfold movI; rw [hyd, hxd]
                  have cy := (hoS.rd.intAt hy)
                  obtain ⟨b4, o4, rfl, cy⟩ := cy
                  obtain ⟨b, off, n, cc, rfl, hSb, hbs, hbk, hn, _, _, _⟩ := hMb.set hxm
                  have hb4 := HBLK.out b hbk
                  have hnk : (k : Int) < n := by
                    rw [mixL_length HD.out (by rw [HD.out, HOL.out]; exact hk), HD.out, HOL.out] at hn
                    omega
                  have HR := HRoom.out wr _ _ ((hrd.below hbB (Nat.le_refl _))) hMb (inB2_mix HSTEP.out hin.out hk) k hlt
                  rw [hxmd] at HR
                  have hxc := (inB2_mix HSTEP.out hin.out hk).2 k hlt
                  rw [hxmd] at hxc
                  have hfar := far_pos (up := upB fs space) (inB2_mix HSTEP.out hin.out hk) hlt
                  rw [hxmd] at hfar
                  have hsm : sg * movI (upB fs space) fs out (shareL left (wtL (upB fs space) fs out)) k ≤ 200000 ∧ -200000 ≤ sg * movI (upB fs space) fs out (shareL left (wtL (upB fs space) fs out)) k := by
                    rcases hsg1 with rfl | rfl <;> omega
                  have HRR := Lib.hid HR
                  have HMV := Lib.hid hmov
                  have HSET := Lib.hid hset
                  have HXM := Lib.hid hxm
                  have hmv0 := hmv.1
                  clear HR hmov hset hsk hxmd hxm hxd hx hyd hy htk hmv
                  go_wp2_with (fail)
                  refine HRR.out.mono ?_
                  rintro e w6 ⟨rfl, q, rfl⟩
                  have hMq := hMb.below (w' := wr.drewN q) (below_drewN (Below.refl _ _) _)
                  have hoSq := own_drewN hoS q
                  have hbBq := below_drewN hbB q
                  clear hMb hoS hbB HRR cy hszB
                  generalize wr.drewN q = wq at *
                  obtain ⟨b', off', n', cc', e', _, hbs, _, _, cx, fx', hset2⟩ := hMq.set HXM.out
                  cases e'
                  have m2 := hMq.c2
                  have hszq := hMq.lt
                  have hst := hset2 (x + sg * movI (upB fs space) fs out (shareL left (wtL (upB fs space) fs out)) k)
                  rw [HSET.out] at hst
                  have hoS2 := hoSq.setOther (p := ⟨b, off + k, none⟩) (fun e => by have := (hoSq.lt _ e).1; dsimp only at this; omega) (.int .i64 (x + sg * movI (upB fs space) fs out (shareL left (wtL (upB fs space) fs out)) k))
                  have hbB2 := hbBq.setCell (p := ⟨b, off + k, none⟩) (by show w.heap.size ≤ b; omega) (.int .i64 (x + sg * movI (upB fs space) fs out (shareL left (wtL (upB fs space) fs out)) k))
                  have HST := Lib.hid hst
                  have HO2 := Lib.hid hoS2
                  have HB2 := Lib.hid hbB2
                  clear hst hoS2 hbB2 hset2 hMq hoSq hbBq
                  generalize hmvg : movI (upB fs space) fs out (shareL left (wtL (upB fs space) fs out)) k = mv at *
                  generalize hws : isum (((List.range fs.length).map (movI (upB fs space) fs out (shareL left (wtL (upB fs space) fs out)))).take k) = ms at *
                  generalize hfg : farI (upB fs space) (fx fs k) x = far at *
                  have HTK2 := Lib.hid (show left - ms - mv = left - isum (((List.range fs.length).map (movI (upB fs space) fs out (shareL left (wtL (upB fs space) fs out)))).take (k + 1)) by rw [HTK.out]; omega)
                  clear HTK hws hmvg hfg
                  by_cases hmin : far < y
                  · obtain rfl : mv = far := by have := HMV.out; omega
                    clear HMV
                    go_wp2
                    go_roundw
                    case rel => exact ⟨k + 1, by omega, by go_num, by rw [HTK2.out], HST.out, HO2.out, HB2.out⟩
                    case measure => simp [intOf]; omega
                  · obtain rfl : mv = y := by have := HMV.out; omega
                    clear HMV
                    go_wp2
                    go_roundw
                    case rel => exact ⟨k + 1, by omega, by go_num, by rw [HTK2.out], HST.out, HO2.out, HB2.out⟩
                    case measure => simp [intOf]; omega
                · obtain rfl : k = fs.length := by omega
                  have e1 : mixL (stepO (upB fs space) fs out (shareL left (wtL (upB fs space) fs out))) out fs.length = stepO (upB fs space) fs out (shareL left (wtL (upB fs space) fs out)) := by
                    have h := mixL_full HD.out
                    rw [stepO_length] at h
                    exact h
                  have e2 : left - isum (((List.range fs.length).map (movI (upB fs space) fs out (shareL left (wtL (upB fs space) fs out)))).take fs.length) = stepL (upB fs space) fs out (shareL left (wtL (upB fs space) fs out)) left := by
                    rw [List.take_of_length_le (by rw [HLEN.out]; exact Nat.le_refl _)]
                    rfl
                  have hkl2 : ¬ ((fs.length : Int) < fs.length) := by omega
                  rw [e1] at hMb
                  rw [e2]
                  have HS2 := Lib.hid hsl
                  have HBB := Lib.hid hbB
                  clear e1 e2 hmk1 hoS hbB HMB HMT HMP hsl
                  generalize stepL (upB fs space) fs out (shareL left (wtL (upB fs space) fs out)) left = lf2 at *
                  go_wp2_with (fail)
                  go_roundw
                  case rel =>
                    have hsl := HS2.out
                    subst hG
                    exact ⟨G, _, _, _, rfl, by omega, by omega, by omega, hMb, HBB.out, HSTEP, Lib.hid HFIN.out.symm⟩
                  case measure => have hsl := HS2.out; simp [intOf]; omega
end Go.Proofs.Ytbkhbmcoococmaa
