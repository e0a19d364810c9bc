/-
  RemoveBox, of the program and of the reference.
-/
import Derived.Test.YtckggmbmlpikhaaRen
import Derived.Test.YtckggmbmlpikhaaSAdd
namespace Go.Proofs.Ytckggmbmlpikhaa
open Go Go.RowKit

theorem Rd.take {w : World} {b off n c : Nat} {l : List Bx} (h : Rd w 9 (.slice (some ⟨b, off, none⟩) n c) (Bs l)) {m : Nat} (hm : m ≤ l.length) :
    Rd w 9 (.slice (some ⟨b, off, none⟩) m c) (Bs (l.take m)) := by
  have := h.sub (i := 0) (m := m) (by omega)
  rw [Nat.zero_mul, Nat.add_zero, Nat.sub_zero, List.drop_zero] at this
  exact this
/-- what RemoveBox of the reference has built behind box k -/
def remTo (l : List Bx) (a k : Nat) : List Bx := l.take a ++ ((l.take k).drop (a + cntS l a)).map (drp a (cntS l a))
theorem remTo_start (l : List Bx) (a : Nat) : remTo l a (a + cntS l a) = l.take a := by
  unfold remTo
  rw [List.drop_eq_nil_of_le (by rw [List.length_take]; omega)]
  simp
theorem remTo_full (l : List Bx) (a : Nat) : remTo l a l.length = remL l a := by
  unfold remTo remL
  rw [List.take_of_length_le (Nat.le_refl _)]
theorem remTo_succ {l : List Bx} {a k : Nat} {y : Bx} (hk : a + cntS l a ≤ k) (hy : l[k]? = some y) : remTo l a (k + 1) = remTo l a k ++ [drp a (cntS l a) y] := by
  have hkl := (List.getElem?_eq_some_iff.1 hy).1
  unfold remTo
  rw [List.take_add_one, hy, List.drop_append_of_le_length (by rw [List.length_take]; omega)]
  simp
theorem remTo_length (l : List Bx) (a k : Nat) : (remTo l a k).length ≤ l.length + l.length := by
  unfold remTo
  simp only [List.length_append, List.length_take, List.length_map, List.length_drop]
  omega
/-- a valid tree and a number of one of its boxes other than the first -/
def remB (l : List Bx) (i : Int) : Bool := vldB l && inR i 1 ((l.length : Int) - 1)
theorem remB_iff {l : List Bx} {i : Int} : remB l i = true ↔ Valid l ∧ 0 < i ∧ i < l.length := by
  unfold remB
  rw [Bool.and_eq_true, vldB_iff, inR_iff]
  constructor
  · rintro ⟨h, h1, h2⟩; exact ⟨h, by omega, by omega⟩
  · rintro ⟨h, h1, h2⟩; exact ⟨h, by omega, by omega⟩
theorem Rd.dropIf {w : World} {b off n c : Nat} {l : List Bx} (h : Rd w 9 (.slice (some ⟨b, off, none⟩) n c) (Bs l)) {e : Nat} (he : e ≤ l.length) :
    Rd w 9 (.slice (if c = e then some ⟨b, off, none⟩ else some ⟨b, off + e * 9, none⟩) (l.length - e) (c - e)) (Bs (l.drop e)) := by
  have hs := h.sub (i := e) (m := l.length - e) (by omega)
  rw [List.take_of_length_le (by rw [List.length_drop]; omega)] at hs
  obtain ⟨a', n', c', e', hl, hn, hc, _⟩ := h
  cases e'
  rw [Bs_length] at hl
  split
  · have h1 : l.length - e = 0 := by omega
    rw [List.drop_eq_nil_of_le (by omega), h1]
    exact Rd.empty _ _ _ _ (by omega)
  · exact hs
theorem drp_bmpI (a n : Nat) : drp a n = bmpI (a : Int) (-(n : Int)) := by
  funext y
  unfold drp bmpI
  split
  · rfl
  · rw [Int.sub_zero]
    rfl

set_option maxRecDepth 100000 in
set_option maxHeartbeats 2000000 in
theorem without_any {v : Value} {l : List Bx} {i : Nat} (hval : Valid l) (w : World) (hi0 : 0 < i) (hi : i < l.length) (hv : Rd w 9 v (Bs l)) :
    Calls Try.prog 62 #[v, .int .i64 i] w fun e w' => ∃ v', e = .returned v' ∧ Own w' w.heap.size 9 v' (Bs (remL l i)) ∧ Ext w w' := by
  have hrd := hv
  obtain ⟨a, c, rfl, hn, hc, hcell⟩ := hv.boxes
  unfold maxLen at hc
  have HC := Lib.hid hcell
  obtain ⟨b, off, rfl, hbl, _⟩ := HC.out i _ (bx_get hi)
  have hcl := cntS_le l i
  have hpos := cntS_pos hval hi
  have hci : i + cntS l i ≤ l.length := by omega
  have hll := hval.hi
  have Hv := Lib.hid hval
  have hic : (i : Int) ≤ c := by omega
  clear hval hcell hv
  go_enter Try.func62, Try.ntmps62
  go_wp2_with (fail)
  refine (scount_any (l := l) (a := (i : Int)) _ (by omega) (by omega) hrd Hv.out).mono ?_
  rintro e w2 ⟨rfl, rfl⟩
  rw [Int.toNat_natCast]
  have hsub := (hrd.alloc (.cells #[] 33)).take (m := i) (by omega)
  go_wp2_with (at_builtin; (refine wpList_app rfl _ _ _ rfl el_box rfl (Own.empty _ w.heap.size 9 _) rfl hsub (Bs_one _) ?hl1 ?hb1 ?hK1))
  case hl1 => rw [Bs_length, List.length_take]; simp; omega
  case hb1 => simp
  intro v3 w3 ho hg3 hf3
  have hb : Below w.heap.size w w3 := after (Below.of_alloc w (.cells #[] 33)) (ext_app0 hg3) (Nat.le_refl _)
  try rw [List.nil_append] at ho
  rw [← remTo_start] at ho
  clear hsub hg3 hf3
  go_wp2
  go_loopw [6, 7] (fun s9 n w' => ∃ k : Nat, n = .int .i64 k ∧ i + cntS l i ≤ k ∧ k ≤ l.length ∧ Own w' w.heap.size 9 s9 (Bs (remTo l i k)) ∧ Below w.heap.size w w') (fun _ n _ => l.length - (intOf n).toNat)
  case atStart => exact ⟨i + cntS l i, by simp, Nat.le_refl _, hci, ho, hb⟩
  case round =>
    clear ho hb
    obtain ⟨k, rfl, hk0, hk, hok, hbk⟩ := hrel
    by_cases hlt : k < l.length
    · obtain ⟨b', off', e', _, hC⟩ := HC.out i _ (bx_get hi)
      cases e'
      obtain ⟨c0, c1, c2, c3, c4, c5, c6, c7, c8⟩ := (hC k _ (bx_get hlt)).below hbk hbl
      clear hC
      have hlti : (k : Int) < l.length := by omega
      have hszk := hbk.size
      go_upto_region 7 with fail
      have hKW : Keep wr.heap.size (.cells (bx l k).arr 33) (wr.alloc (.cells (bx l k).arr 33)) := Keep.new _ _
      have hoW := hok.alloc (.cells (bx l k).arr 33)
      have hbW := hbk.alloc hszk (.cells (bx l k).arr 33)
      have hbl9 : blk u6 ≠ some wr.heap.size := fun e => by have := (hok.lt _ e).2; omega
      generalize hW9 : wr.alloc (.cells (bx l k).arr 33) = W9 at *
      change wr.alloc _ = W9 at hW9
      unfold Bx.arr at hW9
      have p0 : W9.drew.cell? ⟨wr.heap.size, 0, none⟩ = some (.int .i64 (bx l k).parent) := hKW.cell 0
      rw [hW9]
      clear hW9
      obtain ⟨t, ht, ht0, ht1⟩ : ∃ t : Int, (if decide ((i : Int) ≤ (bx l k).parent) = true then (1 : Int) else 0) = t ∧ 0 ≤ t ∧ t ≤ 1 := ⟨_, rfl, by split <;> omega, by split <;> omega⟩
      obtain ⟨m, hm, hm0, hm1⟩ : ∃ m : Int, (cntS l i : Int) * t = m ∧ 0 ≤ m ∧ m ≤ cntS l i := by
        have : t = 0 ∨ t = 1 := by omega
        rcases this with rfl | rfl
        · exact ⟨0, by omega, by omega, by omega⟩
        · exact ⟨_, rfl, by omega, by omega⟩
      have hpk := Hv.out.parLt hlt
      have hwm : IntKind.i64.wrap m = m := by rw [IntKind.wrap_i64]; omega
      have hwp : IntKind.i64.wrap ((bx l k).parent - m) = (bx l k).parent - m := by rw [IntKind.wrap_i64]; omega
      go_still_tail 11, (by kernel_rfl)
      still_call ((toInt_any _ _).mono (by rintro e w' ⟨he, rfl⟩; rw [ht] at he; exact ⟨he, rfl⟩))
      repeat still_step
      try refine wpStill_nil ?_
      change wpList _ _ _ _ _ W9.drew
      have hK8 : Keep wr.heap.size (.cells (bx l k).arr 33) W9.drew := hKW
      have ho8 := hoW.drew
      have hb8 := hbW.drew
      clear hKW hoW hbW p0
      generalize W9.drew = W8 at *
      have hB8 : Hid (drp i (cntS l i) (bx l k) = (bx l k).at ((bx l k).parent - m)) := by
        show _ = _
        unfold drp
        rw [← hm, ← ht]
        by_cases hge : (i : Int) ≤ (bx l k).parent
        · simp [hge]
        · simp [hge]
      have hl8 := hK8.lt
      have q0 : W8.cell? ⟨wr.heap.size, 0, none⟩ = some (.int .i64 (bx l k).parent) := hK8.cell 0
      have q1 : W8.cell? ⟨wr.heap.size, 1, none⟩ = some (.int .i64 (bx l k).kind) := hK8.cell 1
      have q2 : W8.cell? ⟨wr.heap.size, 2, none⟩ = some (.int .i64 (bx l k).w) := hK8.cell 2
      have q3 : W8.cell? ⟨wr.heap.size, 3, none⟩ = some (.int .i64 (bx l k).h) := hK8.cell 3
      have q4 : W8.cell? ⟨wr.heap.size, 4, none⟩ = some (.int .i64 (bx l k).pad) := hK8.cell 4
      have q5 : W8.cell? ⟨wr.heap.size, 5, none⟩ = some (.int .i64 (bx l k).gap) := hK8.cell 5
      have q6 : W8.cell? ⟨wr.heap.size, 6, none⟩ = some (.int .i64 (bx l k).grow) := hK8.cell 6
      have q7 : W8.cell? ⟨wr.heap.size, 7, none⟩ = some (.int .i64 (bx l k).shrink) := hK8.cell 7
      have q8 : W8.cell? ⟨wr.heap.size, 8, none⟩ = some (.int .i64 (bx l k).justify) := hK8.cell 8
      have f0 : W8.frozen? ⟨wr.heap.size, 0, none⟩ = false := hK8.frozen 0
      have ho7 := ho8.setOther (p := ⟨wr.heap.size, 0, none⟩) hbl9 (.int .i64 ((bx l k).parent - m))
      have hb7 := hb8.setCell (p := ⟨wr.heap.size, 0, none⟩) (by show w.heap.size ≤ wr.heap.size; omega) (.int .i64 ((bx l k).parent - m))
      have hs7 : wr.heap.size < (W8.setCell ⟨wr.heap.size, 0, none⟩ (.int .i64 ((bx l k).parent - m))).heap.size := by simpa [World.setCell] using hl8
      have hll2 := hll
      clear c0 c1 c2 c3 c4 c5 c6 c7 c8 ho8 hb8 hK8 ht hm
      go_wp2_with (at_builtin; refine wpList_app rfl _ _ _ rfl el_box rfl (ho7.alloc _) rfl (Rd.oneAt ((bx l k).at ((bx l k).parent - m)).arr 33 (by simp [World.setCell])) (Bx.vals_one _) ?hlA ?hbA ?hKA)
      case hlA => have := remTo_length l i k; simp only [Bs_length]; simp [Bx.arr]; omega
      case hbA => simp; omega
      intro v' w1 ho1 hg1 hf1
      have hb1 := below_app (hb7.alloc (by omega) _) (ho7.alloc _) hg1 (by simp; omega) (by omega)
      go_wp2
      go_roundw
      case rel => exact ⟨k + 1, by go_num, by omega, by omega, by rw [remTo_succ hk0 (bx_get hlt), Bs_append, hB8.out]; exact ho1, hb1⟩
      case measure => simp [intOf]; omega
    · obtain rfl : k = l.length := by omega
      rw [remTo_full] at hok
      go_wp2
      go_ret
      exact ⟨_, rfl, hok, hbk⟩

set_option maxRecDepth 100000 in
set_option maxHeartbeats 2000000 in
theorem sRemoveBox_any {v : Value} {l : List Bx} (i : Int) (w : World) (hv : Rd w 9 v (Bs l)) (hl : l.length ≤ 1048576) :
    Calls Try.prog 27 #[v, .int .i64 i] w fun e w' => ∃ v', e = .returned (.tuple #[v', .bool (remB l i)]) ∧ Own w' w.heap.size 9 v' (Bs (orNo (remB l i) (remL l i.toNat))) ∧ Ext w w' := by
  have hrd := hv
  obtain ⟨a, c, rfl, hn, hc, hcell⟩ := hv.boxes
  unfold maxLen at hc
  by_cases hvb : vldB l = true
  · by_cases hin : inR i 1 ((l.length : Int) - 1) = true
    · have h : remB l i = true := by unfold remB; rw [hvb, hin]; rfl
      obtain ⟨hval, h0, hi⟩ := remB_iff.1 h
      obtain ⟨i, rfl⟩ := Int.eq_ofNat_of_zero_le (Int.le_of_lt h0)
      have Hv := Lib.hid hval
      have H := Lib.hid h
      clear hcell hv h hval
      go_enter Try.func27, Try.ntmps27
      go_wp2_with (fail)
      refine (validTree_any (l := l) _ hrd (by omega)).mono ?_
      rintro e w1 ⟨he, hb⟩
      rw [hvb] at he
      subst he
      clear hvb
      replace hrd := hrd.below hb (Nat.le_refl _)
      go_wp2_with (fail)
      refine (inRange_any _ _ _ _).mono ?_
      rintro e w2 ⟨he, rfl⟩
      rw [hin] at he
      subst he
      clear hin
      go_wp2_with (fail)
      refine (without_any (l := l) (i := i) Hv.out _ (by omega) (by omega) hrd).mono ?_
      rintro e w2 ⟨v2, rfl, ho, hx⟩
      go_wp2
      go_ret2
      exact ⟨_, by rw [H.out]; rfl, by rw [H.out, orNo_t, Int.toNat_natCast]; exact ho.weak hb.size, after hb hx (Nat.le_refl _)⟩
    · have hin' : inR i 1 ((l.length : Int) - 1) = false := by simpa using hin
      have H : Hid (remB l i = false) := by
        show _ = _
        unfold remB
        rw [hvb, hin']
        rfl
      clear hin
      go_enter Try.func27, Try.ntmps27
      go_wp2_with (fail)
      refine (validTree_any (l := l) _ hrd (by omega)).mono ?_
      rintro e w1 ⟨he, hb⟩
      rw [hvb] at he
      subst he
      go_wp2_with (fail)
      refine (inRange_any _ _ _ _).mono ?_
      rintro e w2 ⟨he, rfl⟩
      rw [hin'] at he
      subst he
      go_wp2
      go_ret2
      exact ⟨_, by rw [H.out]; rfl, by rw [H.out]; exact Own.nil _ _ _, hb⟩
  · have hvb' : vldB l = false := by simpa using hvb
    have H : Hid (remB l i = false) := by
      show _ = _
      unfold remB
      rw [hvb']
      rfl
    clear hvb
    go_enter Try.func27, Try.ntmps27
    go_wp2_with (fail)
    refine (validTree_any (l := l) _ hrd (by omega)).mono ?_
    rintro e w1 ⟨he, hb⟩
    rw [hvb'] at he
    subst he
    go_wp2
    go_ret2
    exact ⟨_, by rw [H.out]; rfl, by rw [H.out]; exact Own.nil _ _ _, hb⟩

set_option maxRecDepth 100000 in
set_option maxHeartbeats 2000000 in
theorem RemoveBox_any {v : Value} {l : List Bx} (i : Int) (w : World) (hv : Rd w 9 v (Bs l)) :
    Calls Try.prog 26 #[v, .int .i64 i] w fun e w' => ∃ v', e = .returned (.tuple #[v', .bool (remB l i)]) ∧ Own w' w.heap.size 9 v' (Bs (orNo (remB l i) (remL l i.toNat))) ∧ Ext w w' := by
  have hrd := hv
  obtain ⟨a, c, rfl, hn, hc, hcell⟩ := hv.boxes
  unfold maxLen at hc
  by_cases h : inB l i = true
  · obtain ⟨hval, h0, hi⟩ := inB_iff.1 h
    by_cases hz : i = 0
    · subst hz
      have H : Hid (remB l 0 = false) := by
        show _ = _
        rw [Bool.eq_false_iff]
        intro h
        have := (remB_iff.1 h).2.1
        omega
      clear hval hcell
      go_enter Try.func26, Try.ntmps26
      go_wp2_with (fail)
      refine (boxIn_any (l := l) 0 _ hrd).mono ?_
      rintro e w1 ⟨he, hb⟩
      rw [h] at he
      subst he
      clear h
      go_wp2
      go_ret2
      exact ⟨_, by rw [H.out]; rfl, by rw [H.out]; exact Own.nil _ _ _, hb⟩
    · have hi0 : 0 < i := by omega
      obtain ⟨i, rfl⟩ := Int.eq_ofNat_of_zero_le h0
      have hin : i < l.length := by omega
      have H : Hid (remB l (i : Int) = true) := remB_iff.2 ⟨hval, hi0, hi⟩
      have Hv := Lib.hid hval
      have hz' : ((i : Int) == 0) = false := by simp; omega
      have hcl := cntS_le l i
      have hpos := cntS_pos hval hin
      have hll := hval.hi
      obtain ⟨b, off, rfl, hbl, _⟩ := hcell i _ (bx_get hin)
      have hvr : vldB (remL l i) = true := vldB_iff.2 (rem_valid hval hin (by omega))
      have HVR := Lib.hid hvr
      clear hval hcell hz hvr
      go_enter Try.func26, Try.ntmps26
      go_wp2_with (fail)
      refine (boxIn_any (l := l) (i : Int) _ hrd).mono ?_
      rintro e w1 ⟨he, hb⟩
      rw [h] at he
      subst he
      clear h
      replace hrd := hrd.below hb (Nat.le_refl _)
      go_wp2_with (fail)
      refine (count_any (l := l) (a := (i : Int)) Hv.out _ (by omega) hi hrd).mono ?_
      rintro e w2 ⟨rfl, hx⟩
      rw [Int.toNat_natCast]
      replace hb := after hb hx (Nat.le_refl _)
      replace hrd := hrd.below hx (Nat.le_refl _)
      clear hx
      have hci : (i : Int) + (cntS l i : Nat) ≤ c := by omega
      have hcl2 : (i : Int) + (cntS l i : Nat) ≤ l.length := by omega
      have hic : (i : Int) ≤ c := by omega
      have hwr : IntKind.i64.wrap ((i : Int) + (cntS l i : Nat)) = (i : Int) + (cntS l i : Nat) := by rw [IntKind.wrap_i64]; omega
      have hwn : IntKind.i64.wrap (-((cntS l i : Nat) : Int)) = -((cntS l i : Nat) : Int) := by rw [IntKind.wrap_i64]; omega
      have hi00 : (0 : Int) ≤ (i : Int) := by omega
      have hic0 : (0 : Int) ≤ (i : Int) + (cntS l i : Nat) := by omega
      have htn : ((i : Int) + (cntS l i : Nat)).toNat = i + cntS l i := by omega
      go_upto_region 4 with fail
      refine wp_region_held_drew (S := fun w' => Below w2.heap.size w2 w') (by kernel_rfl) (Below.refl _ _).drew (fun hS => ?_)
      refine hTake (by kernel_rfl) (fun d _ _ _ _ h => by cases d <;> exact h) hS 0 (some 18) _ rfl (v := ?_) (by kernel_rfl) ?_ ?_
      rotate_left
      · intro _ _; go_simp; first | done | with_reducible rfl
      simp only [Act.put, List.setIfInBounds_toArray, List.set_cons_zero, List.set_cons_succ]
      refine hTake (by kernel_rfl) (fun d _ _ _ _ h => by cases d <;> exact h) hS 1 (some 19) _ rfl (v := ?_) (by kernel_rfl) ?_ ?_
      rotate_left
      · intro _ _; go_simp; first | done | with_reducible rfl
      simp only [Act.put, List.setIfInBounds_toArray, List.set_cons_zero, List.set_cons_succ]
      refine hTake (by kernel_rfl) (fun d _ _ _ _ h => by cases d <;> exact h) hS 2 (some 20) _ rfl (v := ?_) (by kernel_rfl) ?_ ?_
      rotate_left
      · intro _ _; go_simp; first | done | with_reducible rfl
      simp only [Act.put, List.setIfInBounds_toArray, List.set_cons_zero, List.set_cons_succ]
      refine hTake (by kernel_rfl) (fun d _ _ _ _ h => by cases d <;> exact h) hS 3 (some 21) _ rfl (v := ?_) (by kernel_rfl) ?_ ?_
      rotate_left
      · intro _ _; go_simp; first | done | with_reducible rfl
      simp only [Act.put, List.setIfInBounds_toArray, List.set_cons_zero, List.set_cons_succ]
      refine hTake (by kernel_rfl) (fun d _ _ _ _ h => by cases d <;> exact h) hS 4 (some 22) _ rfl (v := ?_) (by kernel_rfl) ?_ ?_
      rotate_left
      · intro _ _; go_simp; first | done | with_reducible rfl
      simp only [Act.put, List.setIfInBounds_toArray, List.set_cons_zero, List.set_cons_succ]
      refine hTake (by kernel_rfl) (fun d _ _ _ _ h => by cases d <;> exact h) hS 5 (some 23) _ rfl (v := ?_) (by kernel_rfl) ?_ ?_
      rotate_left
      · intro _ _; go_simp; first | done | with_reducible rfl
      simp only [Act.put, List.setIfInBounds_toArray, List.set_cons_zero, List.set_cons_succ]
      refine hTake (by kernel_rfl) (fun d _ _ _ _ h => by cases d <;> exact h) hS 6 (some 24) _ rfl (v := ?_) (by kernel_rfl) ?_ ?_
      rotate_left
      · intro _ _; go_simp; first | done | with_reducible rfl
      simp only [Act.put, List.setIfInBounds_toArray, List.set_cons_zero, List.set_cons_succ]
      refine hTake (by kernel_rfl) (fun d _ _ _ _ h => by cases d <;> exact h) hS 7 (some 25) _ rfl (v := ?_) (by kernel_rfl) ?_ ?_
      rotate_left
      · intro _ _; go_simp; first | done | with_reducible rfl
      simp only [Act.put, List.setIfInBounds_toArray, List.set_cons_zero, List.set_cons_succ]
      refine hTake (by kernel_rfl) (fun d _ _ _ _ h => by cases d <;> exact h) hS 8 (some 26) _ rfl (v := ?_) (by kernel_rfl) ?_ ?_
      rotate_left
      · intro _ _; go_simp; first | done | with_reducible rfl
      simp only [Act.put, List.setIfInBounds_toArray, List.set_cons_zero, List.set_cons_succ]
      refine hTake (by kernel_rfl) (fun d _ _ _ _ h => by cases d <;> exact h) hS 9 (some 27) _ rfl (v := ?_) (by kernel_rfl) ?_ ?_
      rotate_left
      · intro _ _; go_simp; first | done | with_reducible rfl
      simp only [Act.put, List.setIfInBounds_toArray, List.set_cons_zero, List.set_cons_succ]
      refine hTake (by kernel_rfl) (fun d _ _ _ _ h => by cases d <;> exact h) hS 10 (some 28) _ rfl (v := ?_) (by kernel_rfl) ?_ ?_
      rotate_left
      · intro _ _; go_simp; first | done | with_reducible rfl
      simp only [Act.put, List.setIfInBounds_toArray, List.set_cons_zero, List.set_cons_succ]
      have hdrop := hrd.dropIf (e := i + cntS l i) (by omega)
      have htake := hrd.take (m := i) (by omega)
      have HPB : Hid (∀ k, k < (l.drop (i + cntS l i)).length → -100 ≤ (bx (l.drop (i + cntS l i)) k).parent ∧ (bx (l.drop (i + cntS l i)) k).parent ≤ 100) := fun k hk => by
        rw [List.length_drop] at hk
        have := Hv.out.parLt (k := i + cntS l i + k) (by omega)
        have e : bx (l.drop (i + cntS l i)) k = bx l (i + cntS l i + k) := bx_of (by rw [List.getElem?_drop]; exact bx_get (by omega))
        rw [e]
        omega
      clear hwr hwn hic0 htn
      generalize (if c = i + cntS l i then some (⟨b, off, none⟩ : Addr) else some ⟨b, off + (i + cntS l i) * 9, none⟩) = av at *
      refine wpAnyH_ready (rs := [11]) (by kernel_rfl) (by simp) ?_
      refine AllReadyH.cons (o := _) rfl (fun K9 hK9 => ?_) AllReadyH.nil
      go_simp
      refine (renumbered_any (l := l.drop (i + cntS l i)) (i : Int) (-(cntS l i : Int)) _ (hdrop.below hS (Nat.le_refl _)) (by rw [List.length_drop]; omega) HPB.out (by omega) (by omega)).mono ?_
      rintro e w3 ⟨v3, rfl, ho3, hx3⟩
      rw [← drp_bmpI] at ho3
      obtain ⟨a3, c3, rfl, _, _, _⟩ := ho3.rd.boxes
      generalize ((l.drop (i + cntS l i)).map (drp i (cntS l i))).length = n3 at *
      try go_wp2_with fail
      refine hK9.out _ _ (after hS hx3 (Nat.le_refl _)) (fun hS => ?_)
      clear hK9 K9
      try simp only [Act.put, List.setIfInBounds_toArray, List.set_cons_zero, List.set_cons_succ]
      refine wpAnyH_ready (rs := [12]) (by kernel_rfl) (by simp) ?_
      refine AllReadyH.cons (o := _) rfl (fun K9 hK9 => ?_) AllReadyH.nil
      go_simp
      refine hK9.out _ _ (hS.alloc hS.size _) (fun hS => ?_)
      clear hK9 K9
      try simp only [Act.put, List.setIfInBounds_toArray, List.set_cons_zero, List.set_cons_succ]
      refine wpAnyH_ready (rs := [13]) (by kernel_rfl) (by simp) ?_
      refine AllReadyH.cons (o := _) rfl (fun K9 hK9 => ?_) AllReadyH.nil
      have hg0 : ∀ (j : Nat) (x : Value), [Value.slice (some ⟨b, off, none⟩) i c, .slice a3 n3 c3][j]? = some x → (w3.alloc (.cells #[.slice (some ⟨b, off, none⟩) i c, .slice a3 n3 c3] 24)).cell? ⟨w3.heap.size, j, none⟩ = some x := fun j x hj => by
        rw [cell_of_heap (heap_alloc_new w3 _)]
        simpa using hj
      have hg1 : ∀ (j : Nat) (x : Value) (m : List Bx), [Value.slice (some ⟨b, off, none⟩) i c, .slice a3 n3 c3][j]? = some x → [l.take i, (l.drop (i + cntS l i)).map (drp i (cntS l i))][j]? = some m → Rd (w3.alloc (.cells #[.slice (some ⟨b, off, none⟩) i c, .slice a3 n3 c3] 24)) 9 x (Bs m) := fun j x m hj hm => by
        match j, hj, hm with
        | 0, hj, hm => cases hj; cases hm; exact htake.below hS (Nat.le_refl _)
        | 1, hj, hm => cases hj; cases hm; exact (ho3.alloc _).rd
        | j + 2, hj, hm => cases hj
      go_simp
      refine (ConcatB_any (g := w3.heap.size) (vs := [Value.slice (some ⟨b, off, none⟩) i c, .slice a3 n3 c3]) (ls := [l.take i, (l.drop (i + cntS l i)).map (drp i (cntS l i))]) _ hg0 rfl rfl (by simp) hg1 ?htot).mono ?_
      case htot =>
        simp only [List.flatten_cons, List.flatten_nil, List.append_nil, List.length_append, List.length_map, List.length_take, List.length_drop]
        omega
      rintro e w4 ⟨v4, rfl, ho4, hx4⟩
      rw [List.flatten_cons, List.flatten_cons, List.flatten_nil, List.append_nil] at ho4
      change Own w4 _ 9 v4 (Bs (remL l i)) at ho4
      clear hg0 hg1
      try go_wp2_with fail
      refine hK9.out _ _ (after hS hx4 (Nat.le_refl _)) (fun hS => ?_)
      clear hK9 K9
      try simp only [Act.put, List.setIfInBounds_toArray, List.set_cons_zero, List.set_cons_succ]
      refine wpAnyH_ready (rs := [14]) (by kernel_rfl) (by simp) ?_
      refine AllReadyH.cons (o := _) rfl (fun K9 hK9 => ?_) AllReadyH.nil
      go_simp
      refine (made_any (l := remL l i) (base := w.heap.size) _ (ho4.weak (by have h1 := hb.size; have h2 : w2.heap.size ≤ w3.heap.size := hx3.size; simp; omega)) (by have := hb.size; have := hS.size; omega)).mono ?_
      rintro e w5 ⟨v5, he, ho5, hx5⟩
      rw [HVR.out] at he ho5
      subst he
      try go_wp2_with fail
      refine hK9.out _ _ (after hS hx5 (Nat.le_refl _)) (fun hS => ?_)
      clear hK9 K9
      try simp only [Act.put, List.setIfInBounds_toArray, List.set_cons_zero, List.set_cons_succ]
      refine hTake (by kernel_rfl) (fun d _ _ _ _ h => by cases d <;> exact h) hS 15 (some 33) _ rfl (v := ?_) (by kernel_rfl) ?_ ?_
      rotate_left
      · intro _ _; go_simp; first | done | with_reducible rfl
      simp only [Act.put, List.setIfInBounds_toArray, List.set_cons_zero, List.set_cons_succ]
      refine hTake (by kernel_rfl) (fun d _ _ _ _ h => by cases d <;> exact h) hS 16 (some 34) _ rfl (v := ?_) (by kernel_rfl) ?_ ?_
      rotate_left
      · intro _ _; go_simp; first | done | with_reducible rfl
      simp only [Act.put, List.setIfInBounds_toArray, List.set_cons_zero, List.set_cons_succ]
      refine wpAnyH_ready (rs := [17]) (by kernel_rfl) (by simp) ?_
      refine AllReadyH.cons (o := _) rfl (fun K9 hK9 => ?_) AllReadyH.nil
      go_simp
      refine hK9.out _ _ hS (fun hS => ?_)
      clear hK9 K9
      try simp only [Act.put, List.setIfInBounds_toArray, List.set_cons_zero, List.set_cons_succ]
      refine wpAnyH_ready (rs := [18]) (by kernel_rfl) (by simp) ?_
      refine AllReadyH.cons (o := _) rfl (fun K9 hK9 => ?_) AllReadyH.nil
      go_simp
      refine hK9.out _ _ hS (fun hS => ?_)
      clear hK9 K9
      try simp only [Act.put, List.setIfInBounds_toArray, List.set_cons_zero, List.set_cons_succ]
      refine wpAnyH_done (by kernel_rfl) ?_ _
      have HB : Hid (Below w.heap.size w w5) := after hb hS (Nat.le_refl _)
      have HO : Hid (Own w5 w.heap.size 9 v5 (Bs (remL l i))) := ho5
      clear ho3 ho4 ho5 hx3 hx4 hx5 hS hdrop htake hrd hv hb
      go_wp2
      go_ret2
      exact ⟨_, by rw [H.out]; rfl, by rw [H.out, orNo_t, Int.toNat_natCast]; exact HO.out, HB.out⟩
  · have h' : inB l i = false := by simpa using h
    have H : Hid (remB l i = false) := by
      show _ = _
      rw [Bool.eq_false_iff]
      intro h2
      obtain ⟨h3, h4, h5⟩ := remB_iff.1 h2
      exact h (inB_iff.2 ⟨h3, by omega, h5⟩)
    clear h
    go_enter Try.func26, Try.ntmps26
    go_wp2_with (fail)
    refine (boxIn_any (l := l) i _ hv).mono ?_
    rintro e w1 ⟨he, hb⟩
    rw [h'] at he
    subst he
    clear h'
    go_wp2
    go_ret2
    exact ⟨_, by rw [H.out]; rfl, by rw [H.out]; exact Own.nil _ _ _, hb⟩
end Go.Proofs.Ytckggmbmlpikhaa
