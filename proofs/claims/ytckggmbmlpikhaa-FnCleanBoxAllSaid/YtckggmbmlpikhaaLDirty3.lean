/-
  The laws FnDirtyBoxes, FnDirtyRoots, FnDirtyRootsOne: the walks.
-/
import Derived.Test.YtckggmbmlpikhaaLDirty2
namespace Go.Proofs.Ytckggmbmlpikhaa
open Go Go.RowKit

theorem drt_some {l : List Bx} {ms : List Int} (h : ¬ drtL l ms = []) : mkB l ms = true := by
  cases hm : mkB l ms with
  | true => rfl
  | false => exact absurd (by unfold drtL; rw [hm]; rfl) h
theorem drt_roots {l : List Bx} {ms : List Int} (h : mkB l ms = true) : drtL l ms = rootsL l ms := by
  unfold drtL
  rw [if_pos h]
theorem sumC_le (l : List Bx) : ∀ (r : List Nat), sumC l r ≤ l.length * r.length
  | [] => by simp [sumC]
  | x :: r => by
    have h := sumC_le l r
    have h2 : cnt l x ≤ l.length := by
      unfold cnt
      have := List.length_filter_le (fun i => arB l x i) (List.range l.length)
      rw [List.length_range] at this
      exact this
    rw [sumC_cons, List.length_cons, Nat.mul_succ]
    omega
theorem take_snoc {α : Type} {r : List α} {j : Nat} {x : α} (h : r[j]? = some x) : r.take (j + 1) = r.take j ++ [x] := by
  rw [List.take_add_one, h]
  rfl

/-- what every world of a drawn region keeps: old memory -/
def SB (w w' : World) : Prop := Below w.heap.size w w'
theorem SB.ext {w w1 w2 : World} (h : SB w w1) (hx : Ext w1 w2) : SB w w2 := after h hx (Nat.le_refl _)
theorem SB.alloc {w w1 : World} (h : SB w w1) (o : Obj) : SB w (w1.alloc o) := h.ext (Below.of_alloc _ _)
theorem rd_arr {w : World} {g : Nat} (l : List Int) (e : TypeId) (hg : g = w.heap.size) (hl : l.length ≤ maxLen) : Rd (w.alloc (.cells (Is l).toArray e)) 1 (.slice (some ⟨g, 0, none⟩) l.length l.length) (Is l) := by
  subst hg
  refine ⟨_, l.length, l.length, rfl, by rw [Is_length, Nat.mul_one], Nat.le_refl _, hl, .inr ⟨_, 0, rfl, fun j x hj => ?_⟩⟩
  rw [cell_of_heap (heap_alloc_new w _)]
  simpa using hj
theorem drt_mem {l : List Bx} {ms : List Int} (h : ¬ drtL l ms = []) : ∃ m, ms[0]? = some m := by
  obtain ⟨x, hx⟩ := List.exists_mem_of_ne_nil _ h
  rw [drt_roots (drt_some h)] at hx
  have := List.ne_nil_of_mem (mem_roots.1 hx).2.1
  cases ms with
  | nil => exact absurd rfl this
  | cons m r => exact ⟨m, rfl⟩

set_option maxRecDepth 100000 in
set_option maxHeartbeats 4000000 in
theorem FnDirtyBoxes_any {v : Value} (w : World) (hv : RdBytes w v) :
    Calls Try.prog 9 #[v] w fun e w' => e = .returned (.bool true) ∧ Ext w w' := by
  have hv2 := hv
  obtain ⟨ad, n, c, rfl, hn, hc, _⟩ := hv
  unfold maxLen at hc
  by_cases hlen : 1048576 < n
  · have hlen' : (1048576 : Int) < n := by omega
    go_enter Try.func9, Try.ntmps9
    go_wp2
    go_ret
    exact ⟨rfl, Below.refl _ _⟩
  · have hlen' : ¬ ((1048576 : Int) < n) := by omega
    go_enter Try.func9, Try.ntmps9
    go_wp2_with (fail)
    refine (DrawDirtyBoxes_any _ hv2).mono ?_
    rintro e w1 ⟨v1, u1, rfl, l, ms, hl, hms, ho1, hu1, hb⟩
    have hrT := ho1.rd
    have hrM := hu1.rd
    clear ho1 hu1 hv2
    go_wp2_with (fail)
    refine (DirtyBoxes_any (l := l) (ms := ms) _ hrT hrM).mono ?_
    rintro e w2 ⟨v2, rfl, ho2, hx⟩
    replace hb := after hb hx (Nat.le_refl _)
    replace hrT := hrT.below hx (Nat.le_refl _)
    replace hrM := hrM.below hx (Nat.le_refl _)
    have hrO := ho2.rd
    clear ho2 hx
    go_wp2_with (fail)
    refine (sDirtyBoxes_any (l := l) (ms := ms) _ hrT hrM (by omega)).mono ?_
    rintro e w3 ⟨v3, rfl, ho3, hx⟩
    replace hb := after hb hx (Nat.le_refl _)
    replace hrT := hrT.below hx (Nat.le_refl _)
    replace hrM := hrM.below hx (Nat.le_refl _)
    replace hrO := hrO.below hx (Nat.le_refl _)
    have hrW := ho3.rd
    clear ho3 hx
    obtain ⟨aO, cO, rfl, hnO, hcO⟩ := hrO.len
    have hcO' : cO ≤ maxLen := hcO
    unfold maxLen at hcO'
    obtain ⟨aM, cM, rfl, hnM, hcM⟩ := hrM.len
    have hcM' : cM ≤ maxLen := hcM
    unfold maxLen at hcM'
    clear hcO hcM
    go_wp2_with (fail)
    refine (equalInts_any _ hrO hrW).mono ?_
    rintro e w4 ⟨rfl, hx⟩
    rw [show decide (ni (dbxL l ms) = ni (dbxL l ms)) = true by simp]
    replace hb := after hb hx (Nat.le_refl _)
    replace hrT := hrT.below hx (Nat.le_refl _)
    replace hrM := hrM.below hx (Nat.le_refl _)
    replace hrO := hrO.below hx (Nat.le_refl _)
    clear hx hrW
    by_cases hz : dbxL l ms = []
    · have hz3 : (((ni (dbxL l ms)).length : Int) == 0) = true := by rw [hz]; rfl
      clear hz
      go_wp2_with (fail)
      refine (sDirtyBoxes_any (l := l) (ms := ms) _ hrT hrM (by omega)).mono ?_
      rintro e w6 ⟨v6, rfl, ho6, hx⟩
      replace hb := after hb hx (Nat.le_refl _)
      replace hrO := hrO.below hx (Nat.le_refl _)
      have hrW := ho6.rd
      clear ho6 hx
      go_wp2_with (fail)
      refine (equalInts_any _ hrO hrW).mono ?_
      rintro e w7 ⟨rfl, hx⟩
      rw [show decide (ni (dbxL l ms) = ni (dbxL l ms)) = true by simp]
      replace hb := after hb hx (Nat.le_refl _)
      go_wp2
      go_ret
      exact ⟨rfl, hb⟩
    · have hmk := dbx_some hz
      obtain ⟨hval, hm16, hin⟩ := mkB_iff.1 hmk
      have hpos : 0 < (ni (dbxL l ms)).length := by
        rw [ni_length]
        exact List.length_pos_iff.2 hz
      have hne : (((ni (dbxL l ms)).length : Int) == 0) = false := beq_eq_false_iff_ne.2 (by omega)
      have HV := Lib.hid hval
      obtain ⟨r, hr⟩ : ∃ r, rootsL l ms = r := ⟨_, rfl⟩
      have HDR : Hid (drtL l ms = r) := by
        show _ = _
        rw [drt_roots hmk, hr]
      have HRL : Hid (∀ x, x ∈ r → x < l.length) := fun x hx => by
        rw [← hr] at hx
        exact (mem_roots.1 hx).1
      have HSUM : Hid (sumC l r = (ni (dbxL l ms)).length) := by
        show _ = _
        rw [← hr, dirty_sum hval hin, ni_length]
        unfold dbxL
        rw [if_pos hmk]
      have HDB : Hid (dbxL l (ni r) = dbxL l ms) := by
        show _ = _
        unfold dbxL
        rw [if_pos hmk, if_pos (mkB_iff.2 ⟨hval, by rw [ni_length, ← hr]; exact roots_len hval, by rw [← hr]; exact roots_in⟩), ← hr, cov_roots hval hin]
      have hr16 : (ni r).length ≤ 16 := by rw [ni_length, ← hr]; exact roots_len hval
      have HSL := Lib.hid (fun j => sumC_le l (r.take j))
      have hll := hval.hi
      have HO16 : (ni (dbxL l ms)).length ≤ 16 := by
        rw [ni_length]
        unfold dbxL
        rw [if_pos hmk]
        exact Nat.le_trans cov_len hval.hi
      clear hz hmk hval hin hr
      go_wp2_with (fail)
      refine (DirtyRoots_any (l := l) (ms := ms) _ hrT hrM).mono ?_
      rintro e w6 ⟨v6, rfl, ho6, hx⟩
      rw [HDR.out] at ho6
      replace hb := after hb hx (Nat.le_refl _)
      replace hrT := hrT.below hx (Nat.le_refl _)
      replace hrO := hrO.below hx (Nat.le_refl _)
      have hrR := ho6.rd
      clear ho6 hx hrM
      obtain ⟨aR, cR, rfl, hnR, hcR⟩ := hrR.len
      have hcR' : cR ≤ maxLen := hcR
      unfold maxLen at hcR'
      have hnr := ni_length r
      have HNR := Lib.hid hnr
      have hnr1 : (ni r).length ≤ r.length := Nat.le_of_eq hnr
      have hnr2 : r.length ≤ (ni r).length := Nat.le_of_eq hnr.symm
      clear hnr hcR
      go_wp2
      go_loopw [7, 8] (fun s i wr => ∃ j : Nat, i = .int .i64 j ∧ j ≤ (ni r).length ∧ s = .int .i64 (sumC l (r.take j) : Nat) ∧ Rd wr 9 v1 (Bs l) ∧ Rd wr 1 (.slice aR (ni r).length cR) (Is (ni r)) ∧ Rd wr 1 (.slice aO (ni (dbxL l ms)).length cO) (Is (ni (dbxL l ms))) ∧ Below w.heap.size w wr) (fun _ i _ => (ni r).length - (intOf i).toNat)
      case atStart => exact ⟨0, rfl, Nat.zero_le _, by simp [sumC], hrT, hrR, hrO, hb⟩
      case round =>
        clear hrT hrR hrO hb
        obtain ⟨j, rfl, hj, rfl, hrT, hrR, hrO, hb⟩ := hrel
        have hsl := HSL.out j
        have hsl2 : sumC l (r.take j) ≤ 256 := by
          refine Nat.le_trans hsl (Nat.le_trans (Nat.mul_le_mul hll (Nat.le_trans (List.length_take_le _ _) (show j ≤ 16 by omega))) (by decide))
        clear hsl
        by_cases hlt : j < (ni r).length
        · have hlti : (j : Int) < (ni r).length := by omega
          obtain ⟨x, hx⟩ : ∃ x, r[j]? = some x := ⟨_, List.getElem?_eq_getElem (by omega)⟩
          have hxn : (ni r)[j]? = some (x : Int) := by
            unfold ni
            rw [List.getElem?_map, hx]
            rfl
          have hxl := HRL.out x (List.mem_of_getElem? hx)
          have hci : cntI l (x : Int) = (cnt l x : Nat) := by
            unfold cntI
            rw [if_pos (inB_iff.2 ⟨HV.out, by omega, by omega⟩), cnt_eq HV.out hxl, Int.toNat_natCast]
          have HCI := Lib.hid hci
          have HS : Hid (sumC l (r.take (j + 1)) = sumC l (r.take j) + cnt l x) := by
            show _ = _
            rw [take_snoc hx, sumC_snoc]
          have hcx : cnt l x ≤ 16 := by
            rw [cnt_eq HV.out hxl]
            have := cntS_le l x
            omega
          obtain ⟨aR', cR', eR, _, _, hcell⟩ := hrR.ints
          cases eR
          obtain ⟨bR, offR, rfl, hcc⟩ := hcell j _ hxn
          have ck := hcc j _ hxn
          clear hcell hcc hx hxn hci
          go_wp2_with (fail)
          refine (CountIn_any (l := l) (x : Int) _ hrT).mono ?_
          rintro e w7 ⟨rfl, hx⟩
          rw [HCI.out]
          replace hb := after hb hx (Nat.le_refl _)
          replace hrT := hrT.below hx (Nat.le_refl _)
          replace hrR := hrR.below hx (Nat.le_refl _)
          replace hrO := hrO.below hx (Nat.le_refl _)
          clear hx ck
          generalize cnt l x = C at *
          go_wp2
          go_roundw
          case rel => exact ⟨j + 1, by go_num, by omega, by rw [HS.out]; go_num, hrT, hrR, hrO, hb⟩
          case measure => simp [intOf]; omega
        · obtain rfl : j = (ni r).length := by omega
          have hfull : sumC l (r.take (ni r).length) = (ni (dbxL l ms)).length := by
            rw [List.take_of_length_le (by omega)]
            exact HSUM.out
          rw [hfull]
          clear hfull hsl2
          go_wp2_with (fail)
          refine (DirtyBoxes_any (l := l) (ms := ni r) _ hrT hrR).mono ?_
          rintro e w7 ⟨v7, rfl, ho7, hx⟩
          rw [HDB.out] at ho7
          replace hb := after hb hx (Nat.le_refl _)
          replace hrO := hrO.below hx (Nat.le_refl _)
          have hr7 := ho7.rd
          clear ho7 hx
          go_wp2_with (fail)
          refine (equalInts_any _ hr7 hrO).mono ?_
          rintro e w8 ⟨rfl, hx⟩
          rw [show decide (ni (dbxL l ms) = ni (dbxL l ms)) = true by simp]
          replace hb := after hb hx (Nat.le_refl _)
          go_wp2
          go_ret
          exact ⟨rfl, hb⟩
set_option maxRecDepth 100000 in
set_option maxHeartbeats 4000000 in
theorem FnDirtyRootsOne_any {v : Value} (w : World) (hv : RdBytes w v) :
    Calls Try.prog 6 #[v] w fun e w' => e = .returned (.bool true) ∧ Ext w w' := by
  have hv2 := hv
  obtain ⟨ad, n, c, rfl, hn, hc, _⟩ := hv
  unfold maxLen at hc
  by_cases hlen : 1048576 < n
  · have hlen' : (1048576 : Int) < n := by omega
    go_enter Try.func6, Try.ntmps6
    go_wp2
    go_ret
    exact ⟨rfl, Below.refl _ _⟩
  · have hlen' : ¬ ((1048576 : Int) < n) := by omega
    go_enter Try.func6, Try.ntmps6
    go_wp2_with (fail)
    refine (DrawDirtyRoots_any _ hv2).mono ?_
    rintro e w1 ⟨v1, u1, rfl, l, ms, hl, hms, ho1, hu1, hb⟩
    have hrT := ho1.rd
    have hrM := hu1.rd
    clear ho1 hu1 hv2
    go_wp2_with (fail)
    refine (DirtyRoots_any (l := l) (ms := ms) _ hrT hrM).mono ?_
    rintro e w2 ⟨v2, rfl, ho2, hx⟩
    replace hb := after hb hx (Nat.le_refl _)
    replace hrT := hrT.below hx (Nat.le_refl _)
    replace hrM := hrM.below hx (Nat.le_refl _)
    have hrO := ho2.rd
    clear ho2 hx
    go_wp2_with (fail)
    refine (sDirtyRoots_any (l := l) (ms := ms) _ hrT hrM (by omega)).mono ?_
    rintro e w3 ⟨v3, rfl, ho3, hx⟩
    replace hb := after hb hx (Nat.le_refl _)
    replace hrT := hrT.below hx (Nat.le_refl _)
    replace hrM := hrM.below hx (Nat.le_refl _)
    replace hrO := hrO.below hx (Nat.le_refl _)
    have hrW := ho3.rd
    clear ho3 hx
    obtain ⟨aO, cO, rfl, hnO, hcO⟩ := hrO.len
    have hcO' : cO ≤ maxLen := hcO
    unfold maxLen at hcO'
    obtain ⟨aM, cM, rfl, hnM, hcM⟩ := hrM.len
    have hcM' : cM ≤ maxLen := hcM
    unfold maxLen at hcM'
    clear hcO hcM
    go_wp2_with (fail)
    refine (equalInts_any _ hrO hrW).mono ?_
    rintro e w4 ⟨rfl, hx⟩
    rw [show decide (ni (drtL l ms) = ni (drtL l ms)) = true by simp]
    replace hb := after hb hx (Nat.le_refl _)
    replace hrT := hrT.below hx (Nat.le_refl _)
    replace hrM := hrM.below hx (Nat.le_refl _)
    replace hrO := hrO.below hx (Nat.le_refl _)
    clear hx hrW
    by_cases hz : drtL l ms = []
    · have hz3 : (((ni (drtL l ms)).length : Int) == 0) = true := by rw [hz]; rfl
      clear hz
      go_wp2_with (fail)
      refine (sDirtyRoots_any (l := l) (ms := ms) _ hrT hrM (by omega)).mono ?_
      rintro e w6 ⟨v6, rfl, ho6, hx⟩
      replace hb := after hb hx (Nat.le_refl _)
      replace hrO := hrO.below hx (Nat.le_refl _)
      have hrW := ho6.rd
      clear ho6 hx
      go_wp2_with (fail)
      refine (equalInts_any _ hrO hrW).mono ?_
      rintro e w7 ⟨rfl, hx⟩
      rw [show decide (ni (drtL l ms) = ni (drtL l ms)) = true by simp]
      replace hb := after hb hx (Nat.le_refl _)
      go_wp2
      go_ret
      exact ⟨rfl, hb⟩
    · have hmk := drt_some hz
      obtain ⟨hval, hm16, hin⟩ := mkB_iff.1 hmk
      have hpos : 0 < (ni (drtL l ms)).length := by
        rw [ni_length]
        exact List.length_pos_iff.2 hz
      have hne : (((ni (drtL l ms)).length : Int) == 0) = false := beq_eq_false_iff_ne.2 (by omega)
      obtain ⟨m0, hm0⟩ := drt_mem hz
      have hml : 0 < ms.length := (List.getElem?_eq_some_iff.1 hm0).1
      have hmli : (0 : Int) < ms.length := by omega
      obtain ⟨ha1, ha2⟩ := hin m0 (List.mem_of_getElem? hm0)
      obtain ⟨a, rfl⟩ := Int.eq_ofNat_of_zero_le ha1
      have hal : a < l.length := by omega
      have HV := Lib.hid hval
      have HPL : Hid (pathL l (a : Int) = (anc l a).reverse) := by
        show _ = _
        unfold pathL
        rw [if_pos (inB_iff.2 ⟨hval, by omega, by omega⟩), Int.toNat_natCast]
      have HR2 : Hid (∀ p, p ∈ anc l a → drtL l [(a : Int), (p : Int)] = [p]) := fun p hp => by
        have hpl := anc_le _ (hval.down hal) _ hp
        rw [drt_roots (mkB_iff.2 ⟨hval, by simp, fun m hm => by simp at hm; omega⟩), roots_one hval hal hp]
      have HR1 : Hid (drtL l [(a : Int)] = [a]) := by
        show _ = _
        rw [drt_roots (mkB_iff.2 ⟨hval, by simp, fun m hm => by simp at hm; omega⟩), roots_self hval hal]
      obtain ⟨aM', cM', eM, _, _, hcell⟩ := hrM.ints
      cases eM
      obtain ⟨bM, offM, rfl, hcc⟩ := hcell 0 _ hm0
      have cm := hcc 0 _ hm0
      simp only [Nat.add_zero] at cm
      clear hz hmk hval hin hcell hcc hm0 hrO
      go_wp2_with (fail)
      refine (PathTo_any (l := l) (a : Int) _ hrT).mono ?_
      rintro e w6 ⟨v6, rfl, ho6, hx⟩
      rw [HPL.out] at ho6
      replace hb := after hb hx (Nat.le_refl _)
      replace hrT := hrT.below hx (Nat.le_refl _)
      have hrK := ho6.rd
      clear ho6 hx cm
      obtain ⟨aK, cK, rfl, hnK, hcK⟩ := hrK.len
      have hcK' : cK ≤ maxLen := hcK
      unfold maxLen at hcK'
      clear hcK
      go_wp2
      go_loopw [8] (fun i wr => ∃ j : Nat, i = .int .i64 j ∧ j ≤ (ni (anc l a).reverse).length ∧ Rd wr 9 v1 (Bs l) ∧ Rd wr 1 (.slice aK (ni (anc l a).reverse).length cK) (Is (ni (anc l a).reverse)) ∧ Below w.heap.size w wr) (fun i _ => (ni (anc l a).reverse).length - (intOf i).toNat)
      case atStart => exact ⟨0, rfl, Nat.zero_le _, hrT, hrK, hb⟩
      case round =>
        clear hrT hrK hb
        obtain ⟨j, rfl, hj, hrT, hrK, hb⟩ := hrel
        by_cases hlt : j < (ni (anc l a).reverse).length
        · have hlti : (j : Int) < (ni (anc l a).reverse).length := by omega
          obtain ⟨y, hy⟩ : ∃ y, (ni (anc l a).reverse)[j]? = some y := ⟨_, List.getElem?_eq_getElem hlt⟩
          obtain ⟨p, hp, rfl⟩ := mem_ni.1 (List.mem_of_getElem? hy)
          rw [List.mem_reverse] at hp
          have HP := Lib.hid (HR2.out p hp)
          obtain ⟨aK', cK', eK, _, _, hcell⟩ := hrK.ints
          cases eK
          obtain ⟨bK, offK, rfl, hcc⟩ := hcell j _ hy
          have ck := hcc j _ hy
          clear hcell hcc hy hp
          go_upto_region 12 with fail
          refine wp_region_held_drew (S := SB wr) (by kernel_rfl) (Below.refl _ _).drew (fun hS => ?_)
          refine hTake (by kernel_rfl) (fun d _ _ _ _ h => by cases d <;> exact h) hS 0 (some 48) _ rfl (v := ?_) (by kernel_rfl) ?_ ?_
          rotate_left
          · intro _ _; go_simp; first | done | with_reducible rfl
          simp only [Act.put, List.setIfInBounds_toArray, List.set_cons_zero, List.set_cons_succ]
          refine hTake (by kernel_rfl) (fun d _ _ _ _ h => by cases d <;> exact h) hS 1 (some 49) _ rfl (v := ?_) (by kernel_rfl) ?_ ?_
          rotate_left
          · intro _ _; go_simp; first | done | with_reducible rfl
          simp only [Act.put, List.setIfInBounds_toArray, List.set_cons_zero, List.set_cons_succ]
          refine hTake (by kernel_rfl) (fun d _ _ _ _ h => by cases d <;> exact h) hS 2 (some 50) _ rfl (v := ?_) (by kernel_rfl) ?_ ?_
          rotate_left
          · intro _ _; go_simp; first | done | with_reducible rfl
          simp only [Act.put, List.setIfInBounds_toArray, List.set_cons_zero, List.set_cons_succ]
          refine hTake (by kernel_rfl) (fun d _ _ _ _ h => by cases d <;> exact h) hS 3 (some 51) _ rfl (v := ?_) (by kernel_rfl) ?_ ?_
          rotate_left
          · intro _ _; go_simp; first | done | with_reducible rfl
          simp only [Act.put, List.setIfInBounds_toArray, List.set_cons_zero, List.set_cons_succ]
          refine hTake (by kernel_rfl) (fun d _ _ _ _ h => by cases d <;> exact h) hS 4 (some 52) _ rfl (v := ?_) (by kernel_rfl) ?_ ?_
          rotate_left
          · intro _ _; go_simp; first | done | with_reducible rfl
          simp only [Act.put, List.setIfInBounds_toArray, List.set_cons_zero, List.set_cons_succ]
          refine hTake (by kernel_rfl) (fun d _ _ _ _ h => by cases d <;> exact h) hS 5 (some 53) _ rfl (v := ?_) (by kernel_rfl) ?_ ?_
          rotate_left
          · intro w9 hS9; have q := cell_below hS9 ck; go_simp; first | done | with_reducible rfl
          simp only [Act.put, List.setIfInBounds_toArray, List.set_cons_zero, List.set_cons_succ]
          refine hTake (by kernel_rfl) (fun d _ _ _ _ h => by cases d <;> exact h) hS 8 (some 56) _ rfl (v := ?_) (by kernel_rfl) ?_ ?_
          rotate_left
          · intro _ _; go_simp; first | done | with_reducible rfl
          simp only [Act.put, List.setIfInBounds_toArray, List.set_cons_zero, List.set_cons_succ]
          refine hTake (by kernel_rfl) (fun d _ _ _ _ h => by cases d <;> exact h) hS 9 (some 57) _ rfl (v := ?_) (by kernel_rfl) ?_ ?_
          rotate_left
          · intro _ _; go_simp; first | done | with_reducible rfl
          simp only [Act.put, List.setIfInBounds_toArray, List.set_cons_zero, List.set_cons_succ]
          refine hTake (by kernel_rfl) (fun d _ _ _ _ h => by cases d <;> exact h) hS 10 (some 58) _ rfl (v := ?_) (by kernel_rfl) ?_ ?_
          rotate_left
          · intro _ _; go_simp; first | done | with_reducible rfl
          simp only [Act.put, List.setIfInBounds_toArray, List.set_cons_zero, List.set_cons_succ]
          refine hTake (by kernel_rfl) (fun d _ _ _ _ h => by cases d <;> exact h) hS 11 (some 59) _ rfl (v := ?_) (by kernel_rfl) ?_ ?_
          rotate_left
          · intro w9 hS9; have q := cell_below hS9 ck; go_simp; first | done | with_reducible rfl
          simp only [Act.put, List.setIfInBounds_toArray, List.set_cons_zero, List.set_cons_succ]
          clear ck
          refine wpAnyH_ready (rs := [6, 12]) (by kernel_rfl) (by simp) ?_
          refine AllReadyH.cons (o := _) rfl (fun K9 hK9 => ?_) (AllReadyH.cons (o := _) rfl (fun K9 hK9 => ?_) AllReadyH.nil)
          ·
            have hr54 : Rd (wr.drew.alloc (.cells #[.int .i64 (a : Int), .int .i64 (p : Int)] 3)) 1 (.slice (some ⟨wr.heap.size, 0, none⟩) 2 2) (Is [(a : Int), (p : Int)]) := rd_arr [(a : Int), (p : Int)] 3 rfl (by simp [maxLen])
            go_simp
            refine hK9.out _ _ (hS.alloc _) (fun hS => ?_)
            clear hK9 K9
            try simp only [Act.put, List.setIfInBounds_toArray, List.set_cons_zero, List.set_cons_succ]
            change SB _ (wr.drew.alloc (.cells #[.int .i64 (a : Int), .int .i64 (p : Int)] 3)) at hS
            change wpAnyH _ _ _ _ _ _ _ _ (wr.drew.alloc (.cells #[.int .i64 (a : Int), .int .i64 (p : Int)] 3))
            generalize hg54 : wr.heap.size = g54 at hr54 ⊢
            clear hg54
            try replace hr60 := hr60.alloc (.cells #[.int .i64 (a : Int), .int .i64 (p : Int)] 3)
            generalize wr.drew.alloc (.cells #[.int .i64 (a : Int), .int .i64 (p : Int)] 3) = W6 at *
            refine wpAnyH_ready (rs := [7, 12]) (by kernel_rfl) (by simp) ?_
            refine AllReadyH.cons (o := _) rfl (fun K9 hK9 => ?_) (AllReadyH.cons (o := _) rfl (fun K9 hK9 => ?_) AllReadyH.nil)
            ·
              go_simp
              refine (DirtyRoots_any (l := l) (ms := [(a : Int), (p : Int)]) _ (hrT.below (show Below wr.heap.size wr _ from hS) (Nat.le_refl _)) hr54).mono ?_
              rintro e W7 ⟨v55, rfl, ho55, hx⟩
              rw [HP.out] at ho55
              have hr55 := ho55.rd
              try replace hr60 := hr60.below hx (Nat.le_refl _)
              try go_wp2_with fail
              refine hK9.out _ _ (hS.ext hx) (fun hS => ?_)
              clear hK9 K9
              try simp only [Act.put, List.setIfInBounds_toArray, List.set_cons_zero, List.set_cons_succ]
              clear hx ho55 hr54
              refine wpAnyH_ready (rs := [12]) (by kernel_rfl) (by simp) ?_
              refine AllReadyH.cons (o := _) rfl (fun K9 hK9 => ?_) AllReadyH.nil
              have hr60 : Rd (W7.alloc (.cells #[.int .i64 (p : Int)] 3)) 1 (.slice (some ⟨W7.heap.size, 0, none⟩) 1 1) (Is [(p : Int)]) := rd_arr [(p : Int)] 3 rfl (by simp [maxLen])
              go_simp
              refine hK9.out _ _ (hS.alloc _) (fun hS => ?_)
              clear hK9 K9
              try simp only [Act.put, List.setIfInBounds_toArray, List.set_cons_zero, List.set_cons_succ]
              change SB _ (W7.alloc (.cells #[.int .i64 (p : Int)] 3)) at hS
              change wpAnyH _ _ _ _ _ _ _ _ (W7.alloc (.cells #[.int .i64 (p : Int)] 3))
              generalize hg60 : W7.heap.size = g60 at hr60 ⊢
              clear hg60
              try replace hr54 := hr54.alloc (.cells #[.int .i64 (p : Int)] 3)
              try replace hr55 := hr55.alloc (.cells #[.int .i64 (p : Int)] 3)
              generalize W7.alloc (.cells #[.int .i64 (p : Int)] 3) = W8 at *
              refine wpAnyH_ready (rs := [13]) (by kernel_rfl) (by simp) ?_
              refine AllReadyH.cons (o := _) rfl (fun K9 hK9 => ?_) AllReadyH.nil
              go_simp
              refine (equalInts_any (m := [(p : Int)]) _ hr55 hr60).mono ?_
              rintro e W9 ⟨rfl, hx⟩
              rw [show decide (ni [p] = [(p : Int)]) = true by simp [ni]]
              try go_wp2_with fail
              refine hK9.out _ _ (hS.ext hx) (fun hS => ?_)
              clear hK9 K9
              try simp only [Act.put, List.setIfInBounds_toArray, List.set_cons_zero, List.set_cons_succ]
              clear hx hr55 hr60
              refine hTake (by kernel_rfl) (fun d _ _ _ _ h => by cases d <;> exact h) hS 14 (some 62) _ rfl (v := ?_) (by kernel_rfl) ?_ ?_
              rotate_left
              · intro _ _; go_simp; first | done | with_reducible rfl
              simp only [Act.put, List.setIfInBounds_toArray, List.set_cons_zero, List.set_cons_succ]
              refine wpAnyH_done (by kernel_rfl) ?_ _
              replace hrK := hrK.below (show Below wr.heap.size wr _ from hS) (Nat.le_refl _)
              replace hrT := hrT.below (show Below wr.heap.size wr _ from hS) (Nat.le_refl _)
              replace hb := after hb hS (Nat.le_refl _)
              clear hS
              go_wp2
              go_roundw
              case rel => exact ⟨j + 1, by go_num, by omega, hrT, hrK, hb⟩
              case measure => simp [intOf]; omega
            ·
              have hr60 : Rd (W6.alloc (.cells #[.int .i64 (p : Int)] 3)) 1 (.slice (some ⟨W6.heap.size, 0, none⟩) 1 1) (Is [(p : Int)]) := rd_arr [(p : Int)] 3 rfl (by simp [maxLen])
              go_simp
              refine hK9.out _ _ (hS.alloc _) (fun hS => ?_)
              clear hK9 K9
              try simp only [Act.put, List.setIfInBounds_toArray, List.set_cons_zero, List.set_cons_succ]
              change SB _ (W6.alloc (.cells #[.int .i64 (p : Int)] 3)) at hS
              change wpAnyH _ _ _ _ _ _ _ _ (W6.alloc (.cells #[.int .i64 (p : Int)] 3))
              generalize hg60 : W6.heap.size = g60 at hr60 ⊢
              clear hg60
              try replace hr54 := hr54.alloc (.cells #[.int .i64 (p : Int)] 3)
              try replace hr55 := hr55.alloc (.cells #[.int .i64 (p : Int)] 3)
              generalize W6.alloc (.cells #[.int .i64 (p : Int)] 3) = W8 at *
              refine wpAnyH_ready (rs := [7]) (by kernel_rfl) (by simp) ?_
              refine AllReadyH.cons (o := _) rfl (fun K9 hK9 => ?_) AllReadyH.nil
              go_simp
              refine (DirtyRoots_any (l := l) (ms := [(a : Int), (p : Int)]) _ (hrT.below (show Below wr.heap.size wr _ from hS) (Nat.le_refl _)) hr54).mono ?_
              rintro e W7 ⟨v55, rfl, ho55, hx⟩
              rw [HP.out] at ho55
              have hr55 := ho55.rd
              try replace hr60 := hr60.below hx (Nat.le_refl _)
              try go_wp2_with fail
              refine hK9.out _ _ (hS.ext hx) (fun hS => ?_)
              clear hK9 K9
              try simp only [Act.put, List.setIfInBounds_toArray, List.set_cons_zero, List.set_cons_succ]
              clear hx ho55 hr54
              refine wpAnyH_ready (rs := [13]) (by kernel_rfl) (by simp) ?_
              refine AllReadyH.cons (o := _) rfl (fun K9 hK9 => ?_) AllReadyH.nil
              go_simp
              refine (equalInts_any (m := [(p : Int)]) _ hr55 hr60).mono ?_
              rintro e W9 ⟨rfl, hx⟩
              rw [show decide (ni [p] = [(p : Int)]) = true by simp [ni]]
              try go_wp2_with fail
              refine hK9.out _ _ (hS.ext hx) (fun hS => ?_)
              clear hK9 K9
              try simp only [Act.put, List.setIfInBounds_toArray, List.set_cons_zero, List.set_cons_succ]
              clear hx hr55 hr60
              refine hTake (by kernel_rfl) (fun d _ _ _ _ h => by cases d <;> exact h) hS 14 (some 62) _ rfl (v := ?_) (by kernel_rfl) ?_ ?_
              rotate_left
              · intro _ _; go_simp; first | done | with_reducible rfl
              simp only [Act.put, List.setIfInBounds_toArray, List.set_cons_zero, List.set_cons_succ]
              refine wpAnyH_done (by kernel_rfl) ?_ _
              replace hrK := hrK.below (show Below wr.heap.size wr _ from hS) (Nat.le_refl _)
              replace hrT := hrT.below (show Below wr.heap.size wr _ from hS) (Nat.le_refl _)
              replace hb := after hb hS (Nat.le_refl _)
              clear hS
              go_wp2
              go_roundw
              case rel => exact ⟨j + 1, by go_num, by omega, hrT, hrK, hb⟩
              case measure => simp [intOf]; omega
          ·
            have hr60 : Rd (wr.drew.alloc (.cells #[.int .i64 (p : Int)] 3)) 1 (.slice (some ⟨wr.heap.size, 0, none⟩) 1 1) (Is [(p : Int)]) := rd_arr [(p : Int)] 3 rfl (by simp [maxLen])
            go_simp
            refine hK9.out _ _ (hS.alloc _) (fun hS => ?_)
            clear hK9 K9
            try simp only [Act.put, List.setIfInBounds_toArray, List.set_cons_zero, List.set_cons_succ]
            change SB _ (wr.drew.alloc (.cells #[.int .i64 (p : Int)] 3)) at hS
            change wpAnyH _ _ _ _ _ _ _ _ (wr.drew.alloc (.cells #[.int .i64 (p : Int)] 3))
            generalize hg60 : wr.heap.size = g60 at hr60 ⊢
            clear hg60
            try replace hr54 := hr54.alloc (.cells #[.int .i64 (p : Int)] 3)
            try replace hr55 := hr55.alloc (.cells #[.int .i64 (p : Int)] 3)
            generalize wr.drew.alloc (.cells #[.int .i64 (p : Int)] 3) = W8 at *
            refine wpAnyH_ready (rs := [6]) (by kernel_rfl) (by simp) ?_
            refine AllReadyH.cons (o := _) rfl (fun K9 hK9 => ?_) AllReadyH.nil
            have hr54 : Rd (W8.alloc (.cells #[.int .i64 (a : Int), .int .i64 (p : Int)] 3)) 1 (.slice (some ⟨W8.heap.size, 0, none⟩) 2 2) (Is [(a : Int), (p : Int)]) := rd_arr [(a : Int), (p : Int)] 3 rfl (by simp [maxLen])
            go_simp
            refine hK9.out _ _ (hS.alloc _) (fun hS => ?_)
            clear hK9 K9
            try simp only [Act.put, List.setIfInBounds_toArray, List.set_cons_zero, List.set_cons_succ]
            change SB _ (W8.alloc (.cells #[.int .i64 (a : Int), .int .i64 (p : Int)] 3)) at hS
            change wpAnyH _ _ _ _ _ _ _ _ (W8.alloc (.cells #[.int .i64 (a : Int), .int .i64 (p : Int)] 3))
            generalize hg54 : W8.heap.size = g54 at hr54 ⊢
            clear hg54
            try replace hr60 := hr60.alloc (.cells #[.int .i64 (a : Int), .int .i64 (p : Int)] 3)
            generalize W8.alloc (.cells #[.int .i64 (a : Int), .int .i64 (p : Int)] 3) = W6 at *
            refine wpAnyH_ready (rs := [7]) (by kernel_rfl) (by simp) ?_
            refine AllReadyH.cons (o := _) rfl (fun K9 hK9 => ?_) AllReadyH.nil
            go_simp
            refine (DirtyRoots_any (l := l) (ms := [(a : Int), (p : Int)]) _ (hrT.below (show Below wr.heap.size wr _ from hS) (Nat.le_refl _)) hr54).mono ?_
            rintro e W7 ⟨v55, rfl, ho55, hx⟩
            rw [HP.out] at ho55
            have hr55 := ho55.rd
            try replace hr60 := hr60.below hx (Nat.le_refl _)
            try go_wp2_with fail
            refine hK9.out _ _ (hS.ext hx) (fun hS => ?_)
            clear hK9 K9
            try simp only [Act.put, List.setIfInBounds_toArray, List.set_cons_zero, List.set_cons_succ]
            clear hx ho55 hr54
            refine wpAnyH_ready (rs := [13]) (by kernel_rfl) (by simp) ?_
            refine AllReadyH.cons (o := _) rfl (fun K9 hK9 => ?_) AllReadyH.nil
            go_simp
            refine (equalInts_any (m := [(p : Int)]) _ hr55 hr60).mono ?_
            rintro e W9 ⟨rfl, hx⟩
            rw [show decide (ni [p] = [(p : Int)]) = true by simp [ni]]
            try go_wp2_with fail
            refine hK9.out _ _ (hS.ext hx) (fun hS => ?_)
            clear hK9 K9
            try simp only [Act.put, List.setIfInBounds_toArray, List.set_cons_zero, List.set_cons_succ]
            clear hx hr55 hr60
            refine hTake (by kernel_rfl) (fun d _ _ _ _ h => by cases d <;> exact h) hS 14 (some 62) _ rfl (v := ?_) (by kernel_rfl) ?_ ?_
            rotate_left
            · intro _ _; go_simp; first | done | with_reducible rfl
            simp only [Act.put, List.setIfInBounds_toArray, List.set_cons_zero, List.set_cons_succ]
            refine wpAnyH_done (by kernel_rfl) ?_ _
            replace hrK := hrK.below (show Below wr.heap.size wr _ from hS) (Nat.le_refl _)
            replace hrT := hrT.below (show Below wr.heap.size wr _ from hS) (Nat.le_refl _)
            replace hb := after hb hS (Nat.le_refl _)
            clear hS
            go_wp2
            go_roundw
            case rel => exact ⟨j + 1, by go_num, by omega, hrT, hrK, hb⟩
            case measure => simp [intOf]; omega
        · obtain rfl : j = (ni (anc l a).reverse).length := by omega
          go_wp2_with (fail)
          refine (DirtyRoots_any (l := l) (ms := [(a : Int)]) _ (hrT.alloc _) (rd_one (a : Int) _ rfl)).mono ?_
          rintro e w7 ⟨v7, rfl, ho7, hx⟩
          rw [HR1.out] at ho7
          replace hb := after (hb.alloc hb.size _) hx (Nat.le_refl _)
          have hr7 := ho7.rd
          clear ho7 hx
          go_wp2_with (fail)
          refine (equalInts_any (m := [(a : Int)]) _ (hr7.alloc _) (rd_one (a : Int) _ rfl)).mono ?_
          rintro e w8 ⟨rfl, hx⟩
          rw [show decide (ni [a] = [(a : Int)]) = true by simp [ni]]
          replace hb := after (hb.alloc hb.size _) hx (Nat.le_refl _)
          go_wp2
          go_ret
          exact ⟨rfl, hb⟩
set_option maxRecDepth 100000 in
set_option maxHeartbeats 4000000 in
theorem FnDirtyRoots_any {v : Value} (w : World) (hv : RdBytes w v) :
    Calls Try.prog 7 #[v] w fun e w' => e = .returned (.bool true) ∧ Ext w w' := by
  have hv2 := hv
  obtain ⟨ad, n, c, rfl, hn, hc, _⟩ := hv
  unfold maxLen at hc
  by_cases hlen : 1048576 < n
  · have hlen' : (1048576 : Int) < n := by omega
    go_enter Try.func7, Try.ntmps7
    go_wp2
    go_ret
    exact ⟨rfl, Below.refl _ _⟩
  · have hlen' : ¬ ((1048576 : Int) < n) := by omega
    go_enter Try.func7, Try.ntmps7
    go_wp2_with (fail)
    refine (DrawDirtyRoots_any _ hv2).mono ?_
    rintro e w1 ⟨v1, u1, rfl, l, ms, hl, hms, ho1, hu1, hb⟩
    have hrT := ho1.rd
    have hrM := hu1.rd
    clear ho1 hu1 hv2
    go_wp2_with (fail)
    refine (DirtyRoots_any (l := l) (ms := ms) _ hrT hrM).mono ?_
    rintro e w2 ⟨v2, rfl, ho2, hx⟩
    replace hb := after hb hx (Nat.le_refl _)
    replace hrT := hrT.below hx (Nat.le_refl _)
    replace hrM := hrM.below hx (Nat.le_refl _)
    have hrO := ho2.rd
    clear ho2 hx
    go_wp2_with (fail)
    refine (sDirtyRoots_any (l := l) (ms := ms) _ hrT hrM (by omega)).mono ?_
    rintro e w3 ⟨v3, rfl, ho3, hx⟩
    replace hb := after hb hx (Nat.le_refl _)
    replace hrT := hrT.below hx (Nat.le_refl _)
    replace hrM := hrM.below hx (Nat.le_refl _)
    replace hrO := hrO.below hx (Nat.le_refl _)
    have hrW := ho3.rd
    clear ho3 hx
    obtain ⟨aO, cO, rfl, hnO, hcO⟩ := hrO.len
    have hcO' : cO ≤ maxLen := hcO
    unfold maxLen at hcO'
    obtain ⟨aM, cM, rfl, hnM, hcM⟩ := hrM.len
    have hcM' : cM ≤ maxLen := hcM
    unfold maxLen at hcM'
    clear hcO hcM
    go_wp2_with (fail)
    refine (equalInts_any _ hrO hrW).mono ?_
    rintro e w4 ⟨rfl, hx⟩
    rw [show decide (ni (drtL l ms) = ni (drtL l ms)) = true by simp]
    replace hb := after hb hx (Nat.le_refl _)
    replace hrT := hrT.below hx (Nat.le_refl _)
    replace hrM := hrM.below hx (Nat.le_refl _)
    replace hrO := hrO.below hx (Nat.le_refl _)
    clear hx hrW
    by_cases hz : drtL l ms = []
    · have hz3 : (((ni (drtL l ms)).length : Int) == 0) = true := by rw [hz]; rfl
      clear hz
      go_wp2_with (fail)
      refine (sDirtyRoots_any (l := l) (ms := ms) _ hrT hrM (by omega)).mono ?_
      rintro e w6 ⟨v6, rfl, ho6, hx⟩
      replace hb := after hb hx (Nat.le_refl _)
      replace hrO := hrO.below hx (Nat.le_refl _)
      have hrW := ho6.rd
      clear ho6 hx
      go_wp2_with (fail)
      refine (equalInts_any _ hrO hrW).mono ?_
      rintro e w7 ⟨rfl, hx⟩
      rw [show decide (ni (drtL l ms) = ni (drtL l ms)) = true by simp]
      replace hb := after hb hx (Nat.le_refl _)
      go_wp2
      go_ret
      exact ⟨rfl, hb⟩
    · have hmk := drt_some hz
      obtain ⟨hval, hm16, hin⟩ := mkB_iff.1 hmk
      have hpos : 0 < (ni (drtL l ms)).length := by
        rw [ni_length]
        exact List.length_pos_iff.2 hz
      have hne : (((ni (drtL l ms)).length : Int) == 0) = false := beq_eq_false_iff_ne.2 (by omega)
      have HV := Lib.hid hval
      have HIN := Lib.hid hin
      obtain ⟨r, hr⟩ : ∃ r, rootsL l ms = r := ⟨_, rfl⟩
      have hdr : drtL l ms = r := by rw [drt_roots hmk, hr]
      have HMEM : Hid (∀ x, x ∈ r → x < l.length ∧ (x : Int) ∈ ms) := fun x hx => by
        rw [← hr] at hx
        exact ⟨(mem_roots.1 hx).1, (mem_roots.1 hx).2.1⟩
      have HAP : Hid (∀ x y, x ∈ r → y ∈ r → ¬ x = y → isAr l (x : Int) (y : Int) = false) := fun x y hx hy hxy => by
        rw [← hr] at hx hy
        rw [Bool.eq_false_iff]
        intro h
        unfold isAr at h
        simp only [Bool.and_eq_true, Int.toNat_natCast] at h
        exact hxy (roots_apart hx hy (arB_anc.1 h.2.2))
      have HSRT : Hid (r.Pairwise (· < ·)) := by
        show List.Pairwise _ _
        rw [← hr]
        exact roots_sorted _ _
      have HCOV : Hid (∀ m, m ∈ ms → (ni r).any (fun x => isAr l x m) = true) := fun m hm => by
        obtain ⟨h0, h1⟩ := hin m hm
        obtain ⟨k, rfl⟩ := Int.eq_ofNat_of_zero_le h0
        obtain ⟨x, hx, ha⟩ := roots_cover hval hin k hm
        rw [List.any_eq_true]
        refine ⟨(x : Int), mem_ni.2 ⟨x, by rw [← hr]; exact hx, rfl⟩, ?_⟩
        have hxl := (mem_roots.1 hx).1
        unfold isAr
        simp only [Bool.and_eq_true, Int.toNat_natCast]
        exact ⟨inB_iff.2 ⟨hval, by omega, by omega⟩, inB_iff.2 ⟨hval, by omega, by omega⟩, arB_anc.2 ha⟩
      rw [hdr] at hnO hpos hne hrO
      rw [hdr]
      have HMEMR : Hid (∀ (j : Nat) (y : Int), (ni r)[j]? = some y → y ∈ ms) := fun j y hj => by
        obtain ⟨x, hx, rfl⟩ := mem_ni.1 (List.mem_of_getElem? hj)
        exact (HMEM.out x hx).2
      have HAPR : Hid (∀ (i j : Nat) (x y : Int), (ni r)[i]? = some x → (ni r)[j]? = some y → ¬ i = j → isAr l x y = false) := fun i j x y hi hj hij => by
        unfold ni at hi hj
        rw [List.getElem?_map] at hi hj
        obtain ⟨a, ha, rfl⟩ := Option.map_eq_some_iff.1 hi
        obtain ⟨b, hb', rfl⟩ := Option.map_eq_some_iff.1 hj
        have hp := List.pairwise_iff_getElem.1 HSRT.out
        obtain ⟨hil, rfl⟩ := List.getElem?_eq_some_iff.1 ha
        obtain ⟨hjl, rfl⟩ := List.getElem?_eq_some_iff.1 hb'
        refine HAP.out _ _ (List.getElem_mem hil) (List.getElem_mem hjl) (fun e => ?_)
        rcases Nat.lt_or_gt_of_ne hij with h | h
        · have := hp i j hil hjl h
          omega
        · have := hp j i hjl hil h
          omega
      have HCOVR := HCOV
      clear hz hmk hval hin hr hdr HMEM HAP HSRT HCOV
      generalize ni r = R at *
      have hrM' := hrM
      obtain ⟨aT, cT, rfl, hnT, hcT, _⟩ := hrT.boxes
      have hcT' : cT ≤ maxLen := hcT
      unfold maxLen at hcT'
      clear hcT hrM'
      go_wp2
      go_loopw [6] (fun i wr => ∃ j : Nat, i = .int .i64 j ∧ j ≤ R.length ∧ Rd wr 9 (.slice aT l.length cT) (Bs l) ∧ Rd wr 1 (.slice aM ms.length cM) (Is ms) ∧ Rd wr 1 (.slice aO R.length cO) (Is R) ∧ Below w.heap.size w wr) (fun i _ => R.length - (intOf i).toNat)
      case atStart => exact ⟨0, rfl, Nat.zero_le _, hrT, hrM, hrO, hb⟩
      case round =>
        clear hrT hrM hrO hb
        obtain ⟨j, rfl, hj, hrT, hrM, hrO, hb⟩ := hrel
        by_cases hlt : j < R.length
        · have hlti : (j : Int) < R.length := by omega
          obtain ⟨x, hx⟩ : ∃ x, R[j]? = some x := ⟨_, List.getElem?_eq_getElem hlt⟩
          have HX := Lib.hid hx
          have HIM : Hid (decide (x ∈ ms) = true) := by
            show _ = _
            simp [HMEMR.out j x hx]
          have hrO' := hrO
          obtain ⟨aO', cO', eO, _, _, hcell⟩ := hrO'.ints
          cases eO
          obtain ⟨bO, offO, rfl, hcc⟩ := hcell j _ hx
          have ck := hcc j _ hx
          clear hcell hcc hx hrO'
          go_wp2_with (fail)
          refine (isIn_any (l := ms) x _ hrM).mono ?_
          rintro e w7 ⟨rfl, rfl⟩
          rw [HIM.out]
          clear ck
          go_wp2
          go_loopw [7] (fun i wr => ∃ q : Nat, i = .int .i64 q ∧ q ≤ R.length ∧ Rd wr 9 (.slice aT l.length cT) (Bs l) ∧ Rd wr 1 (.slice aM ms.length cM) (Is ms) ∧ Rd wr 1 (.slice (some ⟨bO, offO, none⟩) R.length cO) (Is R) ∧ Below w.heap.size w wr) (fun i _ => R.length - (intOf i).toNat)
          case atStart => exact ⟨0, rfl, Nat.zero_le _, hrT, hrM, hrO, hb⟩
          case round =>
            clear hrT hrM hrO hb
            obtain ⟨q, rfl, hq, hrT, hrM, hrO, hb⟩ := hrel
            by_cases hqt : q < R.length
            · have hqti : (q : Int) < R.length := by omega
              have hj0 : (0 : Int) ≤ (j : Int) := by omega
              have hq0 : (0 : Int) ≤ (q : Int) := by omega
              obtain ⟨y, hy⟩ : ∃ y, R[q]? = some y := ⟨_, List.getElem?_eq_getElem hqt⟩
              obtain ⟨aO', cO', eO, _, _, hcell⟩ := hrO.ints
              cases eO
              obtain ⟨b', off', e', hcc⟩ := hcell j _ HX.out
              cases e'
              have ck := hcc j _ HX.out
              have ck2 := hcc q _ hy
              clear hcell hcc
              by_cases hjq : j = q
              · have n1 : ((j : Int) != (q : Int)) = false := by simp [hjq]
                have n2 : (j != q) = false := by simp [hjq]
                have n3 : (j == q) = true := by simp [hjq]
                have n4 : ((j : Int) == (q : Int)) = true := by simp [hjq]
                have n5 : decide (j = q) = true := by simp [hjq]
                clear hjq hy
                go_upto_region 15 with fail
                refine wp_region_held_drew (S := SB wr) (by kernel_rfl) (Below.refl _ _).drew (fun hS => ?_)
                refine hTake (by kernel_rfl) (fun d _ _ _ _ h => by cases d <;> exact h) hS 0 (some 57) _ rfl (v := ?_) (by kernel_rfl) ?_ ?_
                rotate_left
                · intro _ _; go_simp; first | done | with_reducible rfl
                simp only [Act.put, List.setIfInBounds_toArray, List.set_cons_zero, List.set_cons_succ]
                refine hTake (by kernel_rfl) (fun d _ _ _ _ h => by cases d <;> exact h) hS 1 (some 58) _ rfl (v := ?_) (by kernel_rfl) ?_ ?_
                rotate_left
                · intro _ _; go_simp; first | done | with_reducible rfl
                simp only [Act.put, List.setIfInBounds_toArray, List.set_cons_zero, List.set_cons_succ]
                refine hTake (by kernel_rfl) (fun d _ _ _ _ h => by cases d <;> exact h) hS 2 (some 59) _ rfl (v := ?_) (by kernel_rfl) ?_ ?_
                rotate_left
                · intro _ _; go_simp; first | done | with_reducible rfl
                simp only [Act.put, List.setIfInBounds_toArray, List.set_cons_zero, List.set_cons_succ]
                refine hTake (by kernel_rfl) (fun d _ _ _ _ h => by cases d <;> exact h) hS 3 (some 60) _ rfl (v := ?_) (by kernel_rfl) ?_ ?_
                rotate_left
                · intro _ _; go_simp; first | done | with_reducible rfl
                simp only [Act.put, List.setIfInBounds_toArray, List.set_cons_zero, List.set_cons_succ]
                refine hSkips (by kernel_rfl) (fun d _ _ _ _ h => by cases d <;> exact h) hS [4, 5, 6, 7, 8, 9, 10, 11, 12, 13] [some 61, some 62, some 63, some 64, some 65, some 66, some 67, some 68, some 69, some 70] (by kernel_rfl) ?_
                simp only [putUndef, listAll, List.foldl_cons, List.foldl_nil, Act.put, List.setIfInBounds_toArray, List.set_cons_zero, List.set_cons_succ]
                refine hTake (by kernel_rfl) (fun d _ _ _ _ h => by cases d <;> exact h) hS 14 (some 71) _ rfl (v := ?_) (by kernel_rfl) ?_ ?_
                rotate_left
                · intro _ _; go_simp; first | done | with_reducible rfl
                simp only [Act.put, List.setIfInBounds_toArray, List.set_cons_zero, List.set_cons_succ]
                refine wpAnyH_done (by kernel_rfl) ?_ _
                clear hS ck ck2
                go_wp2
                go_roundw
                case rel => exact ⟨q + 1, by go_num, by omega, hrT, hrM, hrO, hb.drew⟩
                case measure => simp [intOf]; omega
              · have HF := Lib.hid (HAPR.out j q x y HX.out hy hjq)
                have n1 : ((j : Int) != (q : Int)) = true := by rw [bne_iff_ne]; omega
                have n2 : (j != q) = true := by simp [hjq]
                have n3 : (j == q) = false := by simp [hjq]
                have n4 : ((j : Int) == (q : Int)) = false := beq_eq_false_iff_ne.2 (by omega)
                have n5 : decide (j = q) = false := by simp [hjq]
                clear hjq hy
                go_upto_region 15 with fail
                refine wp_region_held_drew (S := SB wr) (by kernel_rfl) (Below.refl _ _).drew (fun hS => ?_)
                refine hTake (by kernel_rfl) (fun d _ _ _ _ h => by cases d <;> exact h) hS 0 (some 57) _ rfl (v := ?_) (by kernel_rfl) ?_ ?_
                rotate_left
                · intro _ _; go_simp; first | done | with_reducible rfl
                simp only [Act.put, List.setIfInBounds_toArray, List.set_cons_zero, List.set_cons_succ]
                refine hTake (by kernel_rfl) (fun d _ _ _ _ h => by cases d <;> exact h) hS 1 (some 58) _ rfl (v := ?_) (by kernel_rfl) ?_ ?_
                rotate_left
                · intro _ _; go_simp; first | done | with_reducible rfl
                simp only [Act.put, List.setIfInBounds_toArray, List.set_cons_zero, List.set_cons_succ]
                refine hTake (by kernel_rfl) (fun d _ _ _ _ h => by cases d <;> exact h) hS 2 (some 59) _ rfl (v := ?_) (by kernel_rfl) ?_ ?_
                rotate_left
                · intro _ _; go_simp; first | done | with_reducible rfl
                simp only [Act.put, List.setIfInBounds_toArray, List.set_cons_zero, List.set_cons_succ]
                refine hTake (by kernel_rfl) (fun d _ _ _ _ h => by cases d <;> exact h) hS 3 (some 60) _ rfl (v := ?_) (by kernel_rfl) ?_ ?_
                rotate_left
                · intro _ _; go_simp; first | done | with_reducible rfl
                simp only [Act.put, List.setIfInBounds_toArray, List.set_cons_zero, List.set_cons_succ]
                refine hTake (by kernel_rfl) (fun d _ _ _ _ h => by cases d <;> exact h) hS 4 (some 61) _ rfl (v := ?_) (by kernel_rfl) ?_ ?_
                rotate_left
                · intro _ _; go_simp; first | done | with_reducible rfl
                simp only [Act.put, List.setIfInBounds_toArray, List.set_cons_zero, List.set_cons_succ]
                refine hTake (by kernel_rfl) (fun d _ _ _ _ h => by cases d <;> exact h) hS 5 (some 62) _ rfl (v := ?_) (by kernel_rfl) ?_ ?_
                rotate_left
                · intro _ _; go_simp; first | done | with_reducible rfl
                simp only [Act.put, List.setIfInBounds_toArray, List.set_cons_zero, List.set_cons_succ]
                refine hTake (by kernel_rfl) (fun d _ _ _ _ h => by cases d <;> exact h) hS 6 (some 63) _ rfl (v := ?_) (by kernel_rfl) ?_ ?_
                rotate_left
                · intro _ _; go_simp; first | done | with_reducible rfl
                simp only [Act.put, List.setIfInBounds_toArray, List.set_cons_zero, List.set_cons_succ]
                refine hTake (by kernel_rfl) (fun d _ _ _ _ h => by cases d <;> exact h) hS 7 (some 64) _ rfl (v := ?_) (by kernel_rfl) ?_ ?_
                rotate_left
                · intro _ _; go_simp; first | done | with_reducible rfl
                simp only [Act.put, List.setIfInBounds_toArray, List.set_cons_zero, List.set_cons_succ]
                refine hTake (by kernel_rfl) (fun d _ _ _ _ h => by cases d <;> exact h) hS 8 (some 65) _ rfl (v := ?_) (by kernel_rfl) ?_ ?_
                rotate_left
                · intro w9 hS9; have q := cell_below hS9 ck; go_simp; first | done | with_reducible rfl
                simp only [Act.put, List.setIfInBounds_toArray, List.set_cons_zero, List.set_cons_succ]
                refine hTake (by kernel_rfl) (fun d _ _ _ _ h => by cases d <;> exact h) hS 9 (some 66) _ rfl (v := ?_) (by kernel_rfl) ?_ ?_
                rotate_left
                · intro _ _; go_simp; first | done | with_reducible rfl
                simp only [Act.put, List.setIfInBounds_toArray, List.set_cons_zero, List.set_cons_succ]
                refine hTake (by kernel_rfl) (fun d _ _ _ _ h => by cases d <;> exact h) hS 10 (some 67) _ rfl (v := ?_) (by kernel_rfl) ?_ ?_
                rotate_left
                · intro _ _; go_simp; first | done | with_reducible rfl
                simp only [Act.put, List.setIfInBounds_toArray, List.set_cons_zero, List.set_cons_succ]
                refine hTake (by kernel_rfl) (fun d _ _ _ _ h => by cases d <;> exact h) hS 11 (some 68) _ rfl (v := ?_) (by kernel_rfl) ?_ ?_
                rotate_left
                · intro _ _; go_simp; first | done | with_reducible rfl
                simp only [Act.put, List.setIfInBounds_toArray, List.set_cons_zero, List.set_cons_succ]
                refine hTake (by kernel_rfl) (fun d _ _ _ _ h => by cases d <;> exact h) hS 12 (some 69) _ rfl (v := ?_) (by kernel_rfl) ?_ ?_
                rotate_left
                · intro w9 hS9; have q := cell_below hS9 ck2; go_simp; first | done | with_reducible rfl
                simp only [Act.put, List.setIfInBounds_toArray, List.set_cons_zero, List.set_cons_succ]
                refine wpAnyH_ready (rs := [13]) (by kernel_rfl) (by simp) ?_
                refine AllReadyH.cons (o := _) rfl (fun K9 hK9 => ?_) AllReadyH.nil
                go_simp
                refine (IsAround_any (l := l) x y _ (hrT.below (show Below wr.heap.size wr _ from hS) (Nat.le_refl _))).mono ?_
                rintro e w8 ⟨he, hx⟩
                rw [HF.out] at he
                subst he
                try go_wp2_with fail
                refine hK9.out _ _ (hS.ext hx) (fun hS => ?_)
                clear hK9 K9
                try simp only [Act.put, List.setIfInBounds_toArray, List.set_cons_zero, List.set_cons_succ]
                clear hx
                refine hTake (by kernel_rfl) (fun d _ _ _ _ h => by cases d <;> exact h) hS 14 (some 71) _ rfl (v := ?_) (by kernel_rfl) ?_ ?_
                rotate_left
                · intro _ _; go_simp; first | done | with_reducible rfl
                simp only [Act.put, List.setIfInBounds_toArray, List.set_cons_zero, List.set_cons_succ]
                refine wpAnyH_done (by kernel_rfl) ?_ _
                replace hrT := hrT.below (show Below wr.heap.size wr _ from hS) (Nat.le_refl _)
                replace hrM := hrM.below (show Below wr.heap.size wr _ from hS) (Nat.le_refl _)
                replace hrO := hrO.below (show Below wr.heap.size wr _ from hS) (Nat.le_refl _)
                replace hb := after hb hS (Nat.le_refl _)
                clear hS ck ck2
                go_wp2
                go_roundw
                case rel => exact ⟨q + 1, by go_num, by omega, hrT, hrM, hrO, hb⟩
                case measure => simp [intOf]; omega
            · obtain rfl : q = R.length := by omega
              go_wp2
              go_roundw
              case rel => exact ⟨j + 1, by go_num, by omega, hrT, hrM, hrO, hb⟩
              case measure => simp [intOf]; omega
        · obtain rfl : j = R.length := by omega
          go_wp2
          go_loopw [8] (fun i wr => ∃ j : Nat, i = .int .i64 j ∧ j ≤ ms.length ∧ Rd wr 9 (.slice aT l.length cT) (Bs l) ∧ Rd wr 1 (.slice aM ms.length cM) (Is ms) ∧ Rd wr 1 (.slice aO R.length cO) (Is R) ∧ Below w.heap.size w wr) (fun i _ => ms.length - (intOf i).toNat)
          case atStart => exact ⟨0, rfl, Nat.zero_le _, hrT, hrM, hrO, hb⟩
          case round =>
            clear hrT hrM hrO hb
            obtain ⟨j, rfl, hj, hrT, hrM, hrO, hb⟩ := hrel
            by_cases hlt2 : j < ms.length
            · have hlti : (j : Int) < ms.length := by omega
              have hj0 : (0 : Int) ≤ (j : Int) := by omega
              obtain ⟨m, hm⟩ : ∃ m, ms[j]? = some m := ⟨_, List.getElem?_eq_getElem hlt2⟩
              have HMJ := Lib.hid hm
              have HCV := Lib.hid (HCOVR.out m (List.mem_of_getElem? hm))
              clear hm
              go_wp2
              go_loopw [9, 10] (fun t i wr => ∃ (q : Nat) (T : Bool), i = .int .i64 q ∧ q ≤ R.length ∧ t = .bool T ∧ T = ((R.take q).any fun x => isAr l x m) ∧ Rd wr 9 (.slice aT l.length cT) (Bs l) ∧ Rd wr 1 (.slice aM ms.length cM) (Is ms) ∧ Rd wr 1 (.slice aO R.length cO) (Is R) ∧ Below w.heap.size w wr) (fun _ i _ => R.length - (intOf i).toNat)
              case atStart => exact ⟨0, false, rfl, Nat.zero_le _, rfl, by simp, hrT, hrM, hrO, hb⟩
              case round =>
                clear hrT hrM hrO hb
                obtain ⟨q, T, rfl, hq, rfl, hT, hrT, hrM, hrO, hb⟩ := hrel
                have HT := Lib.hid hT
                clear hT
                by_cases hqt : q < R.length
                · have hqti : (q : Int) < R.length := by omega
                  have hq0 : (0 : Int) ≤ (q : Int) := by omega
                  obtain ⟨y, hy⟩ : ∃ y, R[q]? = some y := ⟨_, List.getElem?_eq_getElem hqt⟩
                  have HS := Lib.hid (any_take_step (P := fun x => isAr l x m) hy)
                  cases T with
                  | true =>
                    clear hy
                    go_upto_region 24 with fail
                    refine wp_region_held_drew (S := SB wr) (by kernel_rfl) (Below.refl _ _).drew (fun hS => ?_)
                    refine hTake (by kernel_rfl) (fun d _ _ _ _ h => by cases d <;> exact h) hS 0 (some 84) _ rfl (v := ?_) (by kernel_rfl) ?_ ?_
                    rotate_left
                    · intro _ _; go_simp; first | done | with_reducible rfl
                    simp only [Act.put, List.setIfInBounds_toArray, List.set_cons_zero, List.set_cons_succ]
                    refine hTake (by kernel_rfl) (fun d _ _ _ _ h => by cases d <;> exact h) hS 1 (some 85) _ rfl (v := ?_) (by kernel_rfl) ?_ ?_
                    rotate_left
                    · intro _ _; go_simp; first | done | with_reducible rfl
                    simp only [Act.put, List.setIfInBounds_toArray, List.set_cons_zero, List.set_cons_succ]
                    refine hSkips (by kernel_rfl) (fun d _ _ _ _ h => by cases d <;> exact h) hS [2, 3, 4, 5, 6, 7, 8, 9, 10, 11] [some 86, some 87, some 88, some 89, some 90, some 91, some 92, some 93, some 94, some 95] (by kernel_rfl) ?_
                    simp only [putUndef, listAll, List.foldl_cons, List.foldl_nil, Act.put, List.setIfInBounds_toArray, List.set_cons_zero, List.set_cons_succ]
                    refine hTake (by kernel_rfl) (fun d _ _ _ _ h => by cases d <;> exact h) hS 12 (some 96) _ rfl (v := ?_) (by kernel_rfl) ?_ ?_
                    rotate_left
                    · intro _ _; go_simp; first | done | with_reducible rfl
                    simp only [Act.put, List.setIfInBounds_toArray, List.set_cons_zero, List.set_cons_succ]
                    refine wpAnyH_ready (rs := [13]) (by kernel_rfl) (by simp) ?_
                    refine AllReadyH.cons (o := _) rfl (fun K9 hK9 => ?_) AllReadyH.nil
                    go_simp
                    refine hK9.out _ _ hS (fun hS => ?_)
                    clear hK9 K9
                    try simp only [Act.put, List.setIfInBounds_toArray, List.set_cons_zero, List.set_cons_succ]
                    refine wpAnyH_done (by kernel_rfl) ?_ _
                    clear hS
                    go_wp2
                    go_roundw
                    case rel => exact ⟨q + 1, true, by go_num, by omega, rfl, by rw [HS.out, ← HT.out]; rfl, hrT, hrM, hrO, hb.drew⟩
                    case measure => simp [intOf]; omega
                  | false =>
                    obtain ⟨aO', cO', eO, _, _, hcell⟩ := hrO.ints
                    cases eO
                    obtain ⟨bO, offO, rfl, hcc⟩ := hcell q _ hy
                    have ck := hcc q _ hy
                    obtain ⟨aM', cM', eM, _, _, hcell2⟩ := hrM.ints
                    cases eM
                    obtain ⟨bM, offM, rfl, hcc2⟩ := hcell2 j _ HMJ.out
                    have ck2 := hcc2 j _ HMJ.out
                    clear hcell hcc hcell2 hcc2 hy
                    go_upto_region 24 with fail
                    refine wp_region_held_drew (S := SB wr) (by kernel_rfl) (Below.refl _ _).drew (fun hS => ?_)
                    refine hTake (by kernel_rfl) (fun d _ _ _ _ h => by cases d <;> exact h) hS 0 (some 84) _ rfl (v := ?_) (by kernel_rfl) ?_ ?_
                    rotate_left
                    · intro _ _; go_simp; first | done | with_reducible rfl
                    simp only [Act.put, List.setIfInBounds_toArray, List.set_cons_zero, List.set_cons_succ]
                    refine hTake (by kernel_rfl) (fun d _ _ _ _ h => by cases d <;> exact h) hS 1 (some 85) _ rfl (v := ?_) (by kernel_rfl) ?_ ?_
                    rotate_left
                    · intro _ _; go_simp; first | done | with_reducible rfl
                    simp only [Act.put, List.setIfInBounds_toArray, List.set_cons_zero, List.set_cons_succ]
                    refine hTake (by kernel_rfl) (fun d _ _ _ _ h => by cases d <;> exact h) hS 2 (some 86) _ rfl (v := ?_) (by kernel_rfl) ?_ ?_
                    rotate_left
                    · intro _ _; go_simp; first | done | with_reducible rfl
                    simp only [Act.put, List.setIfInBounds_toArray, List.set_cons_zero, List.set_cons_succ]
                    refine hTake (by kernel_rfl) (fun d _ _ _ _ h => by cases d <;> exact h) hS 3 (some 87) _ rfl (v := ?_) (by kernel_rfl) ?_ ?_
                    rotate_left
                    · intro _ _; go_simp; first | done | with_reducible rfl
                    simp only [Act.put, List.setIfInBounds_toArray, List.set_cons_zero, List.set_cons_succ]
                    refine hTake (by kernel_rfl) (fun d _ _ _ _ h => by cases d <;> exact h) hS 4 (some 88) _ rfl (v := ?_) (by kernel_rfl) ?_ ?_
                    rotate_left
                    · intro _ _; go_simp; first | done | with_reducible rfl
                    simp only [Act.put, List.setIfInBounds_toArray, List.set_cons_zero, List.set_cons_succ]
                    refine hTake (by kernel_rfl) (fun d _ _ _ _ h => by cases d <;> exact h) hS 5 (some 89) _ rfl (v := ?_) (by kernel_rfl) ?_ ?_
                    rotate_left
                    · intro _ _; go_simp; first | done | with_reducible rfl
                    simp only [Act.put, List.setIfInBounds_toArray, List.set_cons_zero, List.set_cons_succ]
                    refine hTake (by kernel_rfl) (fun d _ _ _ _ h => by cases d <;> exact h) hS 6 (some 90) _ rfl (v := ?_) (by kernel_rfl) ?_ ?_
                    rotate_left
                    · intro w9 hS9; have q := cell_below hS9 ck; go_simp; first | done | with_reducible rfl
                    simp only [Act.put, List.setIfInBounds_toArray, List.set_cons_zero, List.set_cons_succ]
                    refine hTake (by kernel_rfl) (fun d _ _ _ _ h => by cases d <;> exact h) hS 7 (some 91) _ rfl (v := ?_) (by kernel_rfl) ?_ ?_
                    rotate_left
                    · intro _ _; go_simp; first | done | with_reducible rfl
                    simp only [Act.put, List.setIfInBounds_toArray, List.set_cons_zero, List.set_cons_succ]
                    refine hTake (by kernel_rfl) (fun d _ _ _ _ h => by cases d <;> exact h) hS 8 (some 92) _ rfl (v := ?_) (by kernel_rfl) ?_ ?_
                    rotate_left
                    · intro _ _; go_simp; first | done | with_reducible rfl
                    simp only [Act.put, List.setIfInBounds_toArray, List.set_cons_zero, List.set_cons_succ]
                    refine hTake (by kernel_rfl) (fun d _ _ _ _ h => by cases d <;> exact h) hS 9 (some 93) _ rfl (v := ?_) (by kernel_rfl) ?_ ?_
                    rotate_left
                    · intro _ _; go_simp; first | done | with_reducible rfl
                    simp only [Act.put, List.setIfInBounds_toArray, List.set_cons_zero, List.set_cons_succ]
                    refine hTake (by kernel_rfl) (fun d _ _ _ _ h => by cases d <;> exact h) hS 10 (some 94) _ rfl (v := ?_) (by kernel_rfl) ?_ ?_
                    rotate_left
                    · intro w9 hS9; have q := cell_below hS9 ck2; go_simp; first | done | with_reducible rfl
                    simp only [Act.put, List.setIfInBounds_toArray, List.set_cons_zero, List.set_cons_succ]
                    refine wpAnyH_ready (rs := [11]) (by kernel_rfl) (by simp) ?_
                    refine AllReadyH.cons (o := _) rfl (fun K9 hK9 => ?_) AllReadyH.nil
                    go_simp
                    refine (IsAround_any (l := l) y m _ (hrT.below (show Below wr.heap.size wr _ from hS) (Nat.le_refl _))).mono ?_
                    rintro e w8 ⟨rfl, hx⟩
                    try go_wp2_with fail
                    refine hK9.out _ _ (hS.ext hx) (fun hS => ?_)
                    clear hK9 K9
                    try simp only [Act.put, List.setIfInBounds_toArray, List.set_cons_zero, List.set_cons_succ]
                    clear hx
                    refine hTake (by kernel_rfl) (fun d _ _ _ _ h => by cases d <;> exact h) hS 12 (some 96) _ rfl (v := ?_) (by kernel_rfl) ?_ ?_
                    rotate_left
                    · intro _ _; go_simp; first | done | with_reducible rfl
                    simp only [Act.put, List.setIfInBounds_toArray, List.set_cons_zero, List.set_cons_succ]
                    refine wpAnyH_ready (rs := [13]) (by kernel_rfl) (by simp) ?_
                    refine AllReadyH.cons (o := _) rfl (fun K9 hK9 => ?_) AllReadyH.nil
                    go_simp
                    refine hK9.out _ _ hS (fun hS => ?_)
                    clear hK9 K9
                    try simp only [Act.put, List.setIfInBounds_toArray, List.set_cons_zero, List.set_cons_succ]
                    refine wpAnyH_done (by kernel_rfl) ?_ _
                    replace hrT := hrT.below (show Below wr.heap.size wr _ from hS) (Nat.le_refl _)
                    replace hrM := hrM.below (show Below wr.heap.size wr _ from hS) (Nat.le_refl _)
                    replace hrO := hrO.below (show Below wr.heap.size wr _ from hS) (Nat.le_refl _)
                    replace hb := after hb hS (Nat.le_refl _)
                    clear hS ck ck2
                    go_wp2
                    go_roundw
                    case rel => exact ⟨q + 1, isAr l y m, by go_num, by omega, rfl, by rw [HS.out, ← HT.out]; rfl, hrT, hrM, hrO, hb⟩
                    case measure => simp [intOf]; omega
                · obtain rfl : q = R.length := by omega
                  have hT : T = true := by
                    rw [HT.out, List.take_of_length_le (Nat.le_refl _)]
                    exact HCV.out
                  subst hT
                  go_wp2
                  go_roundw
                  case rel => exact ⟨j + 1, by go_num, by omega, hrT, hrM, hrO, hb⟩
                  case measure => simp [intOf]; omega
            · obtain rfl : j = ms.length := by omega
              go_wp2
              go_ret
              exact ⟨rfl, hb⟩
end Go.Proofs.Ytckggmbmlpikhaa
