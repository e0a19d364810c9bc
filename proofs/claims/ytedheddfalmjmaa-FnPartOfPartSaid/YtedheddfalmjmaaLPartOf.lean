/-
  The laws FnPartOf and FnPartOfPart: the walks.
-/
import Derived.Test.YtedheddfalmjmaaPart
import Derived.Test.YtedheddfalmjmaaDraw
namespace Go.Proofs.Ytedheddfalmjmaa
open Go Go.RowKit

set_option maxHeartbeats 1000000 in
theorem DrawPartOf_any {v : Value} (w : World) (hv : RdBytes w v) :
    Calls Try.prog 24 #[v] w fun e w' => ∃ (v' : Value) (i : Int), e = .returned (.tuple #[v', .int .i64 i]) ∧ ∃ l : List Bx, l.length ≤ 16 ∧ -1 ≤ i ∧ i ≤ 16 ∧ Own w' w.heap.size 9 v' (Bs l) ∧ Ext w w' := by
  go_enter Try.func24, Try.ntmps24
  go_wp2_with (fail)
  refine (DrawKidsOf_any _ hv).mono ?_
  rintro e w1 ⟨v1, i, rfl, l, hl, h0, h1, ho, hx⟩
  go_wp2
  go_ret2
  exact ⟨_, i, rfl, l, hl, h0, h1, ho, hx⟩

theorem cnt_part {l : List Bx} {i : Nat} (h : inB l (i : Int) = true) : ((partL l i).length : Int) = cntI l (i : Int) := by
  unfold cntI
  rw [if_pos h, partL_length]
  rfl

set_option maxRecDepth 100000 in
set_option maxHeartbeats 2000000 in
theorem FnPartOf_any {v : Value} (w : World) (hv : RdBytes w v) :
    Calls Try.prog 11 #[v] w fun e w' => e = .returned (.bool true) ∧ Ext w w' := by
  have hv2 := hv
  obtain ⟨ad, n, c, rfl, hn, hc, _⟩ := hv
  unfold maxLen at hc
  by_cases hlen : 1048576 < n
  · have hlen' : (1048576 : Int) < n := by omega
    go_enter Try.func11, Try.ntmps11
    go_wp2
    go_ret
    exact ⟨rfl, Below.refl _ _⟩
  · have hlen' : ¬ ((1048576 : Int) < n) := by omega
    go_enter Try.func11, Try.ntmps11
    go_wp2_with (fail)
    refine (DrawPartOf_any _ hv2).mono ?_
    rintro e w1 ⟨v1, i, rfl, l, hl, hi0, hi1, ho1, hb⟩
    have hrT := ho1.rd
    clear ho1 hv2
    go_wp2_with (fail)
    refine ((PartOf_any (l := l) i _ hrT)).mono ?_
    rintro e w2 ⟨v2, rfl, ho2, hx⟩
    replace hb := after hb hx (Nat.le_refl _)
    replace hrT := hrT.below hx (Nat.le_refl _)
    clear hx
    have hrO := ho2.rd
    clear ho2
    go_wp2_with (fail)
    refine ((sPartOf_any (l := l) i _ hrT (by omega))).mono ?_
    rintro e w3 ⟨v3, rfl, ho3, hx⟩
    replace hb := after hb hx (Nat.le_refl _)
    replace hrT := hrT.below hx (Nat.le_refl _)
    replace hrO := hrO.below hx (Nat.le_refl _)
    clear hx
    have hrW := ho3.rd
    clear ho3
    by_cases h : inB l i = true
    · have h' := h
      obtain ⟨hval, h0, hil⟩ := inB_iff.1 h
      obtain ⟨i, rfl⟩ := Int.eq_ofNat_of_zero_le h0
      have hin : i < l.length := by omega
      rw [h, orNo_t, Int.toNat_natCast] at hrO hrW
      rw [h]
      have hvo : vldB (partL l i) = true := vldB_iff.2 (part_valid hval hin)
      have hcn := cnt_part h
      have h00 : inB l 0 = true := inB_iff.2 ⟨hval, Int.le_refl _, by omega⟩
      have hz := part_zero hval
      have hlo := cntS_le l i
      have hlen2 := partL_length l i
      have HCN := Lib.hid hcn
      have HZ := Lib.hid hz
      obtain ⟨aO, cO, rfl, hnO, hcO, _⟩ := hrO.boxes
      have hcO : cO ≤ maxLen := hcO
      unfold maxLen at hcO
      clear hval h hcn hz hlen2
      go_wp2_with (fail)
      refine ((equalBoxes_any (l := partL l i) _ hrO hrW)).mono ?_
      rintro e w4 ⟨rfl, hx⟩
      replace hb := after hb hx (Nat.le_refl _)
      replace hrT := hrT.below hx (Nat.le_refl _)
      replace hrO := hrO.below hx (Nat.le_refl _)
      replace hrW := hrW.below hx (Nat.le_refl _)
      clear hx
      go_wp2_with (fail)
      refine ((PartOf_any (l := l) 0 _ hrT)).mono ?_
      rintro e w5 ⟨v5, rfl, ho5, hx⟩
      replace hb := after hb hx (Nat.le_refl _)
      replace hrT := hrT.below hx (Nat.le_refl _)
      replace hrO := hrO.below hx (Nat.le_refl _)
      replace hrW := hrW.below hx (Nat.le_refl _)
      clear hx
      rw [h00, orNo_t, Int.toNat_zero, HZ.out] at ho5
      rw [h00]
      have hrA := ho5.rd
      clear ho5
      go_wp2_with (fail)
      refine ((ValidTree_any (l := partL l i) _ hrO)).mono ?_
      rintro e w6 ⟨he, hx⟩
      rw [hvo] at he
      subst he
      replace hb := after hb hx (Nat.le_refl _)
      replace hrT := hrT.below hx (Nat.le_refl _)
      replace hrO := hrO.below hx (Nat.le_refl _)
      replace hrA := hrA.below hx (Nat.le_refl _)
      clear hx
      go_wp2_with (fail)
      refine ((CountIn_any (l := l) (i : Int) _ hrT)).mono ?_
      rintro e w7 ⟨rfl, hx⟩
      replace hb := after hb hx (Nat.le_refl _)
      replace hrT := hrT.below hx (Nat.le_refl _)
      replace hrO := hrO.below hx (Nat.le_refl _)
      replace hrA := hrA.below hx (Nat.le_refl _)
      clear hx
      rw [← HCN.out]
      go_wp2_with (fail)
      refine ((equalBoxes_any (l := l) _ hrA hrT)).mono ?_
      rintro e w8 ⟨rfl, hx⟩
      replace hb := after hb hx (Nat.le_refl _)
      replace hrT := hrT.below hx (Nat.le_refl _)
      replace hrO := hrO.below hx (Nat.le_refl _)
      replace hrA := hrA.below hx (Nat.le_refl _)
      clear hx
      go_wp2
      go_ret
      exact ⟨rfl, hb⟩
    · have h' : inB l i = false := by simpa using h
      rw [h', orNo_f] at hrO hrW
      rw [h']
      clear h
      go_wp2_with (fail)
      refine ((equalBoxes_any (l := []) _ hrO hrW)).mono ?_
      rintro e w4 ⟨rfl, hx⟩
      replace hb := after hb hx (Nat.le_refl _)
      replace hrO := hrO.below hx (Nat.le_refl _)
      replace hrW := hrW.below hx (Nat.le_refl _)
      clear hx
      go_wp2_with (fail)
      refine ((equalBoxes_any (l := []) _ hrO hrW)).mono ?_
      rintro e w5 ⟨rfl, hx⟩
      replace hb := after hb hx (Nat.le_refl _)
      replace hrO := hrO.below hx (Nat.le_refl _)
      replace hrW := hrW.below hx (Nat.le_refl _)
      clear hx
      go_wp2
      go_ret
      exact ⟨rfl, hb⟩
set_option maxRecDepth 100000 in
set_option maxHeartbeats 2000000 in
theorem FnPartOfPart_any {v : Value} (w : World) (hv : RdBytes w v) :
    Calls Try.prog 7 #[v] w fun e w' => e = .returned (.bool true) ∧ Ext w w' := by
  have hv2 := hv
  obtain ⟨ad, n, c, rfl, hn, hc, _⟩ := hv
  unfold maxLen at hc
  by_cases hlen : 1048576 < n
  · have hlen' : (1048576 : Int) < n := by omega
    go_enter Try.func7, Try.ntmps7
    go_wp2
    go_ret
    exact ⟨rfl, Below.refl _ _⟩
  · have hlen' : ¬ ((1048576 : Int) < n) := by omega
    go_enter Try.func7, Try.ntmps7
    go_wp2_with (fail)
    refine (DrawPartOf_any _ hv2).mono ?_
    rintro e w1 ⟨v1, i, rfl, l, hl, hi0, hi1, ho1, hb⟩
    have hrT := ho1.rd
    clear ho1 hv2
    go_wp2_with (fail)
    refine ((PartOf_any (l := l) i _ hrT)).mono ?_
    rintro e w2 ⟨v2, rfl, ho2, hx⟩
    replace hb := after hb hx (Nat.le_refl _)
    replace hrT := hrT.below hx (Nat.le_refl _)
    clear hx
    have hrO := ho2.rd
    clear ho2
    go_wp2_with (fail)
    refine ((sPartOf_any (l := l) i _ hrT (by omega))).mono ?_
    rintro e w3 ⟨v3, rfl, ho3, hx⟩
    replace hb := after hb hx (Nat.le_refl _)
    replace hrT := hrT.below hx (Nat.le_refl _)
    replace hrO := hrO.below hx (Nat.le_refl _)
    clear hx
    have hrW := ho3.rd
    clear ho3
    by_cases h : inB l i = true
    · have h' := h
      obtain ⟨hval, h0, hil⟩ := inB_iff.1 h
      obtain ⟨i, rfl⟩ := Int.eq_ofNat_of_zero_le h0
      have hin : i < l.length := by omega
      rw [h, orNo_t, Int.toNat_natCast] at hrO hrW
      rw [h]
      have hpv := part_valid hval hin
      have hpos := cntS_pos hval hin
      have hlo := cntS_le l i
      have hlen2 := partL_length l i
      obtain ⟨q, hq⟩ : ∃ q : Nat, n % (partL l i).length = q := ⟨_, rfl⟩
      have hq2 : q < cntS l i := by
        rw [← hq, hlen2]
        exact Nat.mod_lt _ (by omega)
      have hqi : (n : Int) % ((partL l i).length : Int) = (q : Int) := by rw [← hq]; exact (Int.natCast_emod n _).symm
      have HQI := Lib.hid hqi
      have hk1 : inB (partL l i) (q : Int) = true := inB_iff.2 ⟨hpv, by omega, by omega⟩
      have hk2 : inB l ((i : Int) + q) = true := inB_iff.2 ⟨hval, by omega, by omega⟩
      have HP : Hid (partL (partL l i) q = partL l (i + q)) := part_part hval hin hq2
      have hne : (((partL l i).length : Int) == 0) = false := beq_eq_false_iff_ne.2 (by omega)
      have hn1 : (1 : Int) ≤ ((partL l i).length : Int) := by omega
      obtain ⟨aO, cO, rfl, hnO, hcO, _⟩ := hrO.boxes
      have hcO : cO ≤ maxLen := hcO
      unfold maxLen at hcO
      clear hval h hpv hq hqi hlen2
      go_wp2_with (fail)
      refine ((equalBoxes_any (l := partL l i) _ hrO hrW)).mono ?_
      rintro e w4 ⟨rfl, hx⟩
      replace hb := after hb hx (Nat.le_refl _)
      replace hrT := hrT.below hx (Nat.le_refl _)
      replace hrO := hrO.below hx (Nat.le_refl _)
      replace hrW := hrW.below hx (Nat.le_refl _)
      clear hx
      go_wp2_with (fail)
      rw [HQI.out]
      refine (PartOf_any (l := partL l i) (q : Int) _ hrO).mono ?_
      rintro e w5 ⟨v5, rfl, ho5, hx⟩
      replace hb := after hb hx (Nat.le_refl _)
      replace hrT := hrT.below hx (Nat.le_refl _)
      rw [hk1, orNo_t, Int.toNat_natCast, HP.out] at ho5
      rw [hk1]
      have hrA := ho5.rd
      clear ho5 hx hrO hrW
      go_wp2_with (fail)
      refine ((PartOf_any (l := l) ((i : Int) + q) _ hrT)).mono ?_
      rintro e w6 ⟨v6, rfl, ho6, hx⟩
      replace hb := after hb hx (Nat.le_refl _)
      replace hrA := hrA.below hx (Nat.le_refl _)
      clear hx
      rw [hk2, orNo_t, show ((i : Int) + q).toNat = i + q by omega] at ho6
      rw [hk2]
      have hrB := ho6.rd
      go_wp2_with (fail)
      refine ((equalBoxes_any (l := partL l (i + q)) _ hrA hrB)).mono ?_
      rintro e w8 ⟨rfl, hx⟩
      replace hb := after hb hx (Nat.le_refl _)
      clear hx
      go_wp2
      go_ret
      exact ⟨rfl, hb⟩
    · have h' : inB l i = false := by simpa using h
      rw [h', orNo_f] at hrO hrW
      rw [h']
      clear h
      go_wp2_with (fail)
      refine ((equalBoxes_any (l := []) _ hrO hrW)).mono ?_
      rintro e w4 ⟨rfl, hx⟩
      replace hb := after hb hx (Nat.le_refl _)
      replace hrO := hrO.below hx (Nat.le_refl _)
      replace hrW := hrW.below hx (Nat.le_refl _)
      clear hx
      go_wp2_with (fail)
      refine ((equalBoxes_any (l := []) _ hrO hrW)).mono ?_
      rintro e w5 ⟨rfl, hx⟩
      replace hb := after hb hx (Nat.le_refl _)
      replace hrO := hrO.below hx (Nat.le_refl _)
      replace hrW := hrW.below hx (Nat.le_refl _)
      clear hx
      go_wp2
      go_ret
      exact ⟨rfl, hb⟩
end Go.Proofs.Ytedheddfalmjmaa
