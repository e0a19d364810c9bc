/-
  The law FnPartOfSize: the walk.
-/
import Derived.Test.YtmdlhjngiadlpaaLPartOf
import Derived.Test.YtmdlhjngiadlpaaLNat
namespace Go.Proofs.Ytmdlhjngiadlpaa
open Go Go.RowKit

set_option maxRecDepth 100000 in
set_option maxHeartbeats 4000000 in
theorem FnPartOfSize_any {v : Value} (w : World) (hv : RdBytes w v) :
    Calls Try.prog 6 #[v] w fun e w' => e = .returned (.bool true) ∧ Ext w w' := by
  have hv2 := hv
  obtain ⟨ad, n, c, rfl, hn, hc, _⟩ := hv
  unfold maxLen at hc
  by_cases hlen : 1048576 < n
  · have hlen' : (1048576 : Int) < n := by omega
    go_enter Try.func6, Try.ntmps6
    go_wp2
    go_ret
    exact ⟨rfl, Below.refl _ _⟩
  · have hlen' : ¬ ((1048576 : Int) < n) := by omega
    go_enter Try.func6, Try.ntmps6
    go_wp2_with (fail)
    refine (DrawPartOf_any _ hv2).mono ?_
    rintro e w1 ⟨v1, i, rfl, l, hl, hi0, hi1, ho1, hb⟩
    have hrT := ho1.rd
    clear ho1 hv2
    go_wp2_with (fail)
    refine ((PartOf_any (l := l) i _ hrT)).mono ?_
    rintro e w2 ⟨v2, rfl, ho2, hx⟩
    replace hb := after hb hx (Nat.le_refl _)
    replace hrT := hrT.below hx (Nat.le_refl _)
    clear hx
    have hrO := ho2.rd
    clear ho2
    go_wp2_with (fail)
    refine ((sPartOf_any (l := l) i _ hrT (by omega))).mono ?_
    rintro e w3 ⟨v3, rfl, ho3, hx⟩
    replace hb := after hb hx (Nat.le_refl _)
    replace hrT := hrT.below hx (Nat.le_refl _)
    replace hrO := hrO.below hx (Nat.le_refl _)
    clear hx
    have hrW := ho3.rd
    clear ho3
    by_cases h : inB l i = true
    · have h' := h
      obtain ⟨hval, h0, hil⟩ := inB_iff.1 h
      obtain ⟨i, rfl⟩ := Int.eq_ofNat_of_zero_le h0
      have hin : i < l.length := by omega
      rw [h, orNo_t, Int.toNat_natCast] at hrO hrW
      rw [h]
      have hpv := part_valid hval hin
      have hlo := cntS_le l i
      have hlen2 := partL_length l i
      have HN := Lib.hid (fun j (hj : j < cntS l i) => part_nat hval hin hj)
      have HV := Lib.hid hval
      have HP := Lib.hid hpv
      have HL := Lib.hid hlen2
      obtain ⟨aO, cO, rfl, hnO, hcO, _⟩ := hrO.boxes
      have hcO : cO ≤ maxLen := hcO
      unfold maxLen at hcO
      have hml : (partL l i).length ≤ 16 := by omega
      have hmi : i + (partL l i).length ≤ l.length := by omega
      clear hval h hpv hlen2 hlo
      go_wp2_with (fail)
      refine ((equalBoxes_any (l := partL l i) _ hrO hrW)).mono ?_
      rintro e w4 ⟨rfl, hx⟩
      replace hb := after hb hx (Nat.le_refl _)
      replace hrT := hrT.below hx (Nat.le_refl _)
      replace hrO := hrO.below hx (Nat.le_refl _)
      clear hx
      clear hrW
      go_wp2
      go_loopw [9] (fun n wr => ∃ k : Nat, n = .int .i64 k ∧ k ≤ (partL l i).length ∧ Rd wr 9 (.slice aO (partL l i).length cO) (Bs (partL l i)) ∧ Rd wr 9 v1 (Bs l) ∧ Below w.heap.size w wr) (fun n _ => (partL l i).length - (intOf n).toNat)
      case atStart => exact ⟨0, rfl, Nat.zero_le _, hrO, hrT, hb⟩
      case round =>
        clear hrT hrO hb
        obtain ⟨k, rfl, hk, hrO, hrT, hb⟩ := hrel
        by_cases hlt : k < (partL l i).length
        · have hlti : (k : Int) < (partL l i).length := by omega
          have HK1 : Hid (inB (partL l i) (k : Int) = true) := inB_iff.2 ⟨HP.out, by omega, by omega⟩
          have HK2 : Hid (inB l ((i : Int) + (k : Int)) = true) := inB_iff.2 ⟨HV.out, by omega, by omega⟩
          have HE : Hid (nW (partL l i) (k : Int) = nW l ((i : Int) + (k : Int)) ∧ nH (partL l i) (k : Int) = nH l ((i : Int) + (k : Int))) := by
            have h1 := HN.out k (by have := HL.out; omega)
            have h2 : ((i : Int) + (k : Int)) = ((i + k : Nat) : Int) := by omega
            have h3 := HK2.out
            rw [h2] at h3
            rw [h2]
            show _ ∧ _
            rw [nW_nat HK1.out, nH_nat HK1.out, nW_nat h3, nH_nat h3, h1]
            exact ⟨rfl, rfl⟩
          go_wp2_with (fail)
          refine ((NaturalSize_any (l := partL l i) (k : Int) _ hrO)).mono ?_
          rintro e w5 ⟨rfl, hx⟩
          replace hb := after hb hx (Nat.le_refl _)
          replace hrT := hrT.below hx (Nat.le_refl _)
          replace hrO := hrO.below hx (Nat.le_refl _)
          clear hx
          rw [HK1.out, HE.out.1, HE.out.2]
          go_wp2_with (fail)
          refine ((NaturalSize_any (l := l) ((i : Int) + (k : Int)) _ hrT)).mono ?_
          rintro e w6 ⟨rfl, hx⟩
          replace hb := after hb hx (Nat.le_refl _)
          replace hrT := hrT.below hx (Nat.le_refl _)
          replace hrO := hrO.below hx (Nat.le_refl _)
          clear hx
          rw [HK2.out]
          go_wp2
          go_roundw
          case rel => exact ⟨k + 1, by go_num, by omega, hrO, hrT, hb⟩
          case measure => simp [intOf]; omega
        · obtain rfl : k = (partL l i).length := by omega
          go_wp2
          go_ret
          exact ⟨rfl, hb⟩
    · have h' : inB l i = false := by simpa using h
      rw [h', orNo_f] at hrO hrW
      rw [h']
      clear h
      go_wp2_with (fail)
      refine ((equalBoxes_any (l := []) _ hrO hrW)).mono ?_
      rintro e w4 ⟨rfl, hx⟩
      replace hb := after hb hx (Nat.le_refl _)
      replace hrO := hrO.below hx (Nat.le_refl _)
      replace hrW := hrW.below hx (Nat.le_refl _)
      clear hx
      go_wp2_with (fail)
      refine ((equalBoxes_any (l := []) _ hrO hrW)).mono ?_
      rintro e w5 ⟨rfl, hx⟩
      replace hb := after hb hx (Nat.le_refl _)
      replace hrO := hrO.below hx (Nat.le_refl _)
      replace hrW := hrW.below hx (Nat.le_refl _)
      clear hx
      go_wp2
      go_ret
      exact ⟨rfl, hb⟩
end Go.Proofs.Ytmdlhjngiadlpaa
