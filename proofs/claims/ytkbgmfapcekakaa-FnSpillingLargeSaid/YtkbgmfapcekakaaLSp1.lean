/-
  The laws FnSpillingNone and FnSpillingLarge: the walks.
-/
import Derived.Test.YtkbgmfapcekakaaSSpl
import Derived.Test.YtkbgmfapcekakaaAg
import Derived.Test.YtkbgmfapcekakaaNS
import Derived.Test.YtkbgmfapcekakaaLTr2
import Derived.Test.YtkbgmfapcekakaaLStyA
namespace Go.Proofs.Ytkbgmfapcekakaa
open Go Go.RowKit

theorem fit_not {l : List Bx} {a b : Int} (hf : fitS l a b = true) {k : Nat} (hk : k ∈ kid l 0) : ((k : Nat) : Int) ∉ splL l a b := by
  intro hm
  cases hok : scrB l a b with
  | false =>
    rw [splL_f hok] at hm
    simp at hm
  | true =>
    rw [splL_t hok] at hm
    obtain ⟨x, hx, e⟩ := mem_ni.1 hm
    obtain rfl : x = k := by omega
    obtain ⟨hv, hw, hh⟩ := scrB_iff.1 hok
    unfold fitS at hf
    simp only [Bool.and_eq_true, decide_eq_true_eq] at hf
    have := fit_inside hv hw hh hf.2.1 hf.2.2 hk
    rw [(spillTo_mem.1 hx).2.2] at this
    cases this
theorem fit_valid {l : List Bx} {a b : Int} (hf : fitS l a b = true) : Valid l := by
  unfold fitS at hf
  simp only [Bool.and_eq_true, decide_eq_true_eq] at hf
  exact vldB_iff.1 hf.1
theorem kids_zero {l : List Bx} (hv : Valid l) : kidsL l 0 = kid l 0 := kids_valid hv hv.lo
set_option maxRecDepth 100000 in
set_option maxHeartbeats 8000000 in
theorem FnSpillingNone_any {v : Value} (w : World) (hv : RdBytes w v) :
    Calls Try.prog 13 #[v] w fun e w' => e = .returned (.bool true) ∧ Ext w w' := by
  have hv2 := hv
  obtain ⟨ad, n, c, rfl, hn, hc, _⟩ := hv
  unfold maxLen at hc
  by_cases hlen : 1048576 < n
  · have hlen' : (1048576 : Int) < n := by omega
    go_enter Try.func13, Try.ntmps13
    go_wp2
    go_ret
    exact ⟨rfl, Below.refl _ _⟩
  · have hlen' : ¬ ((1048576 : Int) < n) := by omega
    go_enter Try.func13, Try.ntmps13
    go_wp2_with (fail)
    refine (DrawSpilling_any _ hv2).mono ?_
    rintro e w1 ⟨v1, sw, sh, rfl, l, hl, hsw, hsh, ho1, hb⟩
    have hrT := ho1.rd
    clear ho1 hv2
    go_wp2_with (fail)
    refine ((Spilling_any (l := l) sw sh _ hrT)).mono ?_
    rintro e w2 ⟨v2, rfl, ho2, hx⟩
    replace hb := after hb hx (Nat.le_refl _)
    replace hrT := hrT.below hx (Nat.le_refl _)
    clear hx
    have hrO := ho2.rd
    clear ho2
    go_wp2_with (fail)
    refine ((sSpilling_any (l := l) sw sh _ hrT (by omega))).mono ?_
    rintro e w3 ⟨v3, rfl, ho3, hx⟩
    replace hb := after hb hx (Nat.le_refl _)
    replace hrT := hrT.below hx (Nat.le_refl _)
    replace hrO := hrO.below hx (Nat.le_refl _)
    clear hx
    have hrW := ho3.rd
    clear ho3
    go_wp2_with (fail)
    refine ((equalInts_any _ hrO hrW)).mono ?_
    rintro e w4 ⟨rfl, hx⟩
    replace hb := after hb hx (Nat.le_refl _)
    replace hrT := hrT.below hx (Nat.le_refl _)
    replace hrO := hrO.below hx (Nat.le_refl _)
    clear hx
    rw [show decide (splL l sw sh = splL l sw sh) = true by simp]
    clear hrW
    cases hf : fitS l sw sh with
    | false =>
      go_wp2_with (fail)
      refine ((FitsIn_any (l := l) sw sh _ hrT)).mono ?_
      rintro e w5 ⟨he, hx⟩
      rw [hf] at he
      subst he
      replace hb := after hb hx (Nat.le_refl _)
      replace hrT := hrT.below hx (Nat.le_refl _)
      replace hrO := hrO.below hx (Nat.le_refl _)
      clear hx
      go_wp2_with (fail)
      refine ((sSpilling_any (l := l) sw sh _ hrT (by omega))).mono ?_
      rintro e w6 ⟨v6, rfl, ho6, hx⟩
      replace hb := after hb hx (Nat.le_refl _)
      replace hrO := hrO.below hx (Nat.le_refl _)
      clear hx
      have hrW := ho6.rd
      clear ho6
      go_wp2_with (fail)
      refine ((equalInts_any _ hrO hrW)).mono ?_
      rintro e w7 ⟨rfl, hx⟩
      replace hb := after hb hx (Nat.le_refl _)
      clear hx
      rw [show decide (splL l sw sh = splL l sw sh) = true by simp]
      go_wp2
      go_ret
      exact ⟨rfl, hb⟩
    | true =>
      go_wp2_with (fail)
      refine ((FitsIn_any (l := l) sw sh _ hrT)).mono ?_
      rintro e w5 ⟨he, hx⟩
      rw [hf] at he
      subst he
      replace hb := after hb hx (Nat.le_refl _)
      replace hrT := hrT.below hx (Nat.le_refl _)
      replace hrO := hrO.below hx (Nat.le_refl _)
      clear hx
      have hval := fit_valid hf
      go_wp2_with (fail)
      refine ((KidsOf_any (l := l) 0 _ hrT)).mono ?_
      rintro e w6 ⟨vK, rfl, hoK, hx⟩
      replace hb := after hb hx (Nat.le_refl _)
      replace hrT := hrT.below hx (Nat.le_refl _)
      replace hrO := hrO.below hx (Nat.le_refl _)
      clear hx
      rw [kids_zero hval] at hoK
      have hrK := hoK.rd
      have HNI := Lib.hid (fun k (h : k ∈ kid l 0) => fit_not hf h)
      clear hoK hf hval
      generalize kid l 0 = K at *
      obtain ⟨aK, cK, rfl, hnK, hcK, _⟩ := hrK.ints
      rw [ni_length] at hnK hrK ⊢
      unfold maxLen at hcK
      have HK := Lib.hid hrK
      have HO := Lib.hid hrO
      clear hrK hrT
      try clear hrO
      try clear hrL
      go_wp2
      go_loopw [8] (fun n wr => ∃ j : Nat, n = .int .i64 j ∧ j ≤ K.length ∧ wr = w6) (fun n _ => K.length - (intOf n).toNat)
      case atStart => exact ⟨0, rfl, Nat.zero_le _, rfl⟩
      case round =>
        obtain ⟨j, rfl, hj, rfl⟩ := hrel
        by_cases hlt : j < K.length
        · have hji : (j : Int) < K.length := by omega
          have hjb := List.getElem?_eq_getElem hlt
          obtain ⟨bK, oK, rfl, cb⟩ := HK.out.intAt (ni_get hjb)
          have hN : decide (((K[j] : Nat) : Int) ∈ splL l sw sh) = false := decide_eq_false (HNI.out _ (List.mem_of_getElem? hjb))
          have HN := Lib.hid hN
          clear hjb hN
          generalize K[j] = b at *
          go_wp2_with (fail)
          refine (isIn_any (b : Int) _ HO.out).mono ?_
          rintro e wq ⟨rfl, rfl⟩
          rw [HN.out]
          clear cb
          go_wp2
          go_roundw
          case rel => exact ⟨j + 1, by go_num, by omega, trivial⟩
          case measure => simp [intOf]; omega
        · obtain rfl : j = K.length := by omega
          go_wp2
          go_ret
          exact ⟨rfl, hb⟩
set_option maxRecDepth 100000 in
set_option maxHeartbeats 8000000 in
theorem FnSpillingLarge_any {v : Value} (w : World) (hv : RdBytes w v) :
    Calls Try.prog 12 #[v] w fun e w' => e = .returned (.bool true) ∧ Ext w w' := by
  have hv2 := hv
  obtain ⟨ad, n, c, rfl, hn, hc, _⟩ := hv
  unfold maxLen at hc
  by_cases hlen : 1048576 < n
  · have hlen' : (1048576 : Int) < n := by omega
    go_enter Try.func12, Try.ntmps12
    go_wp2
    go_ret
    exact ⟨rfl, Below.refl _ _⟩
  · have hlen' : ¬ ((1048576 : Int) < n) := by omega
    go_enter Try.func12, Try.ntmps12
    go_wp2_with (fail)
    refine (DrawSpilling_any _ hv2).mono ?_
    rintro e w1 ⟨v1, sw, sh, rfl, l, hl, hsw, hsh, ho1, hb⟩
    have hrT := ho1.rd
    clear ho1 hv2
    go_wp2_with (fail)
    refine ((Spilling_any (l := l) sw sh _ hrT)).mono ?_
    rintro e w2 ⟨v2, rfl, ho2, hx⟩
    replace hb := after hb hx (Nat.le_refl _)
    replace hrT := hrT.below hx (Nat.le_refl _)
    clear hx
    have hrO := ho2.rd
    clear ho2
    go_wp2_with (fail)
    refine ((sSpilling_any (l := l) sw sh _ hrT (by omega))).mono ?_
    rintro e w3 ⟨v3, rfl, ho3, hx⟩
    replace hb := after hb hx (Nat.le_refl _)
    replace hrT := hrT.below hx (Nat.le_refl _)
    replace hrO := hrO.below hx (Nat.le_refl _)
    clear hx
    have hrW := ho3.rd
    clear ho3
    go_wp2_with (fail)
    refine ((equalInts_any _ hrO hrW)).mono ?_
    rintro e w4 ⟨rfl, hx⟩
    replace hb := after hb hx (Nat.le_refl _)
    replace hrT := hrT.below hx (Nat.le_refl _)
    replace hrO := hrO.below hx (Nat.le_refl _)
    clear hx
    rw [show decide (splL l sw sh = splL l sw sh) = true by simp]
    clear hrW
    cases hf : fitS l 10000 10000 with
    | false =>
      go_wp2_with (fail)
      refine ((FitsIn_any (l := l) 10000 10000 _ hrT)).mono ?_
      rintro e w5 ⟨he, hx⟩
      rw [hf] at he
      subst he
      replace hb := after hb hx (Nat.le_refl _)
      replace hrT := hrT.below hx (Nat.le_refl _)
      replace hrO := hrO.below hx (Nat.le_refl _)
      clear hx
      go_wp2_with (fail)
      refine ((sSpilling_any (l := l) sw sh _ hrT (by omega))).mono ?_
      rintro e w6 ⟨v6, rfl, ho6, hx⟩
      replace hb := after hb hx (Nat.le_refl _)
      replace hrO := hrO.below hx (Nat.le_refl _)
      clear hx
      have hrW := ho6.rd
      clear ho6
      go_wp2_with (fail)
      refine ((equalInts_any _ hrO hrW)).mono ?_
      rintro e w7 ⟨rfl, hx⟩
      replace hb := after hb hx (Nat.le_refl _)
      clear hx
      rw [show decide (splL l sw sh = splL l sw sh) = true by simp]
      go_wp2
      go_ret
      exact ⟨rfl, hb⟩
    | true =>
      go_wp2_with (fail)
      refine ((FitsIn_any (l := l) 10000 10000 _ hrT)).mono ?_
      rintro e w5 ⟨he, hx⟩
      rw [hf] at he
      subst he
      replace hb := after hb hx (Nat.le_refl _)
      replace hrT := hrT.below hx (Nat.le_refl _)
      replace hrO := hrO.below hx (Nat.le_refl _)
      clear hx
      have hval := fit_valid hf
      go_wp2_with (fail)
      refine ((Spilling_any (l := l) 10000 10000 _ hrT)).mono ?_
      rintro e w6 ⟨vL, rfl, hoL, hx⟩
      replace hb := after hb hx (Nat.le_refl _)
      replace hrT := hrT.below hx (Nat.le_refl _)
      clear hx
      have hrL := hoL.rd
      clear hoL hrO
      go_wp2_with (fail)
      refine ((KidsOf_any (l := l) 0 _ hrT)).mono ?_
      rintro e w7 ⟨vK, rfl, hoK, hx⟩
      replace hb := after hb hx (Nat.le_refl _)
      replace hrT := hrT.below hx (Nat.le_refl _)
      replace hrL := hrL.below hx (Nat.le_refl _)
      clear hx
      rw [kids_zero hval] at hoK
      have hrK := hoK.rd
      have HNI := Lib.hid (fun k (h : k ∈ kid l 0) => fit_not hf h)
      clear hoK hf hval
      generalize kid l 0 = K at *
      obtain ⟨aK, cK, rfl, hnK, hcK, _⟩ := hrK.ints
      rw [ni_length] at hnK hrK ⊢
      unfold maxLen at hcK
      have HK := Lib.hid hrK
      have HO := Lib.hid hrL
      clear hrK hrT
      try clear hrO
      try clear hrL
      go_wp2
      go_loopw [9] (fun n wr => ∃ j : Nat, n = .int .i64 j ∧ j ≤ K.length ∧ wr = w7) (fun n _ => K.length - (intOf n).toNat)
      case atStart => exact ⟨0, rfl, Nat.zero_le _, rfl⟩
      case round =>
        obtain ⟨j, rfl, hj, rfl⟩ := hrel
        by_cases hlt : j < K.length
        · have hji : (j : Int) < K.length := by omega
          have hjb := List.getElem?_eq_getElem hlt
          obtain ⟨bK, oK, rfl, cb⟩ := HK.out.intAt (ni_get hjb)
          have hN : decide (((K[j] : Nat) : Int) ∈ splL l 10000 10000) = false := decide_eq_false (HNI.out _ (List.mem_of_getElem? hjb))
          have HN := Lib.hid hN
          clear hjb hN
          generalize K[j] = b at *
          go_wp2_with (fail)
          refine (isIn_any (b : Int) _ HO.out).mono ?_
          rintro e wq ⟨rfl, rfl⟩
          rw [HN.out]
          clear cb
          go_wp2
          go_roundw
          case rel => exact ⟨j + 1, by go_num, by omega, trivial⟩
          case measure => simp [intOf]; omega
        · obtain rfl : j = K.length := by omega
          go_wp2
          go_ret
          exact ⟨rfl, hb⟩
end Go.Proofs.Ytkbgmfapcekakaa
