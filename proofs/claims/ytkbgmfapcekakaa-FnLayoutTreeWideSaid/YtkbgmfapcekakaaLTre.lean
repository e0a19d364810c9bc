/-
  The laws over LayoutTree: FnLayoutTree, FnLayoutTreeWide.
-/
import Derived.Test.YtkbgmfapcekakaaTre
import Derived.Test.YtkbgmfapcekakaaAi
import Derived.Test.YtkbgmfapcekakaaAg
import Derived.Test.YtkbgmfapcekakaaAe
import Derived.Test.YtkbgmfapcekakaaAj
import Derived.Test.YtkbgmfapcekakaaAf
import Derived.Test.YtkbgmfapcekakaaLStyA
namespace Go.Proofs.Ytkbgmfapcekakaa
open Go Go.RowKit

set_option maxRecDepth 100000 in
set_option maxHeartbeats 2000000 in
theorem FnLayoutTree_any {v : Value} (w : World) (hv : RdBytes w v) :
    Calls Try.prog 5 #[v] w fun e w' => e = .returned (.bool true) ∧ Ext w w' := by
  have hv2 := hv
  obtain ⟨ad, n, c, rfl, hn, hc, _⟩ := hv
  unfold maxLen at hc
  by_cases hlen : 1048576 < n
  · have hlen' : (1048576 : Int) < n := by omega
    go_enter Try.func5, Try.ntmps5
    go_wp2
    go_ret
    exact ⟨rfl, Below.refl _ _⟩
  · have hlen' : ¬ ((1048576 : Int) < n) := by omega
    go_enter Try.func5, Try.ntmps5
    go_wp2_with (fail)
    refine (DrawLayoutTree_any _ hv2).mono ?_
    rintro e w1 ⟨v1, sw, sh, rfl, l, hl, hsw, hsh, ho1, hb⟩
    have hrT := ho1.rd
    clear ho1 hv2
    go_wp2_with (fail)
    refine ((LayoutTree_any (l := l) sw sh _ hrT)).mono ?_
    rintro e w2 ⟨v2, rfl, ho2, hx⟩
    replace hb := after hb hx (Nat.le_refl _)
    replace hrT := hrT.below hx (Nat.le_refl _)
    clear hx
    have hrO := ho2.rd
    clear ho2
    go_wp2_with (fail)
    refine ((sLayoutTree_any (l := l) sw sh _ hrT (by omega))).mono ?_
    rintro e w3 ⟨v3, rfl, ho3, hx⟩
    replace hb := after hb hx (Nat.le_refl _)
    replace hrT := hrT.below hx (Nat.le_refl _)
    replace hrO := hrO.below hx (Nat.le_refl _)
    clear hx
    have hrW := ho3.rd
    clear ho3
    cases hok : scrB l sw sh with
    | false =>
      have HO := Lib.hid (rectsOr_f hok)
      rw [HO.out] at hrO hrW
      clear hok
      go_wp2_with (fail)
      refine ((equalRects_any (l := []) _ hrO hrW)).mono ?_
      rintro e w4 ⟨rfl, hx⟩
      replace hb := after hb hx (Nat.le_refl _)
      replace hrT := hrT.below hx (Nat.le_refl _)
      replace hrO := hrO.below hx (Nat.le_refl _)
      clear hx
      clear hrW
      obtain ⟨aO, cO, rfl, hnO, hcO, _⟩ := hrO.rects
      rw [List.length_nil] at hrO
      go_wp2_with (fail)
      refine ((sLayoutTree_any (l := l) sw sh _ hrT (by omega))).mono ?_
      rintro e w5 ⟨v5, rfl, ho5, hx⟩
      replace hb := after hb hx (Nat.le_refl _)
      replace hrT := hrT.below hx (Nat.le_refl _)
      replace hrO := hrO.below hx (Nat.le_refl _)
      clear hx
      have hrW := ho5.rd
      rw [HO.out] at hrW
      clear ho5
      go_wp2_with (fail)
      refine ((equalRects_any (l := []) _ hrO hrW)).mono ?_
      rintro e w6 ⟨rfl, hx⟩
      replace hb := after hb hx (Nat.le_refl _)
      clear hx
      go_wp2
      go_ret
      exact ⟨rfl, hb⟩
    | true =>
      have HO := Lib.hid (rectsOr_t hok)
      rw [HO.out] at hrO hrW
      obtain ⟨hval, hsw2, hsh2⟩ := scrB_iff.1 hok
      clear hok hsw hsh
      go_wp2_with (fail)
      refine ((equalRects_any (l := rectL l sw sh) _ hrO hrW)).mono ?_
      rintro e w4 ⟨rfl, hx⟩
      replace hb := after hb hx (Nat.le_refl _)
      replace hrT := hrT.below hx (Nat.le_refl _)
      replace hrO := hrO.below hx (Nat.le_refl _)
      clear hx
      clear hrW
      have HV := Lib.hid hval
      have hlo := hval.lo
      have hz : ((l.length : Int) == 0) = false := beq_eq_false_iff_ne.2 (by omega)
      have HR := Lib.hid (fun k (hk : k < l.length) => rect_ok hval hsw2 hsh2 hk)
      obtain ⟨bO, oO, cO, rfl, hnO, hcO, hR⟩ := rectS hrO hlo
      have HRD := Lib.hid hrO
      obtain ⟨bT, oT, cT, rfl, hnT, hcT⟩ := rd_addr hlo hrT
      clear hval hrO
      go_wp2
      go_loopw [7] (fun n wr => ∃ k : Nat, n = .int .i64 k ∧ k ≤ l.length ∧ RC l sw sh bO oO wr ∧ Below w.heap.size w wr) (fun n _ => l.length - (intOf n).toNat)
      case atStart => exact ⟨0, rfl, Nat.zero_le _, hR, hb⟩
      case round =>
        clear hR hb hrT
        obtain ⟨k, rfl, hk, hR, hb⟩ := hrel
        by_cases hlt : k < l.length
        · have hlti : (k : Int) < l.length := by omega
          have hv := (HR.out k hlt).vr
          have HRR := Lib.hid hR
          obtain ⟨c0, c1, c2, c3⟩ := hR.cs k hlt
          clear hR
          generalize rect l sw sh k = r at *
          go_wp2_with (fail)
          change Calls _ _ #[r.agg] wr _
          clear c0 c1 c2 c3
          refine (ValidRect_any (r := r) _ hv).mono ?_
          rintro e w6 ⟨rfl, hx⟩
          replace hb := after hb hx (Nat.le_refl _)
          have hR := HRR.out.below hx (Nat.le_refl _)
          go_wp2
          go_roundw
          case rel => exact ⟨k + 1, by go_num, by omega, hR, hb⟩
          case measure => simp [intOf]; omega
        · obtain rfl : k = l.length := by omega
          obtain ⟨c0, c1, c2, c3⟩ := hR.cs 0 hlo
          rw [rect_root HV.out] at c0 c1 c2 c3
          simp only [Nat.zero_mul, Nat.add_zero] at c0 c1 c2 c3
          go_wp2
          go_ret
          exact ⟨by simp, hb⟩
set_option maxRecDepth 100000 in
set_option maxHeartbeats 2000000 in
theorem FnLayoutTreeWide_any {v : Value} (w : World) (hv : RdBytes w v) :
    Calls Try.prog 4 #[v] w fun e w' => e = .returned (.bool true) ∧ Ext w w' := by
  have hv2 := hv
  obtain ⟨ad, n, c, rfl, hn, hc, _⟩ := hv
  unfold maxLen at hc
  by_cases hlen : 1048576 < n
  · have hlen' : (1048576 : Int) < n := by omega
    go_enter Try.func4, Try.ntmps4
    go_wp2
    go_ret
    exact ⟨rfl, Below.refl _ _⟩
  · have hlen' : ¬ ((1048576 : Int) < n) := by omega
    go_enter Try.func4, Try.ntmps4
    go_wp2_with (fail)
    refine (DrawLayoutTree_any _ hv2).mono ?_
    rintro e w1 ⟨v1, sw, sh, rfl, l, hl, hsw, hsh, ho1, hb⟩
    have hrT := ho1.rd
    clear ho1 hv2
    go_wp2_with (fail)
    refine ((LayoutTree_any (l := l) sw sh _ hrT)).mono ?_
    rintro e w2 ⟨v2, rfl, ho2, hx⟩
    replace hb := after hb hx (Nat.le_refl _)
    replace hrT := hrT.below hx (Nat.le_refl _)
    clear hx
    have hrO := ho2.rd
    clear ho2
    go_wp2_with (fail)
    refine ((sLayoutTree_any (l := l) sw sh _ hrT (by omega))).mono ?_
    rintro e w3 ⟨v3, rfl, ho3, hx⟩
    replace hb := after hb hx (Nat.le_refl _)
    replace hrT := hrT.below hx (Nat.le_refl _)
    replace hrO := hrO.below hx (Nat.le_refl _)
    clear hx
    have hrW := ho3.rd
    clear ho3
    cases hok : scrB l sw sh with
    | false =>
      have HO := Lib.hid (rectsOr_f hok)
      rw [HO.out] at hrO hrW
      clear hok
      go_wp2_with (fail)
      refine ((equalRects_any (l := []) _ hrO hrW)).mono ?_
      rintro e w4 ⟨rfl, hx⟩
      replace hb := after hb hx (Nat.le_refl _)
      replace hrT := hrT.below hx (Nat.le_refl _)
      replace hrO := hrO.below hx (Nat.le_refl _)
      clear hx
      clear hrW
      obtain ⟨aO, cO, rfl, hnO, hcO, _⟩ := hrO.rects
      rw [List.length_nil] at hrO
      go_wp2_with (fail)
      refine ((sLayoutTree_any (l := l) sw sh _ hrT (by omega))).mono ?_
      rintro e w5 ⟨v5, rfl, ho5, hx⟩
      replace hb := after hb hx (Nat.le_refl _)
      replace hrT := hrT.below hx (Nat.le_refl _)
      replace hrO := hrO.below hx (Nat.le_refl _)
      clear hx
      have hrW := ho5.rd
      rw [HO.out] at hrW
      clear ho5
      go_wp2_with (fail)
      refine ((equalRects_any (l := []) _ hrO hrW)).mono ?_
      rintro e w6 ⟨rfl, hx⟩
      replace hb := after hb hx (Nat.le_refl _)
      clear hx
      go_wp2
      go_ret
      exact ⟨rfl, hb⟩
    | true =>
      have HO := Lib.hid (rectsOr_t hok)
      rw [HO.out] at hrO hrW
      obtain ⟨hval, hsw2, hsh2⟩ := scrB_iff.1 hok
      clear hok hsw hsh
      go_wp2_with (fail)
      refine ((equalRects_any (l := rectL l sw sh) _ hrO hrW)).mono ?_
      rintro e w4 ⟨rfl, hx⟩
      replace hb := after hb hx (Nat.le_refl _)
      replace hrT := hrT.below hx (Nat.le_refl _)
      replace hrO := hrO.below hx (Nat.le_refl _)
      clear hx
      clear hrW
      have HV := Lib.hid hval
      have hlo := hval.lo
      have hz : ((l.length : Int) == 0) = false := beq_eq_false_iff_ne.2 (by omega)
      have HR := Lib.hid (fun k (hk : k < l.length) => rect_ok hval hsw2 hsh2 hk)
      obtain ⟨bO, oO, cO, rfl, hnO, hcO, hR⟩ := rectS hrO hlo
      have HRD := Lib.hid hrO
      obtain ⟨bT, oT, cT, rfl, hnT, hcT⟩ := rd_addr hlo hrT
      clear hval hrO
      by_cases hw10 : 10000 < sw + 10
      · have hrO := HRD.out
        go_wp2_with (fail)
        refine ((sLayoutTree_any (l := l) sw sh _ hrT (by omega))).mono ?_
        rintro e w5 ⟨v5, rfl, ho5, hx⟩
        replace hb := after hb hx (Nat.le_refl _)
        replace hrO := hrO.below hx (Nat.le_refl _)
        clear hx
        have hrW := ho5.rd
        rw [HO.out] at hrW
        clear ho5
        go_wp2_with (fail)
        refine ((equalRects_any (l := rectL l sw sh) _ hrO hrW)).mono ?_
        rintro e w6 ⟨rfl, hx⟩
        replace hb := after hb hx (Nat.le_refl _)
        clear hx
        go_wp2
        go_ret
        exact ⟨rfl, hb⟩
      · have hok2 : scrB l (sw + 10) sh = true := scrB_iff.2 ⟨HV.out, by omega, by omega⟩
        have HW := Lib.hid (fun k (hk : k < l.length) => rect_wide HV.out sw (sw + 10) sh k k (Nat.le_refl _) hk)
        go_wp2_with (fail)
        refine ((LayoutTree_any (l := l) (sw + 10) sh _ hrT)).mono ?_
        rintro e w5 ⟨v5, rfl, ho5, hx⟩
        replace hb := after hb hx (Nat.le_refl _)
        replace hR := hR.below hx (Nat.le_refl _)
        clear hx
        have hr5 := ho5.rd
        rw [rectsOr_t hok2] at hr5
        obtain ⟨bP, oP, cP, rfl, hnP, hcP, hP⟩ := rectS hr5 hlo
        clear hrT ho5 hr5 hok2
        go_wp2
        go_loopw [8] (fun n wr => ∃ k : Nat, n = .int .i64 k ∧ k ≤ l.length ∧ RC l sw sh bO oO wr ∧ RC l (sw + 10) sh bP oP wr ∧ Below w.heap.size w wr) (fun n _ => l.length - (intOf n).toNat)
        case atStart => exact ⟨0, rfl, Nat.zero_le _, hR, hP, hb⟩
        case round =>
          clear hR hP hb
          obtain ⟨k, rfl, hk, hR, hP, hb⟩ := hrel
          by_cases hlt : k < l.length
          · have hlti : (k : Int) < l.length := by omega
            have hk0 : (0 : Int) ≤ (k : Int) := by omega
            have hw := HW.out k hlt
            have HRR := Lib.hid hR
            have HPP := Lib.hid hP
            obtain ⟨c0, c1, c2, c3⟩ := hR.cs k hlt
            obtain ⟨d0, d1, d2, d3⟩ := hP.cs k hlt
            rw [← hw] at d3
            clear hR hP hw c0 c1 c2 d0 d1 d2
            generalize (rect l sw sh k).h = r at *
            go_wp2
            go_quiet (fail)
            go_wp2
            go_roundw
            case rel => exact ⟨k + 1, by go_num, by omega, HRR.out.below (below_drewN (Below.refl _ _) _) (Nat.le_refl _), HPP.out.below (below_drewN (Below.refl _ _) _) (Nat.le_refl _), below_drewN hb _⟩
            case measure => simp [intOf]; omega
          · obtain rfl : k = l.length := by omega
            go_wp2
            go_ret
            exact ⟨by simp, hb⟩
end Go.Proofs.Ytkbgmfapcekakaa
