/-
  The laws over HitBox: FnHitBoxScreen, FnHitBox, FnHitBoxInner, FnSeenBoxesHit: the walks.
-/
import Derived.Test.YtbkhbmcoococmaaHitI
import Derived.Test.YtbkhbmcoococmaaDHit
import Derived.Test.YtbkhbmcoococmaaTre
import Derived.Test.YtbkhbmcoococmaaNS
import Derived.Test.YtbkhbmcoococmaaAb
import Derived.Test.YtbkhbmcoococmaaAg
import Derived.Test.YtbkhbmcoococmaaSeen
namespace Go.Proofs.Ytbkhbmcoococmaa
open Go Go.RowKit

theorem kids_val {l : List Bx} (hv : Valid l) {p : Nat} (hp : p < l.length) : kidsL l (p : Int) = kid l (p : Int) := by
  unfold kidsL
  rw [if_pos (inB_iff.2 ⟨hv, by omega, by omega⟩)]
theorem hitI_pos {l : List Bx} {sw sh x y : Int} (h : ¬ hitI l sw sh x y < 0) : scrB l sw sh = true ∧ ∃ k : Nat, hitI l sw sh x y = (k : Int) ∧ hitTo l sw sh x y l.length = (k : Int) ∧ k < l.length ∧ hitB l sw sh x y k = true := by
  cases hok : scrB l sw sh with
  | false =>
    rw [hitI_f hok] at h
    omega
  | true =>
    rw [hitI_t hok] at h ⊢
    obtain ⟨k, hk⟩ := Int.eq_ofNat_of_zero_le (show 0 ≤ hitTo l sw sh x y l.length by omega)
    obtain ⟨h1, h2⟩ := hitTo_hit hk
    exact ⟨rfl, k, hk, hk, h1, h2⟩
set_option maxRecDepth 100000 in
set_option maxHeartbeats 8000000 in
theorem FnHitBoxScreen_any {v : Value} (w : World) (hv : RdBytes w v) :
    Calls Try.prog 6 #[v] w fun e w' => e = .returned (.bool true) ∧ Ext w w' := by
  have hv2 := hv
  obtain ⟨ad, n, c, rfl, hn, hc, _⟩ := hv
  unfold maxLen at hc
  by_cases hlen : 1048576 < n
  · have hlen' : (1048576 : Int) < n := by omega
    go_enter Try.func6, Try.ntmps6
    go_wp2
    go_ret
    exact ⟨rfl, Below.refl _ _⟩
  · have hlen' : ¬ ((1048576 : Int) < n) := by omega
    go_enter Try.func6, Try.ntmps6
    go_wp2_with (fail)
    refine (DrawHitBox_any _ hv2).mono ?_
    rintro e w1 ⟨v1, sw, sh, x, y, rfl, l, hl, hxb, hyb, ho1, hb⟩
    have hrT := ho1.rd
    clear ho1 hv2
    go_wp2_with (fail)
    refine ((HitBox_any (l := l) sw sh x y _ hrT)).mono ?_
    rintro e w2 ⟨rfl, hx⟩
    replace hb := after hb hx (Nat.le_refl _)
    replace hrT := hrT.below hx (Nat.le_refl _)
    clear hx
    go_wp2_with (fail)
    refine ((sHitBox_any (l := l) sw sh x y _ hrT (by omega))).mono ?_
    rintro e w3 ⟨rfl, hx⟩
    replace hb := after hb hx (Nat.le_refl _)
    replace hrT := hrT.below hx (Nat.le_refl _)
    clear hx
    cases hok : scrB l sw sh with
    | false =>
      have HO := Lib.hid (rectsOr_f hok)
      clear hok
      have HS := Lib.hid (fun W (h : Rd W 9 v1 (Bs l)) => sHitBox_any (l := l) sw sh x y W h (by omega))
      generalize hitI l sw sh x y = k at *
      go_wp2_with (fail)
      refine ((LayoutTree_any (l := l) sw sh _ hrT)).mono ?_
      rintro e w4 ⟨v4, rfl, ho4, hx⟩
      replace hb := after hb hx (Nat.le_refl _)
      replace hrT := hrT.below hx (Nat.le_refl _)
      clear hx
      have hrO := ho4.rd
      rw [HO.out] at hrO
      obtain ⟨aO, cO, rfl, hnO, hcO, _⟩ := hrO.rects
      rw [List.length_nil] at hrO ⊢
      clear ho4 hrO
      go_wp2_with (fail)
      refine ((HS.out _ hrT)).mono ?_
      rintro e w5 ⟨rfl, hx⟩
      replace hb := after hb hx (Nat.le_refl _)
      clear hx
      go_wp2
      go_ret
      exact ⟨by first | (simp; done) | (simp; omega), hb⟩
    | true =>
      obtain ⟨hval, hsw2, hsh2⟩ := scrB_iff.1 hok
      have hlo := hval.lo
      have hSC := hit_screen hval sw sh x y
      rw [← hitI_t hok] at hSC
      have HOK := Lib.hid hok
      have HSC := Lib.hid hSC
      clear hSC hok
      generalize hitI l sw sh x y = k at *
      go_wp2_with (fail)
      refine ((LayoutTree_any (l := l) sw sh _ hrT)).mono ?_
      rintro e w4 ⟨v4, rfl, ho4, hx⟩
      replace hb := after hb hx (Nat.le_refl _)
      replace hrT := hrT.below hx (Nat.le_refl _)
      clear hx
      have hrO := ho4.rd
      rw [rectsOr_t HOK.out] at hrO
      obtain ⟨bO, oO, cO, rfl, hnO, hcO, hR⟩ := rectS hrO hlo
      clear ho4 hrO hval
      clear hrT hR
      have hne : ((l.length : Int) == 0) = false := by
        have : (l.length : Int) ≠ 0 := by omega
        simpa using this
      have HD := Lib.hid (show (k == -1) = !(hasB ⟨0, 0, sw, sh⟩ x y) by rw [← HSC.out]; rfl)
      by_cases h1 : 0 ≤ x
      · by_cases h2 : x < sw
        · by_cases h3 : 0 ≤ y
          · by_cases h4 : y < sh
            · have hd : (k == -1) = false := by first | (rw [HD.out]; simp [hasB, h1, h2, h3, h4]; done) | (rw [HD.out]; simp [hasB, h1, h2, h3, h4]; omega)
              go_wp2
              go_ret
              exact ⟨by first | (simp; done) | (simp; omega), hb⟩
            · have hd : (k == -1) = true := by first | (rw [HD.out]; simp [hasB, h1, h2, h3, h4]; done) | (rw [HD.out]; simp [hasB, h1, h2, h3, h4]; omega)
              go_wp2
              go_ret
              exact ⟨by first | (simp; done) | (simp; omega), hb⟩
          · have hd : (k == -1) = true := by first | (rw [HD.out]; simp [hasB, h1, h2, h3]; done) | (rw [HD.out]; simp [hasB, h1, h2, h3]; omega)
            go_wp2
            go_ret
            exact ⟨by first | (simp; done) | (simp; omega), hb⟩
        · have hd : (k == -1) = true := by first | (rw [HD.out]; simp [hasB, h1, h2]; done) | (rw [HD.out]; simp [hasB, h1, h2]; omega)
          go_wp2
          go_ret
          exact ⟨by first | (simp; done) | (simp; omega), hb⟩
      · have hd : (k == -1) = true := by first | (rw [HD.out]; simp [hasB, h1]; done) | (rw [HD.out]; simp [hasB, h1]; omega)
        go_wp2
        go_ret
        exact ⟨by first | (simp; done) | (simp; omega), hb⟩
set_option maxRecDepth 100000 in
set_option maxHeartbeats 8000000 in
theorem FnHitBox_any {v : Value} (w : World) (hv : RdBytes w v) :
    Calls Try.prog 8 #[v] w fun e w' => e = .returned (.bool true) ∧ Ext w w' := by
  have hv2 := hv
  obtain ⟨ad, n, c, rfl, hn, hc, _⟩ := hv
  unfold maxLen at hc
  by_cases hlen : 1048576 < n
  · have hlen' : (1048576 : Int) < n := by omega
    go_enter Try.func8, Try.ntmps8
    go_wp2
    go_ret
    exact ⟨rfl, Below.refl _ _⟩
  · have hlen' : ¬ ((1048576 : Int) < n) := by omega
    go_enter Try.func8, Try.ntmps8
    go_wp2_with (fail)
    refine (DrawHitBox_any _ hv2).mono ?_
    rintro e w1 ⟨v1, sw, sh, x, y, rfl, l, hl, hxb, hyb, ho1, hb⟩
    have hrT := ho1.rd
    clear ho1 hv2
    go_wp2_with (fail)
    refine ((HitBox_any (l := l) sw sh x y _ hrT)).mono ?_
    rintro e w2 ⟨rfl, hx⟩
    replace hb := after hb hx (Nat.le_refl _)
    replace hrT := hrT.below hx (Nat.le_refl _)
    clear hx
    go_wp2_with (fail)
    refine ((sHitBox_any (l := l) sw sh x y _ hrT (by omega))).mono ?_
    rintro e w3 ⟨rfl, hx⟩
    replace hb := after hb hx (Nat.le_refl _)
    replace hrT := hrT.below hx (Nat.le_refl _)
    clear hx
    by_cases hn : hitI l sw sh x y < 0
    · skip
      have hn' : decide (hitI l sw sh x y < 0) = true := decide_eq_true hn
      have HS := Lib.hid (fun W (h : Rd W 9 v1 (Bs l)) => sHitBox_any (l := l) sw sh x y W h (by omega))
      generalize hitI l sw sh x y = k at *
      go_wp2_with (fail)
      refine ((HS.out _ hrT)).mono ?_
      rintro e w4 ⟨rfl, hx⟩
      replace hb := after hb hx (Nat.le_refl _)
      clear hx
      go_wp2
      go_ret
      exact ⟨by first | (simp; done) | (simp; omega), hb⟩
    · skip
      obtain ⟨hok, k, hk, hkt, hkl, hkb⟩ := hitI_pos hn
      rw [hk] at hn ⊢
      have hk0 : ¬ ((k : Int) < 0) := by omega
      have hkd : decide ((k : Int) < 0) = false := decide_eq_false hk0
      obtain ⟨hval, hsw2, hsh2⟩ := scrB_iff.1 hok
      have hlo := hval.lo
      have HV := Lib.hid hval
      have HR := Lib.hid (fun k (hk : k < l.length) => rect_ok hval hsw2 hsh2 hk)
      have HKT := Lib.hid hkt
      have HKB := Lib.hid hkb
      have HOK := Lib.hid hok
      clear hkt hkb hk hn
      go_wp2_with (fail)
      refine ((LayoutTree_any (l := l) sw sh _ hrT)).mono ?_
      rintro e w4 ⟨v4, rfl, ho4, hx⟩
      replace hb := after hb hx (Nat.le_refl _)
      replace hrT := hrT.below hx (Nat.le_refl _)
      clear hx
      have hrO := ho4.rd
      rw [rectsOr_t HOK.out] at hrO
      obtain ⟨bO, oO, cO, rfl, hnO, hcO, hR⟩ := rectS hrO hlo
      clear ho4 hrO hval
      have hin : inB l (k : Int) = true := inB_iff.2 ⟨HV.out, by omega, by omega⟩
      have HP : Hid (pathL l (k : Int) = (anc l k).reverse) := by
        show _ = _
        unfold pathL
        rw [if_pos hin, Int.toNat_natCast]
      clear hin
      go_wp2_with (fail)
      refine ((PathTo_any (l := l) (k : Int) _ hrT)).mono ?_
      rintro e w5 ⟨v5, rfl, ho5, hx⟩
      replace hb := after hb hx (Nat.le_refl _)
      replace hR := hR.below hx (Nat.le_refl _)
      clear hx
      rw [HP.out] at ho5
      have hrP := ho5.rd
      have HIT := Lib.hid (hitB_iff.1 HKB.out)
      have HLE := Lib.hid (fun a (ha : a ∈ anc l k) => anc_le k (HV.out.down hkl) a ha)
      have hpos : 0 < ((anc l k).reverse).length := by
        rw [List.length_reverse]
        exact List.length_pos_of_mem (anc_self (HV.out.down hkl))
      have HMEM := Lib.hid (fun a => (List.mem_reverse : a ∈ (anc l k).reverse ↔ a ∈ anc l k))
      clear ho5 hrT
      generalize (anc l k).reverse = P at *
      obtain ⟨aP, cP, rfl, hnP, hcP, _⟩ := hrP.ints
      rw [ni_length] at hnP hrP ⊢
      unfold maxLen at hcP
      have HPP := Lib.hid hrP
      have HRR := Lib.hid hR
      clear hrP hR
      go_wp2
      go_loopw [11] (fun n wr => ∃ j : Nat, n = .int .i64 (j : Int) ∧ j ≤ P.length ∧ Below w5.heap.size w5 wr) (fun n _ => P.length - (intOf n).toNat)
      case atStart => exact ⟨0, by go_num, Nat.zero_le _, Below.refl _ _⟩
      case round =>
        obtain ⟨j, rfl, hj, hb5⟩ := hrel
        by_cases hlt : j < P.length
        · have hji : (j : Int) < P.length := by omega
          have hjb := List.getElem?_eq_getElem hlt
          have hmem := (HMEM.out (P[j])).1 (List.mem_of_getElem? hjb)
          have hle := HLE.out _ hmem
          have hhas := HIT.out _ hmem
          obtain ⟨bK, oK, rfl, cb⟩ := HPP.out.intAt (ni_get hjb)
          replace cb := cell_below hb5 cb
          clear hmem hjb
          generalize P[j] = b at *
          have hbl : b < l.length := by omega
          have hbli : (b : Int) < l.length := by omega
          have hge : ¬ ((l.length : Int) ≤ (b : Int)) := by omega
          obtain ⟨c0, c1, c2, c3⟩ := (HRR.out.below hb5 (Nat.le_refl _)).cs b hbl
          have HHAS := Lib.hid hhas
          clear hhas
          go_wp2_with (fail)
          refine (InRect_any (r := rect l sw sh b) x y _ (HR.out b hbl).vr).mono ?_
          rintro e w6 ⟨he, hx⟩
          rw [HHAS.out] at he
          subst he
          replace hb5 := after hb5 hx (Nat.le_refl _)
          clear hx c0 c1 c2 c3 cb
          go_wp2
          go_roundw
          case rel => exact ⟨j + 1, by go_num, by omega, hb5⟩
          case measure => simp [intOf]; omega
        · obtain rfl : j = P.length := by omega
          have HBE := Lib.hid (hb.trans (hb5.mono hb.size))
          have hpi : (0 : Int) < P.length := by omega
          go_wp2
          go_ret
          exact ⟨by first | (simp; done) | (simp; omega), HBE.out⟩
set_option maxRecDepth 100000 in
set_option maxHeartbeats 8000000 in
theorem FnHitBoxInner_any {v : Value} (w : World) (hv : RdBytes w v) :
    Calls Try.prog 9 #[v] w fun e w' => e = .returned (.bool true) ∧ Ext w w' := by
  have hv2 := hv
  obtain ⟨ad, n, c, rfl, hn, hc, _⟩ := hv
  unfold maxLen at hc
  by_cases hlen : 1048576 < n
  · have hlen' : (1048576 : Int) < n := by omega
    go_enter Try.func9, Try.ntmps9
    go_wp2
    go_ret
    exact ⟨rfl, Below.refl _ _⟩
  · have hlen' : ¬ ((1048576 : Int) < n) := by omega
    go_enter Try.func9, Try.ntmps9
    go_wp2_with (fail)
    refine (DrawHitBox_any _ hv2).mono ?_
    rintro e w1 ⟨v1, sw, sh, x, y, rfl, l, hl, hxb, hyb, ho1, hb⟩
    have hrT := ho1.rd
    clear ho1 hv2
    go_wp2_with (fail)
    refine ((HitBox_any (l := l) sw sh x y _ hrT)).mono ?_
    rintro e w2 ⟨rfl, hx⟩
    replace hb := after hb hx (Nat.le_refl _)
    replace hrT := hrT.below hx (Nat.le_refl _)
    clear hx
    go_wp2_with (fail)
    refine ((sHitBox_any (l := l) sw sh x y _ hrT (by omega))).mono ?_
    rintro e w3 ⟨rfl, hx⟩
    replace hb := after hb hx (Nat.le_refl _)
    replace hrT := hrT.below hx (Nat.le_refl _)
    clear hx
    by_cases hn : hitI l sw sh x y < 0
    · skip
      have hn' : decide (hitI l sw sh x y < 0) = true := decide_eq_true hn
      have HS := Lib.hid (fun W (h : Rd W 9 v1 (Bs l)) => sHitBox_any (l := l) sw sh x y W h (by omega))
      generalize hitI l sw sh x y = k at *
      go_wp2_with (fail)
      refine ((HS.out _ hrT)).mono ?_
      rintro e w4 ⟨rfl, hx⟩
      replace hb := after hb hx (Nat.le_refl _)
      clear hx
      go_wp2
      go_ret
      exact ⟨by first | (simp; done) | (simp; omega), hb⟩
    · skip
      obtain ⟨hok, k, hk, hkt, hkl, hkb⟩ := hitI_pos hn
      rw [hk] at hn ⊢
      have hk0 : ¬ ((k : Int) < 0) := by omega
      have hkd : decide ((k : Int) < 0) = false := decide_eq_false hk0
      obtain ⟨hval, hsw2, hsh2⟩ := scrB_iff.1 hok
      have hlo := hval.lo
      have HV := Lib.hid hval
      have HR := Lib.hid (fun k (hk : k < l.length) => rect_ok hval hsw2 hsh2 hk)
      have HKT := Lib.hid hkt
      have HKB := Lib.hid hkb
      have HOK := Lib.hid hok
      clear hkt hkb hk hn
      go_wp2_with (fail)
      refine ((LayoutTree_any (l := l) sw sh _ hrT)).mono ?_
      rintro e w4 ⟨v4, rfl, ho4, hx⟩
      replace hb := after hb hx (Nat.le_refl _)
      replace hrT := hrT.below hx (Nat.le_refl _)
      clear hx
      have hrO := ho4.rd
      rw [rectsOr_t HOK.out] at hrO
      obtain ⟨bO, oO, cO, rfl, hnO, hcO, hR⟩ := rectS hrO hlo
      clear ho4 hrO hval
      go_wp2_with (fail)
      refine ((KidsOf_any (l := l) (k : Int) _ hrT)).mono ?_
      rintro e w5 ⟨v5, rfl, ho5, hx⟩
      replace hb := after hb hx (Nat.le_refl _)
      replace hR := hR.below hx (Nat.le_refl _)
      clear hx
      rw [kids_val HV.out hkl] at ho5
      have hrP := ho5.rd
      have HNK := Lib.hid (fun c (hc : c ∈ kid l (k : Int)) => hit_kid HV.out HKT.out hc)
      have HKL := Lib.hid (fun c (hc : c ∈ kid l (k : Int)) => (mem_kid_iff.1 hc).1)
      clear ho5 hrT
      generalize kid l (k : Int) = P at *
      obtain ⟨aP, cP, rfl, hnP, hcP, _⟩ := hrP.ints
      rw [ni_length] at hnP hrP ⊢
      unfold maxLen at hcP
      have HPP := Lib.hid hrP
      have HRR := Lib.hid hR
      clear hrP hR
      go_wp2
      go_loopw [11] (fun n wr => ∃ j : Nat, n = .int .i64 (j : Int) ∧ j ≤ P.length ∧ Below w5.heap.size w5 wr) (fun n _ => P.length - (intOf n).toNat)
      case atStart => exact ⟨0, by go_num, Nat.zero_le _, Below.refl _ _⟩
      case round =>
        obtain ⟨j, rfl, hj, hb5⟩ := hrel
        by_cases hlt : j < P.length
        · have hji : (j : Int) < P.length := by omega
          have hjb := List.getElem?_eq_getElem hlt
          have hmem := List.mem_of_getElem? hjb
          have hbl := HKL.out _ hmem
          have hhas := HNK.out _ hmem
          obtain ⟨bK, oK, rfl, cb⟩ := HPP.out.intAt (ni_get hjb)
          replace cb := cell_below hb5 cb
          clear hmem hjb
          generalize P[j] = b at *
          have hbli : (b : Int) < l.length := by omega
          obtain ⟨c0, c1, c2, c3⟩ := (HRR.out.below hb5 (Nat.le_refl _)).cs b hbl
          have HHAS := Lib.hid hhas
          clear hhas
          go_wp2_with (fail)
          refine (InRect_any (r := rect l sw sh b) x y _ (HR.out b hbl).vr).mono ?_
          rintro e w6 ⟨he, hx⟩
          rw [HHAS.out] at he
          subst he
          replace hb5 := after hb5 hx (Nat.le_refl _)
          clear hx c0 c1 c2 c3 cb
          go_wp2
          go_roundw
          case rel => exact ⟨j + 1, by go_num, by omega, hb5⟩
          case measure => simp [intOf]; omega
        · obtain rfl : j = P.length := by omega
          have HBE := Lib.hid (hb.trans (hb5.mono hb.size))
          go_wp2
          go_ret
          exact ⟨rfl, HBE.out⟩
theorem seen_hit {l : List Bx} {sw sh x y : Int} {k : Nat} (hok : scrB l sw sh = true) (hk : k < l.length) (hh : hitB l sw sh x y k = true) (hx : -1 ≤ x ∧ x ≤ 200) (hy : -1 ≤ y ∧ y ≤ 200) : decide ((k : Int) ∈ seenL l sw sh ⟨x, y, 1, 1⟩) = true := by
  have hv : vrB ⟨x, y, 1, 1⟩ = true := by
    rw [vrB_iff]
    exact ⟨by rw [inR_iff]; dsimp only; omega, by rw [inR_iff]; dsimp only; omega, by rw [inR_iff]; dsimp only; omega, by rw [inR_iff]; dsimp only; omega⟩
  have hval := (scrB_iff.1 hok).1
  rw [seenL_t hok hv]
  apply decide_eq_true
  rw [mem_ni_nat, seenTo_mem]
  refine ⟨hk, meet_has (x := x) (y := y) (hitB_iff.1 hh k (anc_self (hval.down hk))) ?_⟩
  rw [hasB_iff]
  dsimp only
  omega
set_option maxRecDepth 100000 in
set_option maxHeartbeats 8000000 in
theorem FnSeenBoxesHit_any {v : Value} (w : World) (hv : RdBytes w v) :
    Calls Try.prog 10 #[v] w fun e w' => e = .returned (.bool true) ∧ Ext w w' := by
  have hv2 := hv
  obtain ⟨ad, n, c, rfl, hn, hc, _⟩ := hv
  unfold maxLen at hc
  by_cases hlen : 1048576 < n
  · have hlen' : (1048576 : Int) < n := by omega
    go_enter Try.func10, Try.ntmps10
    go_wp2
    go_ret
    exact ⟨rfl, Below.refl _ _⟩
  · have hlen' : ¬ ((1048576 : Int) < n) := by omega
    go_enter Try.func10, Try.ntmps10
    go_wp2_with (fail)
    refine (DrawHitBox_any _ hv2).mono ?_
    rintro e w1 ⟨v1, sw, sh, x, y, rfl, l, hl, hxb, hyb, ho1, hb⟩
    have hrT := ho1.rd
    clear ho1 hv2
    go_wp2_with (fail)
    refine ((HitBox_any (l := l) sw sh x y _ hrT)).mono ?_
    rintro e w2 ⟨rfl, hx⟩
    replace hb := after hb hx (Nat.le_refl _)
    replace hrT := hrT.below hx (Nat.le_refl _)
    clear hx
    go_wp2_with (fail)
    refine ((sHitBox_any (l := l) sw sh x y _ hrT (by omega))).mono ?_
    rintro e w3 ⟨rfl, hx⟩
    replace hb := after hb hx (Nat.le_refl _)
    replace hrT := hrT.below hx (Nat.le_refl _)
    clear hx
    by_cases hn : hitI l sw sh x y < 0
    · skip
      have hn' : decide (hitI l sw sh x y < 0) = true := decide_eq_true hn
      have HS := Lib.hid (fun W (h : Rd W 9 v1 (Bs l)) => sHitBox_any (l := l) sw sh x y W h (by omega))
      generalize hitI l sw sh x y = k at *
      go_wp2_with (fail)
      refine ((HS.out _ hrT)).mono ?_
      rintro e w4 ⟨rfl, hx⟩
      replace hb := after hb hx (Nat.le_refl _)
      clear hx
      go_wp2
      go_ret
      exact ⟨by first | (simp; done) | (simp; omega), hb⟩
    · skip
      obtain ⟨hok, k, hk, hkt, hkl, hkb⟩ := hitI_pos hn
      rw [hk] at hn ⊢
      have hk0 : ¬ ((k : Int) < 0) := by omega
      have hkd : decide ((k : Int) < 0) = false := decide_eq_false hk0
      obtain ⟨hval, hsw2, hsh2⟩ := scrB_iff.1 hok
      have hlo := hval.lo
      have HV := Lib.hid hval
      have HR := Lib.hid (fun k (hk : k < l.length) => rect_ok hval hsw2 hsh2 hk)
      have HKT := Lib.hid hkt
      have HKB := Lib.hid hkb
      have HOK := Lib.hid hok
      clear hkt hkb hk hn
      have HSH := Lib.hid (seen_hit HOK.out hkl HKB.out hxb hyb)
      go_wp2_with (fail)
      refine (SeenBoxes_any (l := l) (q := ⟨x, y, 1, 1⟩) sw sh _ hrT).mono ?_
      rintro e w4 ⟨v4, rfl, ho4, hx⟩
      replace hb := after hb hx (Nat.le_refl _)
      have hr4 := ho4.rd
      clear ho4 hx hrT
      go_wp2_with (fail)
      refine (isIn_any (k : Int) _ hr4).mono ?_
      rintro e wq ⟨rfl, rfl⟩
      rw [HSH.out]
      go_wp2
      go_ret
      exact ⟨rfl, hb⟩
end Go.Proofs.Ytbkhbmcoococmaa
