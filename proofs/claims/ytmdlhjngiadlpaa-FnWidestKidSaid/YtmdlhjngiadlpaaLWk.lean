/-
  The law FnWidestKid: the walk.
-/
import Derived.Test.YtmdlhjngiadlpaaWid
import Derived.Test.YtmdlhjngiadlpaaInts
namespace Go.Proofs.Ytmdlhjngiadlpaa
open Go Go.RowKit

set_option maxRecDepth 100000 in
set_option maxHeartbeats 4000000 in
theorem FnWidestKid_any {v : Value} (w : World) (hv : RdBytes w v) :
    Calls Try.prog 7 #[v] w fun e w' => e = .returned (.bool true) ∧ Ext w w' := by
  have hv2 := hv
  obtain ⟨ad, n, c, rfl, hn, hc, _⟩ := hv
  unfold maxLen at hc
  by_cases hlen : 1048576 < n
  · have hlen' : (1048576 : Int) < n := by omega
    go_enter Try.func7, Try.ntmps7
    go_wp2
    go_ret
    exact ⟨rfl, Below.refl _ _⟩
  · have hlen' : ¬ ((1048576 : Int) < n) := by omega
    go_enter Try.func7, Try.ntmps7
    go_wp2_with (fail)
    refine (DrawWidestKid_any _ hv2).mono ?_
    rintro e w1 ⟨v1, i, rfl, l, hl, hi0, hi1, ho1, hb⟩
    have hrT := ho1.rd
    clear ho1 hv2
    go_wp2_with (fail)
    refine ((WidestKid_any (l := l) i _ hrT)).mono ?_
    rintro e w2 ⟨rfl, hx⟩
    replace hb := after hb hx (Nat.le_refl _)
    replace hrT := hrT.below hx (Nat.le_refl _)
    clear hx
    by_cases hw : 0 ≤ wkI l i
    · obtain ⟨a, k, rfl, hB, e, hk, hall⟩ := wkI_spec hw
      have ha : a < l.length := by have := (inB_iff.1 hB).2.2; omega
      have HB := Lib.hid hB
      have HE := Lib.hid e
      have HK := Lib.hid (mem_inB hB hk)
      have HM := Lib.hid hk
      have HA := Lib.hid hall
      have hz2 := n_sz (l := l) (i := (k : Int))
      have hKl : Hid (kidsL l (a : Int) = kid l (a : Int)) := by
        show _ = _
        unfold kidsL
        rw [if_pos hB]
      have hkl : (ni (kid l (a : Int))).length ≤ 16 := by
        have h1 := List.length_filter_le (fun k => decide (par l k = (a : Int))) (List.range l.length)
        rw [List.length_range] at h1
        rw [ni_length]
        unfold kid
        omega
      rw [e]
      clear hB e hall hw hk
      go_wp2_with (fail)
      refine ((sWidestKid_any (l := l) (a : Int) _ hrT (by omega))).mono ?_
      rintro e w3 ⟨he, hx⟩
      rw [HE.out] at he
      subst he
      replace hb := after hb hx (Nat.le_refl _)
      replace hrT := hrT.below hx (Nat.le_refl _)
      clear hx
      go_wp2_with (fail)
      refine ((NaturalSize_any (l := l) (k : Int) _ hrT)).mono ?_
      rintro e w4 ⟨rfl, hx⟩
      replace hb := after hb hx (Nat.le_refl _)
      replace hrT := hrT.below hx (Nat.le_refl _)
      clear hx
      rw [HK.out]
      go_wp2_with (fail)
      refine ((KidsOf_any (l := l) (a : Int) _ hrT)).mono ?_
      rintro e w5 ⟨v4, rfl, ho4, hx⟩
      replace hb := after hb hx (Nat.le_refl _)
      replace hrT := hrT.below hx (Nat.le_refl _)
      clear hx
      rw [hKl.out] at ho4
      have hrK := ho4.rd
      obtain ⟨a4, c4, rfl, hn4, hc4⟩ := hrK.len
      have hc4' : c4 ≤ maxLen := hc4
      unfold maxLen at hc4'
      clear ho4
      go_wp2
      go_loopw [10] (fun n wr => ∃ j : Nat, n = .int .i64 j ∧ j ≤ (ni (kid l (a : Int))).length ∧ Rd wr 1 (.slice a4 (ni (kid l (a : Int))).length c4) (Is (ni (kid l (a : Int)))) ∧ Rd wr 9 v1 (Bs l) ∧ Below w.heap.size w wr) (fun n _ => (ni (kid l (a : Int))).length - (intOf n).toNat)
      case atStart => exact ⟨0, rfl, Nat.zero_le _, hrK, hrT, hb⟩
      case round =>
        clear hrK hrT hb
        obtain ⟨j, rfl, hj, hrK, hrT, hb⟩ := hrel
        by_cases hlt : j < (ni (kid l (a : Int))).length
        · have hlti : (j : Int) < (ni (kid l (a : Int))).length := by omega
          obtain ⟨x, hx⟩ : ∃ x, (ni (kid l (a : Int)))[j]? = some x := ⟨_, List.getElem?_eq_getElem hlt⟩
          obtain ⟨m, hm, rfl⟩ := mem_ni.1 (List.mem_of_getElem? hx)
          obtain ⟨a4', c4', e4, _, _, hcell⟩ := hrK.ints
          cases e4
          obtain ⟨b4, off4, rfl, hcc⟩ := hcell j _ hx
          have ck := hcc j _ hx
          have HMB := Lib.hid (mem_inB HB.out hm)
          have hle := (HA.out m hm).1
          have H2 := Lib.hid (HA.out m hm).2
          clear hcell hcc hx hm
          go_wp2_with (fail)
          refine (NaturalSize_any (l := l) (m : Int) _ hrT).mono ?_
          rintro e w6 ⟨rfl, hx⟩
          rw [HMB.out]
          replace hb := after hb hx (Nat.le_refl _)
          replace hrT := hrT.below hx (Nat.le_refl _)
          replace hrK := hrK.below hx (Nat.le_refl _)
          replace ck : w6.cell? ⟨b4, off4 + j, none⟩ = some (.int .i64 (m : Int)) := by
            rw [hx.cell (World.block_lt_of_cell? _ _ ck)]
            exact ck
          clear hx
          have e1 : decide (nW l (k : Int) < nW l (m : Int)) = false := by simp; omega
          by_cases he : nW l (m : Int) = nW l (k : Int)
          · have e2 : (nW l (m : Int) == nW l (k : Int)) = true := by simp [he]
            have e3 : decide ((m : Int) < (k : Int)) = false := by
              have := H2.out
              simp
              omega
            have e4 : decide (m < k) = false := by
              have := H2.out
              simp
              omega
            have e5 : k ≤ m := by
              have := H2.out
              omega
            clear he hle
            go_wp2
            go_roundw
            case rel => exact ⟨j + 1, by go_num, by omega, hrK, hrT, hb⟩
            case measure => simp [intOf]; omega
          · have e2 : (nW l (m : Int) == nW l (k : Int)) = false := by simp [he]
            clear he hle
            go_wp2
            go_roundw
            case rel => exact ⟨j + 1, by go_num, by omega, hrK, hrT, hb⟩
            case measure => simp [intOf]; omega
        · obtain rfl : j = (ni (kid l (a : Int))).length := by omega
          have HIN : Hid (decide ((k : Int) ∈ ni (kid l (a : Int))) = true) := by
            show _ = _
            rw [decide_eq_true_eq]
            exact mem_ni.2 ⟨k, HM.out, rfl⟩
          go_wp2_with (fail)
          refine (isIn_any (l := ni (kid l (a : Int))) (k : Int) _ hrK).mono ?_
          rintro e w7 ⟨rfl, rfl⟩
          rw [HIN.out]
          go_wp2
          go_ret
          exact ⟨rfl, hb⟩
    · go_wp2_with (fail)
      refine ((sWidestKid_any (l := l) i _ hrT (by omega))).mono ?_
      rintro e w3 ⟨rfl, hx⟩
      replace hb := after hb hx (Nat.le_refl _)
      replace hrT := hrT.below hx (Nat.le_refl _)
      clear hx
      go_wp2_with (fail)
      refine ((sWidestKid_any (l := l) i _ hrT (by omega))).mono ?_
      rintro e w4 ⟨rfl, hx⟩
      replace hb := after hb hx (Nat.le_refl _)
      replace hrT := hrT.below hx (Nat.le_refl _)
      clear hx
      go_wp2
      go_ret
      exact ⟨by simp, hb⟩
end Go.Proofs.Ytmdlhjngiadlpaa
