/-
  The law FnRemoveBoxOrder: the walk.
-/
import Derived.Test.YtckggmbmlpikhaaLRem
namespace Go.Proofs.Ytckggmbmlpikhaa
open Go Go.RowKit

/-- a box behind another one in the same box lies behind all in it -/
theorem sib_far {l : List Bx} (hv : Valid l) {a b : Nat} (ha : 0 < a) (hal : a < l.length) (hb : b < l.length) (hp : par l b = par l a) (hab : a < b) : a + cntS l a ≤ b := by
  by_cases h : a + cntS l a ≤ b
  · exact h
  · exfalso
    have h1 := cntS_in (l := l) (a := a) (i := b) (by omega) (by omega)
    have h2 := arB_anc.1 h1
    obtain ⟨h3, h4⟩ := anc_par (hv.down hb) h2 (by omega)
    rw [hp] at h4
    have h5 := hv.par a ha hal
    have h6 := anc_le _ (hv.down (i := (par l a).toNat) (by omega)) _ h4
    omega

set_option maxRecDepth 100000 in
set_option maxHeartbeats 4000000 in
theorem FnRemoveBoxOrder_any {v : Value} (w : World) (hv : RdBytes w v) :
    Calls Try.prog 5 #[v] w fun e w' => e = .returned (.bool true) ∧ Ext w w' := by
  have hv2 := hv
  obtain ⟨ad, n, c, rfl, hn, hc, _⟩ := hv
  unfold maxLen at hc
  by_cases hlen : 1048576 < n
  · have hlen' : (1048576 : Int) < n := by omega
    go_enter Try.func5, Try.ntmps5
    go_wp2
    go_ret
    exact ⟨rfl, Below.refl _ _⟩
  · have hlen' : ¬ ((1048576 : Int) < n) := by omega
    go_enter Try.func5, Try.ntmps5
    go_wp2_with (fail)
    refine (DrawRemoveBox_any _ hv2).mono ?_
    rintro e w1 ⟨v1, i, rfl, l, hl, hi0, hi1, ho1, hb⟩
    have hrT := ho1.rd
    clear ho1 hv2
    go_wp2_with (fail)
    refine ((RemoveBox_any (l := l) i _ hrT)).mono ?_
    rintro e w2 ⟨v2, rfl, ho2, hx⟩
    replace hb := after hb hx (Nat.le_refl _)
    replace hrT := hrT.below hx (Nat.le_refl _)
    clear hx
    have hrO := ho2.rd
    clear ho2
    go_wp2_with (fail)
    refine ((sRemoveBox_any (l := l) i _ hrT (by omega))).mono ?_
    rintro e w3 ⟨v3, rfl, ho3, hx⟩
    replace hb := after hb hx (Nat.le_refl _)
    replace hrT := hrT.below hx (Nat.le_refl _)
    replace hrO := hrO.below hx (Nat.le_refl _)
    clear hx
    have hrW := ho3.rd
    clear ho3
    by_cases h : remB l i = true
    · obtain ⟨hval, h0, hil⟩ := remB_iff.1 h
      obtain ⟨i, rfl⟩ := Int.eq_ofNat_of_zero_le (Int.le_of_lt h0)
      have hin : i < l.length := by omega
      have hi00 : 0 < i := by omega
      rw [h, orNo_t, Int.toNat_natCast] at hrO hrW
      rw [h]
      have HVO := Lib.hid (rem_valid hval hin hi00)
      have hcl := cntS_le l i
      have hpos := cntS_pos hval hin
      have HL := Lib.hid (remL_length hin)
      have hlO1 : (remL l i).length + cntS l i ≤ l.length := Nat.le_of_eq HL.out
      have hlO2 : l.length ≤ (remL l i).length + cntS l i := Nat.le_of_eq HL.out.symm
      have HCN : Hid (cntI l (i : Int) = (cntS l i : Nat)) := by
        show _ = _
        unfold cntI
        rw [if_pos (inB_iff.2 ⟨hval, by omega, by omega⟩), Int.toNat_natCast]
      obtain ⟨hp0, hp1, _⟩ := hval.par i hi00 hin
      have HKL : Hid (kidsL l (par l i) = kid l (par l i)) := by
        show _ = _
        unfold kidsL
        rw [if_pos (inB_iff.2 ⟨hval, hp0, by omega⟩)]
      have HV := Lib.hid hval
      have hll := hval.hi
      obtain ⟨bT, offT, cT, rfl, hnT, hcT⟩ := rd_addr hin hrT
      clear hval h hp0 hp1
      go_wp2_with (fail)
      refine ((equalBoxes_any (l := remL l i) _ hrO hrW)).mono ?_
      rintro e w4 ⟨rfl, hx⟩
      replace hb := after hb hx (Nat.le_refl _)
      replace hrT := hrT.below hx (Nat.le_refl _)
      replace hrO := hrO.below hx (Nat.le_refl _)
      clear hx
      clear hrW
      have g0 : w4.cell? ⟨bT, offT + i * 9, none⟩ = some (.int .i64 (par l i)) := (cells_at hin hrT).c0
      go_wp2_with (fail)
      refine ((KidsOf_any (l := l) (par l i) _ hrT)).mono ?_
      rintro e w5 ⟨v5, rfl, ho5, hx⟩
      replace hb := after hb hx (Nat.le_refl _)
      replace hrT := hrT.below hx (Nat.le_refl _)
      replace hrO := hrO.below hx (Nat.le_refl _)
      clear hx
      rw [HKL.out] at ho5
      have hrK := ho5.rd
      clear ho5 g0
      obtain ⟨L, hL⟩ : ∃ L, L = ni (kid l (par l i)) := ⟨_, rfl⟩
      rw [← hL] at hrK
      have HLm : Hid (∀ j y, L[j]? = some y → ∃ k : Nat, y = (k : Int) ∧ (kid l (par l i))[j]? = some k) := fun j y hj => by
        rw [hL] at hj
        unfold ni at hj
        rw [List.getElem?_map] at hj
        obtain ⟨k, hk, rfl⟩ := Option.map_eq_some_iff.1 hj
        exact ⟨k, rfl, hk⟩
      have hL16 : L.length ≤ 16 := by
        rw [hL, ni_length]
        unfold kid
        have h1 := List.length_filter_le (fun k => decide (par l k = par l i)) (List.range l.length)
        rw [List.length_range] at h1
        omega
      obtain ⟨a4, c4, rfl, hn4, hc4⟩ := hrK.len
      have hc4' : c4 ≤ maxLen := hc4
      unfold maxLen at hc4'
      clear hL hc4
      go_wp2
      go_loopw [10] (fun n wr => ∃ j : Nat, n = .int .i64 j ∧ j ≤ L.length ∧ Rd wr 1 (.slice a4 L.length c4) (Is L) ∧ Rd wr 9 (.slice (some ⟨bT, offT, none⟩) l.length cT) (Bs l) ∧ Rd wr 9 v2 (Bs (remL l i)) ∧ Below w.heap.size w wr) (fun n _ => L.length - (intOf n).toNat)
      case atStart => exact ⟨0, rfl, Nat.zero_le _, hrK, hrT, hrO, hb⟩
      case round =>
        clear hrK hrT hrO hb
        obtain ⟨j, rfl, hj, hrK, hrT, hrO, hb⟩ := hrel
        by_cases hlt : j + 1 < L.length
        · have hlti : (j : Int) + 1 < L.length := by omega
          have hlt0 : (j : Int) < L.length := by omega
          obtain ⟨y, hy⟩ : ∃ y, L[j]? = some y := ⟨_, List.getElem?_eq_getElem (by omega)⟩
          obtain ⟨z, hz⟩ : ∃ z, L[j + 1]? = some z := ⟨_, List.getElem?_eq_getElem hlt⟩
          obtain ⟨m, rfl, hm⟩ := HLm.out j y hy
          obtain ⟨q, rfl, hq⟩ := HLm.out (j + 1) z hz
          obtain ⟨a4', c4', e4, _, _, hcell⟩ := hrK.ints
          cases e4
          obtain ⟨b4, off4, rfl, hcc⟩ := hcell j _ hy
          have ck := hcc j _ hy
          have ck2 := hcc (j + 1) _ hz
          have ck3 := ck2
          rw [← Nat.add_assoc] at ck3
          clear hcell hcc hy hz
          by_cases hmi : m = i
          · subst hmi
            have hmq := (kid_sorted hm hq).1 (Nat.lt_succ_self j)
            have hqm := mem_kid_iff.1 (List.mem_of_getElem? hq)
            have hfar := sib_far HV.out hi00 hin hqm.1 hqm.2 hmq
            have hq0 : 0 < q := by omega
            have hqc := cntS_le l q
            have hqp := cntS_pos HV.out hqm.1
            have HLQ := Lib.hid (remL_length hqm.1)
            have hlq1 : (remL l q).length + cntS l q ≤ l.length := Nat.le_of_eq HLQ.out
            have hlq2 : l.length ≤ (remL l q).length + cntS l q := Nat.le_of_eq HLQ.out.symm
            have HVQ := Lib.hid (rem_valid HV.out hqm.1 hq0)
            have H1 : Hid (remB (remL l m) ((q - cntS l m : Nat) : Int) = true) := remB_iff.2 ⟨HVO.out, by omega, by omega⟩
            have H2 : Hid (remB l (q : Int) = true) := remB_iff.2 ⟨HV.out, by omega, by omega⟩
            have H3 : Hid (remB (remL l q) (m : Int) = true) := remB_iff.2 ⟨HVQ.out, by omega, by omega⟩
            have HRR : Hid (remL (remL l m) (q - cntS l m) = remL (remL l q) m) := rem_rem HV.out hi00 hfar hqm.1
            have hsub : IntKind.i64.wrap ((q : Int) - (cntS l m : Nat)) = ((q - cntS l m : Nat) : Int) := by rw [IntKind.wrap_i64]; omega
            have hsub2 : (q : Int) - (cntS l m : Nat) = ((q - cntS l m : Nat) : Int) := by omega
            have HS2 := Lib.hid hsub2
            clear hqm hm hq hsub2
            go_wp2_with (fail)
            refine (CountIn_any (l := l) (m : Int) _ hrT).mono ?_
            rintro e w6 ⟨rfl, hx⟩
            rw [HCN.out]
            replace hb := after hb hx (Nat.le_refl _)
            replace hrT := hrT.below hx (Nat.le_refl _)
            replace hrO := hrO.below hx (Nat.le_refl _)
            clear hx ck ck2 ck3 hrK
            go_wp2_with (fail)
            try rw [HS2.out]
            refine (RemoveBox_any (l := remL l m) ((q - cntS l m : Nat) : Int) _ hrO).mono ?_
            rintro e w7 ⟨v7, rfl, ho7, hx⟩
            rw [H1.out, orNo_t, Int.toNat_natCast] at ho7
            rw [H1.out]
            have hrA := ho7.rd
            replace hb := after hb hx (Nat.le_refl _)
            replace hrT := hrT.below hx (Nat.le_refl _)
            clear hx ho7 hrO hsub
            go_wp2_with (fail)
            refine ((RemoveBox_any (l := l) (q : Int) _ hrT)).mono ?_
            rintro e w8 ⟨v8, rfl, ho8, hx⟩
            replace hb := after hb hx (Nat.le_refl _)
            replace hrT := hrT.below hx (Nat.le_refl _)
            replace hrA := hrA.below hx (Nat.le_refl _)
            clear hx
            rw [H2.out, orNo_t, Int.toNat_natCast] at ho8
            rw [H2.out]
            have hrB := ho8.rd
            clear ho8
            go_wp2_with (fail)
            refine ((RemoveBox_any (l := remL l q) (m : Int) _ hrB)).mono ?_
            rintro e w9 ⟨v9, rfl, ho9, hx⟩
            replace hb := after hb hx (Nat.le_refl _)
            replace hrA := hrA.below hx (Nat.le_refl _)
            clear hx
            rw [H3.out, orNo_t, Int.toNat_natCast, ← HRR.out] at ho9
            rw [H3.out]
            have hrC := ho9.rd
            clear ho9
            go_wp2_with (fail)
            refine ((equalBoxes_any (l := remL (remL l m) (q - cntS l m)) _ hrA hrC)).mono ?_
            rintro e w10 ⟨rfl, hx⟩
            replace hb := after hb hx (Nat.le_refl _)
            clear hx
            go_wp2
            go_ret
            exact ⟨rfl, hb⟩
          · have hne : ((m : Int) != (i : Int)) = true := by rw [bne_iff_ne]; omega
            have hne2 : (m != i) = true := by simp [hmi]
            have hne3 : (m == i) = false := by simp [hmi]
            have hne4 : ((m : Int) == (i : Int)) = false := beq_eq_false_iff_ne.2 (by omega)
            clear hm hq hmi
            go_wp2
            go_roundw
            case rel => exact ⟨j + 1, by go_num, by omega, hrK, hrT, hrO, hb⟩
            case measure => simp [intOf]; omega
        · have hlti : (L.length : Int) ≤ (j : Int) + 1 := by omega
          go_wp2
          go_ret
          exact ⟨rfl, hb⟩
    · have h' : remB l i = false := by simpa using h
      rw [h', orNo_f] at hrO hrW
      rw [h']
      clear h
      go_wp2_with (fail)
      refine ((equalBoxes_any (l := []) _ hrO hrW)).mono ?_
      rintro e w4 ⟨rfl, hx⟩
      replace hb := after hb hx (Nat.le_refl _)
      replace hrO := hrO.below hx (Nat.le_refl _)
      replace hrW := hrW.below hx (Nat.le_refl _)
      clear hx
      go_wp2_with (fail)
      refine ((equalBoxes_any (l := []) _ hrO hrW)).mono ?_
      rintro e w5 ⟨rfl, hx⟩
      replace hb := after hb hx (Nat.le_refl _)
      replace hrO := hrO.below hx (Nat.le_refl _)
      replace hrW := hrW.below hx (Nat.le_refl _)
      clear hx
      go_wp2
      go_ret
      exact ⟨rfl, hb⟩
end Go.Proofs.Ytckggmbmlpikhaa
