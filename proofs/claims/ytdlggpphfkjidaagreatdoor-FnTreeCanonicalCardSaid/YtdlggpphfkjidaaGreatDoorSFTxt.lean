/-
  The text of a tree: spec.FormatTree; what is drawn for the laws over texts.
-/
import Derived.Test.YtdlggpphfkjidaaGreatDoorSTxt
import Derived.Test.YtdlggpphfkjidaaGreatDoorFTxt
import Derived.Test.YtdlggpphfkjidaaGreatDoorAny
namespace Go.Proofs.YtdlggpphfkjidaaGreatDoor
open Go Go.RowKit

set_option maxRecDepth 100000 in
set_option maxHeartbeats 1600000 in
theorem sFormatTree_any {v : Value} {l : List Bx} (w : World) (hv : Rd w 9 v (Bs l)) (hl : l.length ≤ 1048576) :
    Calls Tryz.prog 8 #[v] w fun e w' => e = .returned (sv (fmtT l)) ∧ Ext w w' := by
  have hrd := hv
  obtain ⟨a, c, rfl, hn, hc, _⟩ := hv.boxes
  unfold maxLen at hc
  clear hv
  go_enter Tryz.func8, Tryz.ntmps8
  cases hok : vldB l with
  | false =>
    have HO := Lib.hid (fmtT_f hok)
    go_wp2_with (fail)
    refine (validTree_any (l := l) _ hrd (by omega)).mono ?_
    rintro e w1 ⟨he, hx⟩
    rw [hok] at he
    subst he
    clear hok hrd
    go_wp2
    go_ret
    exact ⟨by rw [HO.out]; rfl, hx⟩
  | true =>
    have HO := Lib.hid (fmtT_t hok)
    go_wp2_with (fail)
    refine (validTree_any (l := l) _ hrd (by omega)).mono ?_
    rintro e w1 ⟨he, hx⟩
    rw [hok] at he
    subst he
    replace hrd := hrd.below hx (Nat.le_refl _)
    have hval := vldB_iff.1 hok
    have hlo := hval.lo
    have hhi := hval.hi
    have HV := Lib.hid hval
    obtain ⟨a', c', e', _, _, hX⟩ := hrd.boxes
    cases e'
    obtain ⟨bT, oT, rfl, hbT, _⟩ := hX 0 _ (bx_get (by omega))
    have HX1 := Lib.hid hx
    have HR := Lib.hid hrd
    clear hok hval hX hx hrd
    go_wp2
    go_loopw [3, 4] (fun o i wr => ∃ k : Nat, i = .int .i64 k ∧ k ≤ l.length ∧ o = .string ⟨(textTo l k).toArray⟩ ∧ Below w1.heap.size w1 wr) (fun _ i _ => l.length - (intOf i).toNat)
    case atStart => exact ⟨0, rfl, Nat.zero_le _, rfl, Below.refl _ _⟩
    case round =>
      obtain ⟨k, rfl, hk, rfl, hb⟩ := hrel
      by_cases hlt : k < l.length
      · have hki : (k : Int) < l.length := by omega
        have hR := HR.out.below hb (Nat.le_refl _)
        have hokb := HV.out.ok k hlt
        have hdep := HV.out.depth k hlt
        have hdn := HV.out.down hlt
        have hbl := box_len hokb
        have htl := text_len HV.out k (by omega)
        have hdl : dep l k ≤ 6 := by unfold dep; omega
        have HBX := Lib.hid (fun w => sboxText_any (b := bx l k) w hokb)
        have HDP := Lib.hid (fun (w : World) (h : Rd w 9 (.slice (some ⟨bT, oT, none⟩) l.length c) (Bs l)) => depth_any (l := l) (i := (k : Int)) w (by omega) hki h (by rw [Int.toNat_natCast]; exact hdn) (by omega))
        rw [Int.toNat_natCast] at HDP
        by_cases h0 : k = 0
        · have h0' : ¬ (0 : Int) < (k : Int) := by omega
          have HPN : Hid (textTo l (k + 1) = textTo l k ++ lineT l k) := by
            show _ = _
            rw [h0]
            rfl
          have hPl : (textTo l k).length ≤ 30000 := by omega
          clear h0 htl
          go_wp2_with (fail)
          refine (HDP.out _ hR).mono ?_
          rintro e wq ⟨rfl, rfl⟩
          generalize textTo l k = P at *
          go_wp2
          go_loop [3, 5] (fun o j => ∃ (q r : Nat) (Y : List UInt8), q + r = dep l k ∧ j = .int .i64 (r : Int) ∧ o = .string ⟨Y.toArray⟩ ∧ Hid (Y = P ++ List.replicate q 45)) (fun _ j => (intOf j).toNat)
          case atStart => exact ⟨0, dep l k, P, by omega, rfl, rfl, by show _ = _; simp⟩
          case round =>
            obtain ⟨q, r, Y, hqr, rfl, rfl, HY⟩ := hrel
            have hyl : Y.length = P.length + q := by rw [HY.out]; simp
            by_cases hr : r = 0
            · have hrz : ¬ (0 : Int) < (r : Int) := by omega
              have HE2 : Hid ((⟨Y.toArray⟩ ++ ⟨(boxT (bx l k)).toArray⟩ : ByteArray) = ⟨(textTo l (k + 1)).toArray⟩) := by
                show _ = _
                rw [ba_append, HPN.out, HY.out, show q = dep l k by omega, List.append_assoc]
                rfl
              have hs2 : ¬ 9223372036854775807 < Y.length + (boxT (bx l k)).length := by omega
              obtain ⟨d0, d1, d2, d3, d4, d5, d6, d7, d8⟩ := cells_at hlt hR
              unfold Bx.agg at HBX
              clear hr hyl HY
              go_wp2_with (fail)
              refine (HBX.out _).mono ?_
              rintro e w7 ⟨rfl, hx⟩
              unfold sv
              have hb7 := after hb hx (Nat.le_refl _)
              clear hx d0 d1 d2 d3 d4 d5 d6 d7 d8 hR hb
              go_wp2
              go_roundw
              case rel => exact ⟨k + 1, by go_num, by omega, by rw [HE2.out], hb7⟩
              case measure => simp [intOf]; omega
            · have hrp : (0 : Int) < (r : Int) := by omega
              have hs1 : ¬ 9223372036854775807 < Y.length + 1 := by omega
              have HE1 : Hid ((⟨Y.toArray⟩ ++ ⟨#[45]⟩ : ByteArray) = ⟨(Y ++ [45]).toArray⟩) := by
                show _ = _
                rw [show (⟨#[45]⟩ : ByteArray) = ⟨[45].toArray⟩ from rfl, ba_append]
              have HY1 : Hid (Y ++ [45] = P ++ List.replicate (q + 1) 45) := by
                show _ = _
                rw [HY.out, List.replicate_succ', List.append_assoc]
              clear hyl HY
              go_wp2
              go_round
              case rel => exact ⟨q + 1, r - 1, Y ++ [45], by omega, by first | go_num | (congr 1; omega), by rw [HE1.out], HY1⟩
              case measure => first | (simp [intOf]; done) | (simp [intOf]; omega)
        · have h0' : (0 : Int) < (k : Int) := by omega
          have HE : Hid ((⟨(textTo l k).toArray⟩ ++ ⟨#[10]⟩ : ByteArray) = ⟨(textTo l k ++ [10]).toArray⟩) := by
            show _ = _
            rw [show (⟨#[10]⟩ : ByteArray) = ⟨[10].toArray⟩ from rfl, ba_append]
          have HPN : Hid (textTo l (k + 1) = (textTo l k ++ [10]) ++ lineT l k) := by
            show _ = _
            rw [textTo_succ l (by omega), List.append_assoc]
            rfl
          have hPl : (textTo l k ++ [10]).length ≤ 30000 := by rw [List.length_append, List.length_singleton]; omega
          have hs0 : ¬ 9223372036854775807 < (textTo l k).length + 1 := by omega
          clear h0 htl
          go_wp2_with (fail)
          refine (HDP.out _ hR).mono ?_
          rintro e wq ⟨rfl, rfl⟩
          rw [HE.out]
          generalize textTo l k ++ [10] = P at *
          clear HE hs0
          go_wp2
          go_loop [3, 5] (fun o j => ∃ (q r : Nat) (Y : List UInt8), q + r = dep l k ∧ j = .int .i64 (r : Int) ∧ o = .string ⟨Y.toArray⟩ ∧ Hid (Y = P ++ List.replicate q 45)) (fun _ j => (intOf j).toNat)
          case atStart => exact ⟨0, dep l k, P, by omega, rfl, rfl, by show _ = _; simp⟩
          case round =>
            obtain ⟨q, r, Y, hqr, rfl, rfl, HY⟩ := hrel
            have hyl : Y.length = P.length + q := by rw [HY.out]; simp
            by_cases hr : r = 0
            · have hrz : ¬ (0 : Int) < (r : Int) := by omega
              have HE2 : Hid ((⟨Y.toArray⟩ ++ ⟨(boxT (bx l k)).toArray⟩ : ByteArray) = ⟨(textTo l (k + 1)).toArray⟩) := by
                show _ = _
                rw [ba_append, HPN.out, HY.out, show q = dep l k by omega, List.append_assoc]
                rfl
              have hs2 : ¬ 9223372036854775807 < Y.length + (boxT (bx l k)).length := by omega
              obtain ⟨d0, d1, d2, d3, d4, d5, d6, d7, d8⟩ := cells_at hlt hR
              unfold Bx.agg at HBX
              clear hr hyl HY
              go_wp2_with (fail)
              refine (HBX.out _).mono ?_
              rintro e w7 ⟨rfl, hx⟩
              unfold sv
              have hb7 := after hb hx (Nat.le_refl _)
              clear hx d0 d1 d2 d3 d4 d5 d6 d7 d8 hR hb
              go_wp2
              go_roundw
              case rel => exact ⟨k + 1, by go_num, by omega, by rw [HE2.out], hb7⟩
              case measure => simp [intOf]; omega
            · have hrp : (0 : Int) < (r : Int) := by omega
              have hs1 : ¬ 9223372036854775807 < Y.length + 1 := by omega
              have HE1 : Hid ((⟨Y.toArray⟩ ++ ⟨#[45]⟩ : ByteArray) = ⟨(Y ++ [45]).toArray⟩) := by
                show _ = _
                rw [show (⟨#[45]⟩ : ByteArray) = ⟨[45].toArray⟩ from rfl, ba_append]
              have HY1 : Hid (Y ++ [45] = P ++ List.replicate (q + 1) 45) := by
                show _ = _
                rw [HY.out, List.replicate_succ', List.append_assoc]
              clear hyl HY
              go_wp2
              go_round
              case rel => exact ⟨q + 1, r - 1, Y ++ [45], by omega, by first | go_num | (congr 1; omega), by rw [HE1.out], HY1⟩
              case measure => first | (simp [intOf]; done) | (simp [intOf]; omega)
      · obtain rfl : k = l.length := by omega
        rw [show textTo l l.length = fmtT l from HO.out.symm]
        go_wp2
        go_ret
        exact ⟨rfl, HX1.out.trans (hb.mono HX1.out.size)⟩
set_option maxHeartbeats 1000000 in
theorem DrawFormatTree_any {v : Value} (w : World) (hv : RdBytes w v) :
    Calls Tryz.prog 6 #[v] w fun e w' => ∃ v', e = .returned v' ∧ ∃ l : List Bx, l.length ≤ 16 ∧ Own w' w.heap.size 9 v' (Bs l) ∧ Ext w w' := by
  go_enter Tryz.func6, Tryz.ntmps6
  go_wp2_with (fail)
  refine (newReader_any _ hv).mono ?_
  rintro e w1 ⟨rfl, hr1, hx1⟩
  go_wp2_with (fail)
  refine (anyTree_any _ hr1 (by omega)).mono ?_
  rintro e w2 ⟨v2, rfl, l, hl, ho2, hr2, hx2⟩
  have hb2 := below_of_bel (afterR (bel_of hx1) hx2 (Nat.le_refl _)) (Nat.le_refl _)
  have hs1 := hx1.size
  clear hr1 hx1 hx2
  go_wp2
  go_ret
  exact ⟨_, rfl, l, hl, ho2.weak hs1, hb2⟩
end Go.Proofs.YtdlggpphfkjidaaGreatDoor
