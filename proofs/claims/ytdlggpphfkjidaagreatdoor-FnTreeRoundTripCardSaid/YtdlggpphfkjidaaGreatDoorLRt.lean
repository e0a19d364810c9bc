/-
  The laws over trees that are read back: FnTreeRoundTrip, FnTreeCanonical: the walks.
-/
import Derived.Test.YtdlggpphfkjidaaGreatDoorLTxt
import Derived.Test.YtdlggpphfkjidaaGreatDoorIPt
import Derived.Test.YtdlggpphfkjidaaGreatDoorEq
namespace Go.Proofs.YtdlggpphfkjidaaGreatDoor
open Go Go.RowKit

set_option maxRecDepth 100000 in
set_option maxHeartbeats 1600000 in
theorem FnTreeRoundTrip_any {v : Value} (w : World) (hv : RdBytes w v) (hlaid : LaidP w) :
    Calls Tryz.prog 3 #[v] w fun e w' => e = .returned (.bool true) ∧ Ext w w' := by
  have HLD : Hid (LaidP w) := hlaid
  have ht := hlaid.1
  clear hlaid
  have hv2 := hv
  obtain ⟨ad, n, c, rfl, hn, hc, _⟩ := hv
  unfold maxLen at hc
  by_cases hlen : 1048576 < n
  · have hlen' : (1048576 : Int) < n := by omega
    go_enter Tryz.func3, Tryz.ntmps3
    go_wp2
    go_ret
    exact ⟨rfl, Below.refl _ _⟩
  · have hlen' : ¬ ((1048576 : Int) < n) := by omega
    go_enter Tryz.func3, Tryz.ntmps3
    go_wp2_with (fail)
    refine (DrawFormatTree_any _ hv2).mono ?_
    rintro e w1 ⟨v1, rfl, l, hl, ho1, hb⟩
    have hrT := ho1.rd
    replace ht := ht.below hb (Nat.le_refl _)
    clear ho1 hv2
    go_wp2_with (fail)
    refine ((FormatTree_any (l := l) _ hrT ht)).mono ?_
    rintro e w2 ⟨rfl, hx⟩
    replace hb := after hb hx (Nat.le_refl _)
    replace hrT := hrT.below hx (Nat.le_refl _)
    clear hx
    unfold sv
    go_wp2_with (fail)
    refine ((sFormatTree_any (l := l) _ hrT (by omega))).mono ?_
    rintro e w3 ⟨rfl, hx⟩
    replace hb := after hb hx (Nat.le_refl _)
    replace hrT := hrT.below hx (Nat.le_refl _)
    clear hx
    unfold sv
    by_cases hE : fmtT l = []
    · have HF := Lib.hid (fun W (h : Rd W 9 v1 (Bs l)) => sFormatTree_any (l := l) W h (by omega))
      rw [hE] at HF ⊢
      clear hE HLD
      go_wp2_with (fail)
      refine ((HF.out _ hrT)).mono ?_
      rintro e w4 ⟨rfl, hx⟩
      replace hb := after hb hx (Nat.le_refl _)
      clear hx
      unfold sv
      go_wp2
      go_ret
      exact ⟨by first | rfl | (simp; done), hb⟩
    · obtain ⟨hval, m, hm, hS⟩ := fmt_ne hE
      have htl := text_len hval (m + 1) (by omega)
      have hhi := hval.hi
      rw [← hS] at htl
      have hvb : vldB l = true := vldB_iff.2 hval
      have HP : Hid (parseT (fmtT l) = some l) := by
        show _ = _
        rw [fmtT_t hvb]
        exact parse_tree hval hvb
      have hSl : (fmtT l).length ≤ 30000 := by omega
      clear hval hm hS ht htl hvb
      have hemp : (fmtT l).isEmpty = false := by simpa using hE
      generalize fmtT l = S at *
      clear hE
      have HPT := Lib.hid (fun W hl => ParseTree_any S W (by omega) hl)
      rw [HP.out] at HPT
      clear HP
      go_wp2_with (fail)
      refine ((HPT.out _ (HLD.out.below hb))).mono ?_
      rintro e w4 ⟨v4, rfl, ho4, hx⟩
      replace hb := after hb hx (Nat.le_refl _)
      replace hrT := hrT.below hx (Nat.le_refl _)
      clear hx
      have hr4 : Rd w4 9 v4 (Bs l) := ho4.rd
      rw [show resT (some l) = true from rfl]
      clear ho4 HPT
      go_wp2_with (fail)
      refine ((equalBoxes_any _ hr4 hrT)).mono ?_
      rintro e w5 ⟨rfl, hx⟩
      replace hb := after hb hx (Nat.le_refl _)
      clear hx
      go_wp2
      go_ret
      exact ⟨by first | rfl | (simp; done), hb⟩
end Go.Proofs.YtdlggpphfkjidaaGreatDoor
