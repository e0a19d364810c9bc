/-
  The law FnTreeCanonical: the walk.
-/
import Derived.Test.YtdlggpphfkjidaaGreatDoorSMut
import Derived.Test.YtdlggpphfkjidaaGreatDoorIPt
import Derived.Test.YtdlggpphfkjidaaGreatDoorEq
namespace Go.Proofs.YtdlggpphfkjidaaGreatDoor
open Go Go.RowKit

set_option maxRecDepth 100000 in
set_option maxHeartbeats 1600000 in
theorem FnTreeCanonical_any {v : Value} (w : World) (hv : RdBytes w v) (hlaid : LaidP w) :
    Calls Tryz.prog 5 #[v] w fun e w' => e = .returned (.bool true) ∧ Ext w w' := by
  have HLD : Hid (LaidP w) := hlaid
  clear hlaid
  have hv2 := hv
  obtain ⟨ad, n, c, rfl, hn, hc, _⟩ := hv
  unfold maxLen at hc
  by_cases hlen : 1048576 < n
  · have hlen' : (1048576 : Int) < n := by omega
    go_enter Tryz.func5, Tryz.ntmps5
    go_wp2
    go_ret
    exact ⟨rfl, Below.refl _ _⟩
  · have hlen' : ¬ ((1048576 : Int) < n) := by omega
    go_enter Tryz.func5, Tryz.ntmps5
    go_wp2_with (fail)
    refine (DrawParseTree_any _ hv2).mono ?_
    rintro e w1 ⟨S, rfl, hS, hb⟩
    unfold sv
    clear hv2
    have HPT := Lib.hid (fun W hl => ParseTree_any S W (by omega) hl)
    have HSP := Lib.hid (fun W => sParseTree_any S W (by omega))
    have HTX := Lib.hid (fun out => parse_text (s := S) (out := out))
    generalize parseT S = q at *
    go_wp2_with (fail)
    refine ((HPT.out _ (HLD.out.below hb))).mono ?_
    rintro e w4 ⟨v4, rfl, ho4, hx⟩
    replace hb := after hb hx (Nat.le_refl _)
    clear hx
    have hr4 := ho4.rd
    clear ho4 HPT
    go_wp2_with (fail)
    refine ((HSP.out _)).mono ?_
    rintro e w5 ⟨v5, rfl, ho5, hx⟩
    replace hb := after hb hx (Nat.le_refl _)
    replace hr4 := hr4.below hx (Nat.le_refl _)
    clear hx
    have hr5 := ho5.rd
    clear ho5 HSP
    cases q with
    | none =>
      go_wp2_with (fail)
      refine ((equalBoxes_any _ hr4 hr5)).mono ?_
      rintro e w6 ⟨rfl, hx⟩
      replace hb := after hb hx (Nat.le_refl _)
      clear hx
      unfold resT
      go_wp2
      go_ret
      exact ⟨by first | rfl | (simp; done), hb⟩
    | some l =>
      obtain ⟨htx, hvl⟩ := HTX.out l rfl
      replace hr4 : Rd w5 9 v4 (Bs l) := hr4
      replace hr5 : Rd w5 9 v5 (Bs l) := hr5
      have HF : Hid (fmtT l = S) := (fmtT_t hvl).trans htx
      unfold resT
      clear htx
      go_wp2_with (fail)
      refine ((equalBoxes_any _ hr4 hr5)).mono ?_
      rintro e w6 ⟨rfl, hx⟩
      replace hb := after hb hx (Nat.le_refl _)
      replace hr4 := hr4.below hx (Nat.le_refl _)
      clear hx
      go_wp2_with (fail)
      refine ((FormatTree_any (l := l) _ hr4 (HLD.out.below hb).1)).mono ?_
      rintro e w7 ⟨rfl, hx⟩
      replace hb := after hb hx (Nat.le_refl _)
      replace hr4 := hr4.below hx (Nat.le_refl _)
      clear hx
      rw [HF.out]
      unfold sv
      go_wp2_with (fail)
      refine ((ValidTree_any (l := l) _ hr4)).mono ?_
      rintro e w8 ⟨he, hx⟩
      rw [hvl] at he
      subst he
      replace hb := after hb hx (Nat.le_refl _)
      clear hx
      go_wp2
      go_ret
      exact ⟨by first | rfl | (simp; done), hb⟩
end Go.Proofs.YtdlggpphfkjidaaGreatDoor
