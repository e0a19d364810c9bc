/-
  The law FnExactParseTree: the walk.
-/
import Derived.Test.YtdlggpphfkjidaaGreatDoorIPt
import Derived.Test.YtdlggpphfkjidaaGreatDoorEp
namespace Go.Proofs.YtdlggpphfkjidaaGreatDoor
open Go Go.RowKit

theorem parse_len (s : List UInt8) : (listT (parseT s)).length ≤ 16 := by
  cases h : parseT s with
  | none => exact Nat.zero_le _
  | some l => exact (vldB_iff.1 (parse_text h).2).hi
set_option maxRecDepth 100000 in
set_option maxHeartbeats 1600000 in
theorem FnExactParseTree_any (s : List UInt8) (w : World) (hsm : s.length ≤ maxLen) (hlaid : LaidP w) :
    Calls Tryz.prog 4 #[.string ⟨s.toArray⟩] w fun e w' => e = .returned (.bool true) ∧ Ext w w' := by
  have HLD : Hid (LaidP w) := hlaid
  clear hlaid
  unfold maxLen at hsm
  have hsz : (⟨s.toArray⟩ : ByteArray).size = s.length := rfl
  by_cases hlen : s.length ≤ 1048576
  · have hlen' : ¬ ((1048576 : Int) < s.length) := by omega
    have hP := parse_len s
    have HPT := Lib.hid (fun W hl => ParseTree_any s W (by omega) hl)
    have HSP := Lib.hid (fun W => sParseTree_any s W (by omega))
    generalize listT (parseT s) = P at *
    generalize resT (parseT s) = bv at *
    have hPL : P.length ≤ 1048577 := by omega
    go_enter Tryz.func4, Tryz.ntmps4
    go_wp2_with (fail)
    refine (HSP.out _).mono ?_
    rintro e w1 ⟨vW, rfl, hoW, hb⟩
    have hrW := hoW.rd
    have hs1 := hb.size
    clear hoW HSP
    go_wp2_with (fail)
    refine (HPT.out _ (HLD.out.below hb)).mono ?_
    rintro e w2 ⟨vG, rfl, hoG, hb3⟩
    go_wp2_with (fail)
    refine (eqBoxS_any (l := P) _ hoG.rd (hrW.below hb3 (Nat.le_refl _)) hPL).mono ?_
    rintro e w3 ⟨rfl, hx⟩
    replace hoG := hoG.below hx (Nat.le_refl _)
    replace hb3 := after hb3 hx (Nat.le_refl _)
    clear hx
    go_wp2_with (fail)
    refine (markBoxS_any (l := P) 1 _ hoG hPL (Nat.le_refl _)).mono ?_
    rintro e w4 ⟨rfl, hoG2, hb4, _⟩
    replace hb3 := hb3.trans hb4
    clear hb4 hoG
    have hkm : ((1 + 9 * P.length : Nat) : Int) ≥ 0 := by omega
    go_wp2_with (fail)
    refine (heldBoxS_any (l := P) 1 _ hoG2.rd hPL (Nat.le_refl _)).mono ?_
    rintro e w5 ⟨rfl, rfl⟩
    go_wp2_with (fail)
    refine (HPT.out _ (HLD.out.below (hb.trans (hb3.mono hs1)))).mono ?_
    rintro e w6 ⟨vH, rfl, hoH, hx⟩
    replace hoG2 := hoG2.below hx (Nat.le_refl _)
    replace hb3 := after hb3 hx (Nat.le_refl _)
    clear hx HPT
    go_wp2_with (fail)
    refine (eqBoxS_any (l := P) _ hoH.rd (hrW.below hb3 (Nat.le_refl _)) hPL).mono ?_
    rintro e w7 ⟨rfl, hx⟩
    replace hoG2 := hoG2.below hx (Nat.le_refl _)
    replace hb3 := after hb3 hx (Nat.le_refl _)
    clear hx hoH
    go_wp2_with (fail)
    refine (heldBoxS_any (l := P) 1 _ hoG2.rd hPL (Nat.le_refl _)).mono ?_
    rintro e w8 ⟨rfl, rfl⟩
    have hbF := hb.trans (hb3.mono hs1)
    go_wp2
    go_ret
    exact ⟨rfl, hbF⟩
  · have hlen' : (1048576 : Int) < s.length := by omega
    go_enter Tryz.func4, Tryz.ntmps4
    go_wp2
    go_ret
    exact ⟨rfl, Below.refl _ _⟩
end Go.Proofs.YtdlggpphfkjidaaGreatDoor
