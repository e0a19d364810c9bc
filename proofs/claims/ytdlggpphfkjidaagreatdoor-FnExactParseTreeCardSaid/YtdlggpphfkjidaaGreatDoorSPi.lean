/-
  Reading texts back, of the reference: parseInt.
-/
import Derived.Test.YtdlggpphfkjidaaGreatDoorSPrs
import Derived.Test.YtdlggpphfkjidaaGreatDoorPw
namespace Go.Proofs.YtdlggpphfkjidaaGreatDoor
open Go Go.RowKit

theorem all_take {s : List UInt8} {k : Nat} {c : UInt8} (h : s[k]? = some c) (ha : (s.take k).all digB = true) (hc : digB c = true) : (s.take (k + 1)).all digB = true := by
  rw [take_snoc h, List.all_append, ha]
  simp [hc]
theorem all_no {s : List UInt8} {k : Nat} {c : UInt8} (h : s[k]? = some c) (hc : digB c = false) : prI s = -1 := by
  have : ¬ s.all digB = true := fun e => by
    rw [List.all_eq_true] at e
    have := e c (List.mem_of_getElem? h)
    rw [hc] at this
    cases this
  unfold prI
  rw [if_neg this]
  split <;> rfl
theorem inR_dig (c : UInt8) : inR (c.toNat : Int) 48 57 = digB c := by
  unfold inR digB
  rw [Bool.eq_iff_iff]
  simp only [Bool.and_eq_true, decide_eq_true_eq]
  omega
set_option maxRecDepth 100000 in
set_option maxHeartbeats 1000000 in
theorem sparseInt_any (s : List UInt8) (w : World) (hs : s.length ≤ 10000000) :
    Calls Tryz.prog 66 #[sv s] w fun e w' => e = .returned (.int .i64 (prI s)) ∧ Ext w w' := by
  unfold sv
  by_cases h0 : s.length = 0
  · have HP : Hid (prI s = -1) := by
      show _ = _
      unfold prI
      rw [if_pos (.inl h0)]
    have hz : ((s.length : Int) == 0) = true := by simp [h0]
    have hz5 : ¬ (5 : Int) < s.length := by omega
    go_enter Tryz.func66, Tryz.ntmps66
    go_wp2
    go_ret
    exact ⟨by rw [HP.out]; rfl, Below.refl _ _⟩
  have hz : ((s.length : Int) == 0) = false := beq_eq_false_iff_ne.2 (by omega)
  by_cases h5 : 5 < s.length
  · have HP : Hid (prI s = -1) := by
      show _ = _
      unfold prI
      rw [if_pos (.inr h5)]
    have hz5 : (5 : Int) < s.length := by omega
    go_enter Tryz.func66, Tryz.ntmps66
    go_wp2
    go_ret
    exact ⟨by rw [HP.out]; rfl, Below.refl _ _⟩
  have hz5 : ¬ (5 : Int) < s.length := by omega
  go_enter Tryz.func66, Tryz.ntmps66
  go_wp2
  go_loopw [3, 4] (fun n i wr => ∃ k : Nat, i = .int .i64 k ∧ k ≤ s.length ∧ n = .int .i64 (decVal (s.take k) : Nat) ∧ (s.take k).all digB = true ∧ Below w.heap.size w wr) (fun _ i _ => s.length - (intOf i).toNat)
  case atStart => exact ⟨0, rfl, Nat.zero_le _, rfl, rfl, Below.refl _ _⟩
  case round =>
    obtain ⟨k, rfl, hk, rfl, ha, hb⟩ := hrel
    by_cases hlt : k < s.length
    · have hki : (k : Int) < s.length := by omega
      obtain ⟨d, hd⟩ : ∃ d, s[k]? = some d := ⟨_, List.getElem?_eq_getElem hlt⟩
      have hz0 : k < (⟨s.toArray⟩ : ByteArray).size := by show k < s.length; omega
      have e0 := byte_at hd hz0
      have hdl := d.toNat_lt
      have hcv : wrap64 (d.toNat : Int) = (d.toNat : Int) := by unfold wrap64; omega
      cases hdg : digB d with
      | true =>
        have HA := Lib.hid (all_take hd ha hdg)
        have HD : Hid (decVal (s.take (k + 1)) = 10 * decVal (s.take k) + (d.toNat - 48)) := by
          show _ = _
          rw [take_snoc hd, decVal_app]
        have hlim := decVal_5 ha (by rw [List.length_take]; omega)
        have hdg2 : 48 ≤ d.toNat ∧ d.toNat ≤ 57 := by
          unfold digB at hdg
          rw [Bool.and_eq_true, decide_eq_true_eq, decide_eq_true_eq] at hdg
          exact hdg
        have HR := Lib.hid (inR_dig d)
        rw [hdg] at HR
        generalize decVal (s.take k) = V at *
        clear hd hdg ha
        go_wp2_with (fail)
        refine (inRange_any _ _ _ _).mono ?_
        rintro e w' ⟨rfl, rfl⟩
        rw [HR.out]
        go_wp2
        go_roundw
        case rel => exact ⟨k + 1, by go_num, by omega, by rw [HD.out]; go_num, HA.out, hb⟩
        case measure => simp [intOf]; omega
      | false =>
        have HP := Lib.hid (all_no hd hdg)
        have HR := Lib.hid (inR_dig d)
        rw [hdg] at HR
        clear hd hdg ha
        go_wp2_with (fail)
        refine (inRange_any _ _ _ _).mono ?_
        rintro e w' ⟨rfl, rfl⟩
        rw [HR.out]
        go_wp2
        go_ret
        exact ⟨by rw [HP.out]; rfl, hb⟩
    · obtain rfl : k = s.length := by omega
      have hlim := decVal_5 ha (by rw [List.length_take]; omega)
      rw [List.take_length] at ha hlim ⊢
      have HP : Hid (prI s = if Lib.decDigits (decVal s) = s then (decVal s : Int) else -1) := by
        show _ = _
        unfold prI
        rw [if_neg (by omega), if_pos ha]
      by_cases he : Lib.decDigits (decVal s) = s
      · rw [if_pos he] at HP
        have HQ := Lib.hid he
        generalize decVal s = V at *
        clear he ha
        go_wp2_with (fail)
        refine (sdec_any V _ (by omega)).mono ?_
        rintro e w7 ⟨rfl, hx7⟩
        unfold sv
        rw [HQ.out]
        replace hb := after hb hx7 (Nat.le_refl _)
        clear hx7
        go_wp2
        go_ret
        exact ⟨by rw [HP.out]; rfl, hb⟩
      · rw [if_neg he] at HP
        generalize decVal s = V at *
        generalize hD : Lib.decDigits V = D at *
        have hq : (D == s) = false := beq_eq_false_iff_ne.2 he
        clear ha he
        go_wp2_with (fail)
        refine (sdec_any V _ (by omega)).mono ?_
        rintro e w7 ⟨rfl, hx7⟩
        unfold sv
        rw [hD]
        replace hb := after hb hx7 (Nat.le_refl _)
        clear hx7
        go_wp2
        go_ret
        exact ⟨by rw [HP.out]; rfl, hb⟩
end Go.Proofs.YtdlggpphfkjidaaGreatDoor
