/-
  The reference's around, count, toInt.
-/
import Derived.Test.YtdlggpphfkjidaaGreatDoorSVal
namespace Go.Proofs.YtdlggpphfkjidaaGreatDoor
open Go Go.RowKit

theorem anc_le {l : List Bx} : ∀ (i : Nat), Down l i → ∀ a, a ∈ anc l i → a ≤ i := by
  intro i
  induction i using Nat.strongRecOn with
  | _ i ih =>
    intro hd a ha
    rw [anc_eq hd] at ha
    rcases List.mem_cons.1 ha with h | h
    · omega
    · split at h
      · have hp := hd i (Nat.le_refl _)
        have := ih (par l i).toNat (by omega) (hd.mono (by omega)) a h
        omega
      · cases h
theorem arB_self {l : List Bx} {i : Nat} (hd : Down l i) : arB l i i = true := by
  unfold arB
  rw [anc_eq hd]
  simp
theorem arB_up {l : List Bx} {a i : Nat} (hd : Down l i) (h : a < i) : arB l a i = (decide (0 ≤ par l i) && arB l a (par l i).toNat) := by
  unfold arB
  rw [anc_eq hd]
  by_cases hp : 0 ≤ par l i
  · rw [if_pos hp]
    have : ¬ a = i := by omega
    simp [hp, this]
  · rw [if_neg hp]
    have : ¬ a = i := by omega
    simp [hp, this]
theorem arB_low {l : List Bx} {a i : Nat} (hd : Down l i) (h : i ≤ a) : arB l a i = decide (i = a) := by
  unfold arB
  rw [decide_eq_decide]
  constructor
  · intro hm
    have := anc_le i hd a hm
    omega
  · rintro rfl
    have := arB_self hd
    unfold arB at this
    simpa using this

set_option maxHeartbeats 1000000 in
theorem saround_any {v : Value} {l : List Bx} {a i : Int} (w : World) (ha : 0 ≤ a) (h0 : 0 ≤ i) (hi : i < l.length) (hv : Rd w 9 v (Bs l)) (hd : Down l i.toNat) :
    Calls Tryz.prog 98 #[v, .int .i64 a, .int .i64 i] w fun e w' => e = .returned (.bool (arB l a.toNat i.toNat)) ∧ w = w' := by
  obtain ⟨i, rfl⟩ := Int.eq_ofNat_of_zero_le h0
  obtain ⟨a, rfl⟩ := Int.eq_ofNat_of_zero_le ha
  simp only [Int.toNat_natCast] at hd ⊢
  obtain ⟨ad, c, rfl, hn, hc, hcell⟩ := hv.boxes
  unfold maxLen at hc
  have hi' : i < l.length := by omega
  obtain ⟨b, off, rfl, hbl, hC⟩ := hcell i _ (bx_get hi')
  have HC := Lib.hid hC
  clear hcell hv hC
  go_enter Tryz.func98, Tryz.ntmps98
  go_wp2
  go_loop [2] (fun x => ∃ k : Int, x = .int .i64 k ∧ k ≤ i ∧ Hid (arB l a i = (decide (0 ≤ k) && arB l a k.toNat))) (fun x => (intOf x + 1).toNat)
  case atStart => exact ⟨i, rfl, Int.le_refl _, by show _ = _; simp⟩
  case round =>
    obtain ⟨k, rfl, hk, hq⟩ := hrel
    by_cases hlt : (a : Int) < k
    · obtain ⟨k, rfl⟩ := Int.eq_ofNat_of_zero_le (show 0 ≤ k by omega)
      obtain ⟨c0, _⟩ := HC.out k _ (bx_get (l := l) (i := k) (by omega))
      have hpk := hd k (by omega)
      have hq2 : Hid (arB l a i = (decide (0 ≤ par l k) && arB l a (par l k).toNat)) := by
        show _ = _
        rw [hq.out, ← arB_up (hd.mono (by omega)) (by omega)]
        simp
      have hpc : (bx l k).parent < (k : Int) := hpk
      clear hpk
      go_wp2
      go_round
      case rel => exact ⟨_, rfl, by omega, hq2⟩
      case measure => simp [intOf]; omega
    · by_cases hke : k = a
      · have hkb : (k == (a : Int)) = true := by simp [hke]
        have hfin : Hid (arB l a i = true) := by
          show _ = _
          rw [hq.out, hke, Int.toNat_natCast, arB_self (hd.mono (by omega))]
          simp
        clear hke
        go_wp2
        go_ret
        exact ⟨by rw [hfin.out]; rfl, rfl⟩
      · have hkb : (k == (a : Int)) = false := by simp [hke]
        have hfin : Hid (arB l a i = false) := by
          show _ = _
          rw [hq.out]
          by_cases h0k : 0 ≤ k
          · rw [arB_low (hd.mono (by omega)) (by omega)]
            have : ¬ k.toNat = a := by omega
            simp [this]
          · simp [h0k]
        clear hke
        go_wp2
        go_ret
        exact ⟨by rw [hfin.out]; rfl, rfl⟩

/-- how many boxes from a on lie in a, up to the first that does not -/
def cntS (l : List Bx) (a : Nat) : Nat := ((List.range' a (l.length - a)).takeWhile fun i => arB l a i).length
theorem takeWhile_range {p : Nat → Bool} : ∀ (n a j : Nat), j ≤ n → (∀ t, t < j → p (a + t) = true) → (j = n ∨ p (a + j) = false) → ((List.range' a n).takeWhile p).length = j
  | 0, a, j, hj, _, _ => by
    obtain rfl : j = 0 := by omega
    rfl
  | n + 1, a, 0, _, _, h => by
    rcases h with h | h
    · omega
    · rw [List.range'_succ, List.takeWhile_cons]
      simp at h
      simp [h]
  | n + 1, a, j + 1, hj, h1, h2 => by
    have h0 := h1 0 (by omega)
    simp at h0
    rw [List.range'_succ, List.takeWhile_cons, h0]
    simp only [if_true, List.length_cons]
    rw [takeWhile_range n (a + 1) j (by omega) (fun t ht => by have := h1 (t + 1) (by omega); rw [← Nat.add_assoc] at this; rw [Nat.add_right_comm]; exact this) (by
      rcases h2 with h2 | h2
      · exact .inl (by omega)
      · exact .inr (by rw [Nat.add_right_comm]; rw [← Nat.add_assoc] at h2; exact h2))]
theorem cntS_le (l : List Bx) (a : Nat) : cntS l a ≤ l.length - a := by
  have h := (List.takeWhile_sublist (fun i => arB l a i) (l := List.range' a (l.length - a))).length_le
  rw [List.length_range'] at h
  exact h

set_option maxHeartbeats 1000000 in
theorem scount_any {v : Value} {l : List Bx} {a : Int} (w : World) (ha : 0 ≤ a) (hal : a < l.length) (hr : Rd w 9 v (Bs l)) (hv : Valid l) :
    Calls Tryz.prog 86 #[v, .int .i64 a] w fun e w' => e = .returned (.int .i64 (cntS l a.toNat : Nat)) ∧ w = w' := by
  obtain ⟨a, rfl⟩ := Int.eq_ofNat_of_zero_le ha
  simp only [Int.toNat_natCast]
  have hrd := hr
  obtain ⟨ad, c, rfl, hn, hc, _⟩ := hr.boxes
  unfold maxLen at hc
  have Hv := Lib.hid hv
  have Hl := Lib.hid hv.hi
  clear hr hv
  go_enter Tryz.func86, Tryz.ntmps86
  go_wp2
  go_loop [5, 6] (fun n i => ∃ j : Nat, n = .int .i64 j ∧ i = .int .i64 ((a : Int) + j) ∧ a + j ≤ l.length ∧ Hid (∀ t, t < j → arB l a (a + t) = true)) (fun n _ => l.length - (intOf n).toNat)
  case atStart => exact ⟨0, rfl, by simp, by omega, fun t ht => by omega⟩
  case round =>
    obtain ⟨j, rfl, rfl, hj, hq⟩ := hrel
    by_cases hlt : a + j < l.length
    · have hlti : (a : Int) + j < l.length := by omega
      by_cases har : arB l a (a + j) = true
      · go_wp2_with (fail)
        refine (saround_any (l := l) (a := (a : Int)) (i := (a : Int) + j) _ (by omega) (by omega) (by omega) hrd (Hv.out.down (by omega))).mono ?_
        rintro e w2 ⟨he, rfl⟩
        rw [Int.toNat_natCast, show ((a : Int) + j).toNat = a + j from by omega, har] at he
        subst he
        have hq2 : Hid (∀ t, t < j + 1 → arB l a (a + t) = true) := fun t ht => by
          rcases Nat.lt_or_ge t j with h | h
          · exact hq.out t h
          · obtain rfl : t = j := by omega
            exact har
        clear har
        go_wp2
        go_round
        case rel => exact ⟨j + 1, by go_num, by rw [show (a : Int) + j + 1 = (a : Int) + ((j + 1 : Nat) : Int) from by omega], by omega, hq2⟩
        case measure => simp [intOf]; omega
      · have har' : arB l a (a + j) = false := by simpa using har
        have hfin : Hid (cntS l a = j) := takeWhile_range _ a j (by omega) hq.out (.inr har')
        clear har
        go_wp2_with (fail)
        refine (saround_any (l := l) (a := (a : Int)) (i := (a : Int) + j) _ (by omega) (by omega) (by omega) hrd (Hv.out.down (by omega))).mono ?_
        rintro e w2 ⟨he, rfl⟩
        rw [Int.toNat_natCast, show ((a : Int) + j).toNat = a + j from by omega, har'] at he
        subst he
        go_wp2
        go_ret
        exact ⟨by rw [hfin.out]; rfl, rfl⟩
    · have hfin : Hid (cntS l a = j) := takeWhile_range _ a j (by omega) hq.out (.inl (by omega))
      have hlti : ¬ ((a : Int) + j < l.length) := by omega
      go_wp2
      go_ret
      exact ⟨by rw [hfin.out]; rfl, rfl⟩

theorem toInt_any (t : Bool) (w : World) : Calls Tryz.prog 87 #[.bool t] w fun e w' => e = .returned (.int .i64 (if t then 1 else 0)) ∧ w = w' := by
  cases t
  · go_enter Tryz.func87, Tryz.ntmps87
    go_wp2
    go_ret
    exact ⟨rfl, rfl⟩
  · go_enter Tryz.func87, Tryz.ntmps87
    go_wp2
    go_ret
    exact ⟨rfl, rfl⟩
end Go.Proofs.YtdlggpphfkjidaaGreatDoor
