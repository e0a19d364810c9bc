/-
  What the functions of package slices do that this program calls, at lists of ints and of boxes.
-/
import Derived.Test.YtdlggpphfkjidaaGreatDoorBase
import Derived.RegionTactic
namespace Go.Proofs.YtdlggpphfkjidaaGreatDoor
open Go Go.RowKit

theorem el_int : EL Tryz.prog 41 3 (.int .i64 0) 1 8 :=
  ⟨by kernel_rfl, info_parts (by kernel_rfl), rfl, by decide, by decide⟩

set_option maxHeartbeats 400000 in
theorem Index_any {v : Value} {l : List Int} (x : Int) (w : World) (hv : Rd w 1 v (Is l)) :
    Calls Tryz.prog 70 #[v, .int .i64 x] w fun e w' => ∃ r : Int, e = .returned (.int .i64 r) ∧ decide (0 ≤ r) = decide (x ∈ l) ∧ w = w' := by
  obtain ⟨a, c, rfl, hn, hc, hcell⟩ := hv.ints
  clear hv
  unfold maxLen at hc
  go_enter Tryz.func70, Tryz.ntmps70
  go_wp2
  go_loop [5, 8] (fun _ i => ∃ k : Nat, k ≤ l.length ∧ i = .int .i64 k ∧ x ∉ l.take k) (fun _ i => l.length - (intOf i).toNat)
  case atStart => exact ⟨0, Nat.zero_le _, rfl, by simp⟩
  case round =>
    obtain ⟨k, hk, rfl, hx⟩ := hrel
    by_cases hlt : k < l.length
    · obtain ⟨y, hy⟩ : ∃ y, l[k]? = some y := ⟨_, List.getElem?_eq_getElem hlt⟩
      obtain ⟨b, off, rfl, hC⟩ := hcell k y hy
      have hck := hC k y hy
      have Hy := Lib.hid hy
      have Hx := Lib.hid hx
      clear hcell hC hy hx
      by_cases hxy : x = y
      · subst hxy
        go_wp2
        go_ret
        refine ⟨k, rfl, ?_, rfl⟩
        have : x ∈ l := List.mem_of_getElem? Hy.out
        simp [this]
      · have hb : (x == y) = false := by simp [hxy]
        go_wp2
        go_round
        case rel =>
          refine ⟨k + 1, by omega, by go_num, ?_⟩
          rw [List.take_add_one, Hy.out]
          simp [Hx.out, hxy]
        case measure => simp [intOf]; omega
    · go_wp2
      go_ret
      refine ⟨-1, rfl, ?_, rfl⟩
      rw [List.take_of_length_le (by omega)] at hx
      simp [hx]

set_option maxHeartbeats 400000 in
theorem Contains_any {v : Value} {l : List Int} (x : Int) (w : World) (hv : Rd w 1 v (Is l)) :
    Calls Tryz.prog 37 #[v, .int .i64 x] w fun e w' => e = .returned (.bool (decide (x ∈ l))) ∧ w = w' := by
  go_enter Tryz.func37, Tryz.ntmps37
  go_wp2_with (go_at_call 70; refine (Index_any x _ hv).mono ?_; rintro e w' ⟨r, rfl, hr, rfl⟩)
  go_ret
  exact ⟨rfl, rfl⟩

set_option maxHeartbeats 400000 in
theorem ClipI_x (a : Option Addr) (n c : Nat) (hn : n ≤ c) (_hc : c ≤ maxLen) (w : World) :
    Calls Tryz.prog 48 #[.slice a n c] w fun e w' => e = .returned (.slice a n n) ∧ w = w' := by
  unfold maxLen at _hc
  go_enter Tryz.func48, Tryz.ntmps48
  go_wp2
  go_ret
  exact ⟨rfl, rfl⟩

theorem ClipI_any {base : Nat} {v : Value} {xs : List Value} (w : World) (h : Own w base 1 v xs) :
    Calls Tryz.prog 48 #[v] w fun e w' => ∃ v', e = .returned v' ∧ Own w base 1 v' xs ∧ w = w' := by
  have h' := h
  obtain ⟨a, n, c, rfl, hl, hn, hc, _⟩ := h
  exact (ClipI_x a n c hn hc w).mono fun e w' ⟨he, hw⟩ => ⟨_, he, h'.clip, hw⟩

set_option maxHeartbeats 400000 in
theorem ClipB_x (a : Option Addr) (n c : Nat) (hn : n ≤ c) (_hc : c ≤ maxLen) (w : World) :
    Calls Tryz.prog 65 #[.slice a n c] w fun e w' => e = .returned (.slice a n n) ∧ w = w' := by
  unfold maxLen at _hc
  go_enter Tryz.func65, Tryz.ntmps65
  go_wp2
  go_ret
  exact ⟨rfl, rfl⟩

theorem ClipB_any {base : Nat} {v : Value} {xs : List Value} (w : World) (h : Own w base 9 v xs) :
    Calls Tryz.prog 65 #[v] w fun e w' => ∃ v', e = .returned v' ∧ Own w base 9 v' xs ∧ w = w' := by
  have h' := h
  obtain ⟨a, n, c, rfl, hl, hn, hc, _⟩ := h
  exact (ClipB_x a n c hn hc w).mono fun e w' ⟨he, hw⟩ => ⟨_, he, h'.clip, hw⟩

/-- the list behind k exchanges of slices.Reverse -/
def rv (l : List Int) (k : Nat) : List Int := (List.range l.length).map fun j => if j < k ∨ l.length - k ≤ j then l.getD (l.length - 1 - j) 0 else l.getD j 0
theorem rv_length (l : List Int) (k : Nat) : (rv l k).length = l.length := by simp [rv]
theorem rv_get (l : List Int) (k j : Nat) (h : j < l.length) : (rv l k)[j]? = some (if j < k ∨ l.length - k ≤ j then l.getD (l.length - 1 - j) 0 else l.getD j 0) := by
  simp [rv, h]
theorem rv_zero (l : List Int) : rv l 0 = l := by
  apply List.ext_getElem?
  intro j
  by_cases h : j < l.length
  · rw [rv_get l 0 j h, if_neg (by omega)]
    simp [h]
  · rw [List.getElem?_eq_none (by rw [rv_length]; omega), List.getElem?_eq_none (by omega)]
theorem rv_full (l : List Int) (k : Nat) (hk : l.length ≤ 2 * k + 1) : rv l k = l.reverse := by
  apply List.ext_getElem?
  intro j
  by_cases h : j < l.length
  · rw [rv_get l k j h, List.getElem?_reverse h]
    by_cases h2 : j < k ∨ l.length - k ≤ j
    · rw [if_pos h2]
      simp only [List.getD_eq_getElem?_getD]
      rw [List.getElem?_eq_getElem (by omega)]
      rfl
    · rw [if_neg h2]
      have : j = l.length - 1 - j := by omega
      rw [← this]
      simp only [List.getD_eq_getElem?_getD]
      rw [List.getElem?_eq_getElem h]
      rfl
  · rw [List.getElem?_eq_none (by rw [rv_length]; omega), List.getElem?_eq_none (by simp; omega)]
theorem rv_step (l : List Int) (k : Nat) (hk : 2 * k + 1 < l.length) :
    ((Is (rv l k)).set k (.int .i64 (l.getD (l.length - 1 - k) 0))).set (l.length - 1 - k) (.int .i64 (l.getD k 0)) = Is (rv l (k + 1)) := by
  apply List.ext_getElem?
  intro j
  simp only [List.getElem?_set, List.length_set, Is, List.length_map, rv_length, List.getElem?_map]
  by_cases h : j < l.length
  · rw [rv_get l k j h, rv_get l (k + 1) j h]
    by_cases h1 : l.length - 1 - k = j
    · subst h1
      rw [if_pos (by omega), if_pos (by omega), if_pos (by omega)]
      simp
      rw [show l.length - 1 - (l.length - 1 - k) = k from by omega]
    · rw [if_neg h1]
      by_cases h2 : k = j
      · subst h2
        rw [if_pos (by omega), if_pos (by omega), if_pos (by omega)]
        simp
      · rw [if_neg h2]
        by_cases h3 : j < k ∨ l.length - k ≤ j
        · rw [if_pos h3, if_pos (by omega)]
        · rw [if_neg h3, if_neg (by omega)]
  · rw [List.getElem?_eq_none (by rw [rv_length]; omega), List.getElem?_eq_none (by rw [rv_length]; omega)]
    rw [if_neg (by omega), if_neg (by omega)]

set_option maxHeartbeats 1000000 in
theorem Reverse_any {base : Nat} {v : Value} {l : List Int} (w : World) (hv : Own w base 1 v (Is l)) (hl : l.length ≤ 1048577) :
    Calls Tryz.prog 47 #[v] w fun e w' => e = .returned (.tuple #[]) ∧ Own w' base 1 v (Is l.reverse) ∧ Below base w w' ∧ (∀ r, blk v = some r → ∀ k, k ≠ r → w'.heap[k]? = w.heap[k]?) := by
  obtain ⟨a, c, rfl, hn, hc, hcell⟩ := hv.rd.ints
  clear hcell
  go_enter Tryz.func47, Tryz.ntmps47
  go_wp2
  go_loopw [2, 3] (fun i j wr => ∃ k : Nat, i = .int .i64 k ∧ j = .int .i64 ((l.length : Int) - 1 - k) ∧ 2 * k ≤ l.length ∧ Own wr base 1 (.slice a l.length c) (Is (rv l k)) ∧ Below base w wr ∧ (∀ r, blk (.slice a l.length c) = some r → ∀ k, k ≠ r → wr.heap[k]? = w.heap[k]?)) (fun i _ _ => l.length - (intOf i).toNat)
  case atStart => exact ⟨0, rfl, by simp, by omega, by rw [rv_zero]; exact hv, Below.refl _ _, fun _ _ _ _ => rfl⟩
  case round =>
    obtain ⟨k, rfl, rfl, hk, ho, hb, hfr⟩ := hrel
    by_cases hlt : 2 * k + 1 < l.length
    · have hne : Is (rv l k) ≠ [] := by
        intro h
        have := congrArg List.length h
        rw [Is_length, rv_length, List.length_nil] at this
        omega
      obtain ⟨b, off, n, c', e, hnl, hbk, hbb, hbs, hcell, hfz, hset⟩ := ho.cells hne
      simp only [Value.slice.injEq] at e
      obtain ⟨rfl, rfl, rfl⟩ := e
      have hc1 := hcell k _ (Is_get (rv_get l k k (by omega)))
      have hc2 := hcell (l.length - 1 - k) _ (Is_get (rv_get l k (l.length - 1 - k) (by omega)))
      rw [if_neg (by omega)] at hc1 hc2
      have hf1 := hfz k
      have hf2 := hfz (l.length - 1 - k)
      clear hcell hfz
      have e1 : ((l.length : Int) - 1 - k).toNat = l.length - 1 - k := by omega
      have b1 : (0 : Int) ≤ (l.length : Int) - 1 - k := by omega
      have b2 : (l.length : Int) - 1 - k < l.length := by omega
      have b3 : (k : Int) < l.length := by omega
      have s1 := hset k (.int .i64 (l.getD (l.length - 1 - k) 0)) (by rw [Is_length, rv_length]; omega)
      obtain ⟨b', off', n', c', e', _, _, _, _, _, _, hset2⟩ := s1.cells (by
        intro h
        have := congrArg List.length h
        rw [List.length_set, Is_length, rv_length, List.length_nil] at this
        omega)
      simp only [Value.slice.injEq, Option.some.injEq, Addr.mk.injEq] at e'
      obtain ⟨⟨rfl, rfl, _⟩, rfl, rfl⟩ := e'
      have s2 := hset2 (l.length - 1 - k) (.int .i64 (l.getD k 0)) (by rw [List.length_set, Is_length, rv_length]; omega)
      rw [rv_step l k hlt] at s2
      clear hset hset2 s1
      go_wp2
      go_region
      go_wp2
      go_roundw
      case rel =>
        refine ⟨k + 1, by go_num, ?_, by omega, s2, ((hb.setCell (p := ⟨b, off + k, none⟩) hbb _).setCell (p := ⟨b, off + (l.length - 1 - k), none⟩) hbb _).drew, ?_⟩
        · rw [show (l.length : Int) - 1 - k - 1 = (l.length : Int) - 1 - ((k + 1 : Nat) : Int) from by omega]
        · intro r hr j hj
          have hjb : j ≠ b := by
            intro e
            subst e
            rw [hbk] at hr
            cases hr
            exact hj rfl
          show ((wr.setCell _ _).setCell _ _).heap[j]? = _
          rw [Below.heap_setCell _ _ _ _ hjb, Below.heap_setCell _ _ _ _ hjb]
          exact hfr r hr j hj
      case measure => simp [intOf]; omega
    · go_wp2
      go_end0
      exact ⟨rfl, by rw [rv_full l k (by omega)] at ho; exact ho, hb, hfr⟩

end Go.Proofs.YtdlggpphfkjidaaGreatDoor
