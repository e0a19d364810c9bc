/-
  Lists of numbers: isIn, allIn, equalInts.
-/
import Derived.Test.YtckggmbmlpikhaaEq
namespace Go.Proofs.Ytckggmbmlpikhaa
open Go Go.RowKit

theorem mem_take_succ {l : List Int} {k : Nat} {x y : Int} (hy : l[k]? = some y) (hx : x ∉ l.take k) (hne : ¬ y = x) : x ∉ l.take (k + 1) := by
  rw [List.take_add_one, hy]
  simp [hx]
  exact fun e => hne e.symm

set_option maxHeartbeats 400000 in
theorem isIn_any {v : Value} {l : List Int} (x : Int) (w : World) (hv : Rd w 1 v (Is l)) :
    Calls Try.prog 35 #[v, .int .i64 x] w fun e w' => e = .returned (.bool (decide (x ∈ l))) ∧ w = w' := by
  obtain ⟨a, c, rfl, hn, hc, hcell⟩ := hv.ints
  clear hv
  unfold maxLen at hc
  go_enter Try.func35, Try.ntmps35
  go_wp2
  go_loop [5] (fun i => ∃ k : Nat, k ≤ l.length ∧ i = .int .i64 k ∧ x ∉ l.take k) (fun i => l.length - (intOf i).toNat)
  case atStart => exact ⟨0, Nat.zero_le _, rfl, by simp⟩
  case round =>
    obtain ⟨k, hk, rfl, hx⟩ := hrel
    by_cases hlt : k < l.length
    · obtain ⟨y, hy⟩ : ∃ y, l[k]? = some y := ⟨_, List.getElem?_eq_getElem hlt⟩
      obtain ⟨b, off, rfl, hC⟩ := hcell k y hy
      have hck := hC k y hy
      have Hy := Lib.hid hy
      have Hx := Lib.hid hx
      clear hcell hC hy hx
      by_cases hxy : y = x
      · have hb : (y == x) = true := by simp [hxy]
        have Hxy := Lib.hid hxy
        clear hxy
        go_wp2
        go_ret
        refine ⟨?_, rfl⟩
        have : x ∈ l := Hxy.out ▸ List.mem_of_getElem? Hy.out
        simp [this]
      · have hb : (y == x) = false := by simp [hxy]
        have Hxy := Lib.hid hxy
        clear hxy
        go_wp2
        go_round
        case rel => exact ⟨k + 1, by omega, by go_num, mem_take_succ Hy.out Hx.out Hxy.out⟩
        case measure => simp [intOf]; omega
    · go_wp2
      go_ret
      refine ⟨?_, rfl⟩
      rw [List.take_of_length_le (by omega)] at hx
      simp [hx]
set_option maxHeartbeats 400000 in
theorem sIsIn_any {v : Value} {l : List Int} (x : Int) (w : World) (hv : Rd w 1 v (Is l)) :
    Calls Try.prog 93 #[v, .int .i64 x] w fun e w' => e = .returned (.bool (decide (x ∈ l))) ∧ w = w' := by
  obtain ⟨a, c, rfl, hn, hc, hcell⟩ := hv.ints
  clear hv
  unfold maxLen at hc
  go_enter Try.func93, Try.ntmps93
  go_wp2
  go_loop [5] (fun i => ∃ k : Nat, k ≤ l.length ∧ i = .int .i64 k ∧ x ∉ l.take k) (fun i => l.length - (intOf i).toNat)
  case atStart => exact ⟨0, Nat.zero_le _, rfl, by simp⟩
  case round =>
    obtain ⟨k, hk, rfl, hx⟩ := hrel
    by_cases hlt : k < l.length
    · obtain ⟨y, hy⟩ : ∃ y, l[k]? = some y := ⟨_, List.getElem?_eq_getElem hlt⟩
      obtain ⟨b, off, rfl, hC⟩ := hcell k y hy
      have hck := hC k y hy
      have Hy := Lib.hid hy
      have Hx := Lib.hid hx
      clear hcell hC hy hx
      by_cases hxy : y = x
      · have hb : (y == x) = true := by simp [hxy]
        have Hxy := Lib.hid hxy
        clear hxy
        go_wp2
        go_ret
        refine ⟨?_, rfl⟩
        have : x ∈ l := Hxy.out ▸ List.mem_of_getElem? Hy.out
        simp [this]
      · have hb : (y == x) = false := by simp [hxy]
        have Hxy := Lib.hid hxy
        clear hxy
        go_wp2
        go_round
        case rel => exact ⟨k + 1, by omega, by go_num, mem_take_succ Hy.out Hx.out Hxy.out⟩
        case measure => simp [intOf]; omega
    · go_wp2
      go_ret
      refine ⟨?_, rfl⟩
      rw [List.take_of_length_le (by omega)] at hx
      simp [hx]
set_option maxHeartbeats 400000 in
theorem sAllIn_any {v : Value} {l : List Int} (lo hi : Int) (w : World) (hv : Rd w 1 v (Is l)) :
    Calls Try.prog 92 #[v, .int .i64 lo, .int .i64 hi] w fun e w' => e = .returned (.bool (l.all fun m => inR m lo hi)) ∧ w = w' := by
  obtain ⟨a, c, rfl, hn, hc, hcell⟩ := hv.ints
  clear hv
  unfold maxLen at hc
  go_enter Try.func92, Try.ntmps92
  go_wp2
  go_loop [7] (fun i => ∃ k : Nat, k ≤ l.length ∧ i = .int .i64 k ∧ (l.take k).all (fun m => inR m lo hi) = true) (fun i => l.length - (intOf i).toNat)
  case atStart => exact ⟨0, Nat.zero_le _, rfl, by simp⟩
  case round =>
    obtain ⟨k, hk, rfl, hx⟩ := hrel
    have Hx := Lib.hid hx
    clear hx
    by_cases hlt : k < l.length
    · obtain ⟨y, hy⟩ : ∃ y, l[k]? = some y := ⟨_, List.getElem?_eq_getElem hlt⟩
      obtain ⟨b, off, rfl, hC⟩ := hcell k y hy
      have hck := hC k y hy
      have Hy := Lib.hid hy
      clear hcell hC hy
      by_cases hxy : inR y lo hi = true
      · have Hxy := Lib.hid hxy
        go_wp2_with (fail)
        refine (inRange_any _ _ _ _).mono ?_
        rintro e w2 ⟨he, rfl⟩
        rw [hxy] at he
        subst he
        clear hxy
        go_wp2
        go_round
        case rel => exact ⟨k + 1, by omega, by go_num, by rw [List.take_add_one, Hy.out, List.all_append, Hx.out]; simp [Hxy.out]⟩
        case measure => simp [intOf]; omega
      · have hxy' : inR y lo hi = false := by simpa using hxy
        have Hxy := Lib.hid hxy'
        go_wp2_with (fail)
        refine (inRange_any _ _ _ _).mono ?_
        rintro e w2 ⟨he, rfl⟩
        rw [hxy'] at he
        subst he
        clear hxy hxy'
        go_wp2
        go_ret
        refine ⟨?_, rfl⟩
        have : l.all (fun m => inR m lo hi) = false := List.all_eq_false.2 ⟨y, List.mem_of_getElem? Hy.out, by rw [Hxy.out]; simp⟩
        rw [this]
        rfl
    · go_wp2
      go_ret
      refine ⟨?_, rfl⟩
      have := Hx.out
      rw [List.take_of_length_le (by omega)] at this
      rw [this]
      rfl
theorem take_eq_succ {l m : List Int} {k : Nat} {x : Int} (h : l.take k = m.take k) (hl : l[k]? = some x) (hm : m[k]? = some x) : l.take (k + 1) = m.take (k + 1) := by
  rw [List.take_add_one, List.take_add_one, h, hl, hm]
theorem cell_below {w w' : World} {p : Addr} {x : Value} (hb : Below w.heap.size w w') (h : w.cell? p = some x) : w'.cell? p = some x := by
  rw [hb.cell (World.block_lt_of_cell? _ _ h)]
  exact h
set_option maxHeartbeats 400000 in
theorem equalInts_any {v u : Value} {l m : List Int} (w : World) (hv : Rd w 1 v (Is l)) (hu : Rd w 1 u (Is m)) :
    Calls Try.prog 32 #[v, u] w fun e w' => e = .returned (.bool (decide (l = m))) ∧ Ext w w' := by
  obtain ⟨a, c, rfl, hn, hc, hcell⟩ := hv.ints
  obtain ⟨a2, c2, rfl, hn2, hc2, hcell2⟩ := hu.ints
  clear hv hu
  unfold maxLen at hc hc2
  go_enter Try.func32, Try.ntmps32
  by_cases hlen : l.length = m.length
  · have hb : ((l.length : Int) == (m.length : Int)) = true := by simp [hlen]
    have hb' : ((l.length : Int) != (m.length : Int)) = false := by simp [hlen]
    have Hlen := Lib.hid hlen
    have hlen1 : l.length ≤ m.length := by omega
    have hlen2 : m.length ≤ l.length := by omega
    clear hlen
    go_wp2
    go_loopw [5] (fun i wr => ∃ k : Nat, k ≤ l.length ∧ i = .int .i64 k ∧ l.take k = m.take k ∧ Below w.heap.size w wr) (fun i _ => l.length - (intOf i).toNat)
    case atStart => exact ⟨0, Nat.zero_le _, rfl, by simp, Below.refl _ _⟩
    case round =>
      obtain ⟨k, hk, rfl, hx, hb⟩ := hrel
      have Hx := Lib.hid hx
      clear hx
      by_cases hlt : k < l.length
      · obtain ⟨y, hy⟩ : ∃ y, l[k]? = some y := ⟨_, List.getElem?_eq_getElem hlt⟩
        obtain ⟨z, hz⟩ : ∃ z, m[k]? = some z := ⟨_, List.getElem?_eq_getElem (by omega)⟩
        obtain ⟨b, off, rfl, hC⟩ := hcell k y hy
        obtain ⟨b2, off2, rfl, hC2⟩ := hcell2 k z hz
        have hck := cell_below hb (hC k y hy)
        have hck2 := cell_below hb (hC2 k z hz)
        have hlti : (k : Int) < l.length := by omega
        have hltm : (k : Int) < m.length := by omega
        have Hy := Lib.hid hy
        have Hz := Lib.hid hz
        clear hcell hC hy hcell2 hC2 hz
        by_cases hyz : y = z
        · have e1 : (y != z) = false := by simp [hyz]
          have Hyz := Lib.hid hyz
          clear hyz
          go_wp2
          go_quiet (fail)
          go_wp2
          go_roundw
          case rel => exact ⟨k + 1, by omega, by go_num, take_eq_succ Hx.out (Hyz.out ▸ Hy.out) Hz.out, below_drewN hb _⟩
          case measure => simp [intOf]; omega
        · have e1 : (y != z) = true := by simp [hyz]
          have Hyz := Lib.hid hyz
          clear hyz
          go_wp2
          go_quiet (fail)
          go_wp2
          go_ret
          refine ⟨?_, below_drewN hb _⟩
          have : ¬ l = m := by
            rintro rfl
            have := Hy.out.symm.trans Hz.out
            exact Hyz.out (by simpa using this)
          simp [this]
      · go_wp2
        go_ret
        refine ⟨?_, hb⟩
        have := Hx.out
        rw [List.take_of_length_le (by omega), List.take_of_length_le (by omega)] at this
        simp [this]
  · have hb : ((l.length : Int) == (m.length : Int)) = false := beq_eq_false_iff_ne.2 (by omega)
    have hb' : ((l.length : Int) != (m.length : Int)) = true := bne_iff_ne.2 (by omega)
    have Hlen := Lib.hid hlen
    clear hlen
    go_wp2
    go_ret
    refine ⟨?_, Below.refl _ _⟩
    have : ¬ l = m := by
      rintro rfl
      exact Hlen.out rfl
    simp [this]
end Go.Proofs.Ytckggmbmlpikhaa
