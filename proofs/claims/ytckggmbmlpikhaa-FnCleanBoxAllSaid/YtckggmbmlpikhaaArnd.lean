/-
  impl: around, count, CountIn, PartOf; spec: PartOf.
-/
import Derived.Test.YtckggmbmlpikhaaPd
import Derived.Test.YtckggmbmlpikhaaEq
import Derived.Test.YtckggmbmlpikhaaAny
namespace Go.Proofs.Ytckggmbmlpikhaa
open Go Go.RowKit

set_option maxHeartbeats 1000000 in
theorem around_any {v : Value} {l : List Bx} {a i : Int} (w : World) (ha : 0 ≤ a) (h0 : 0 ≤ i) (hi : i < l.length) (hv : Rd w 9 v (Bs l)) (hd : Down l i.toNat) (hl : l.length ≤ 1048577) :
    Calls Try.prog 70 #[v, .int .i64 a, .int .i64 i] w fun e w' => e = .returned (.bool (arB l a.toNat i.toNat)) ∧ Ext w w' := by
  have hf : Hid (decide (a ∈ ni (anc l i.toNat).reverse) = arB l a.toNat i.toNat) := by
    show _ = _
    unfold arB
    rw [decide_eq_decide]
    obtain ⟨k, rfl⟩ := Int.eq_ofNat_of_zero_le ha
    rw [mem_ni_nat, List.mem_reverse, Int.toNat_natCast]
  go_enter Try.func70, Try.ntmps70
  go_wp2_with (fail)
  refine (path_int (l := l) (i := i) _ h0 hi hv hd hl).mono ?_
  rintro e w1 ⟨v1, rfl, ho, hx⟩
  go_wp2_with (fail)
  refine (Contains_any (l := ni (anc l i.toNat).reverse) a _ ho.rd).mono ?_
  rintro e w2 ⟨rfl, rfl⟩
  rw [hf.out]
  go_wp2
  go_ret
  exact ⟨rfl, hx⟩

def cntTo (l : List Bx) (a n : Nat) : Nat := ((List.range n).filter fun i => arB l a i).length
theorem cntTo_succ (l : List Bx) (a n : Nat) : cntTo l a (n + 1) = cntTo l a n + (if arB l a n then 1 else 0) := by
  unfold cntTo
  rw [List.range_succ, List.filter_append, List.length_append]
  by_cases h : arB l a n = true <;> simp [h]
theorem cntTo_le (l : List Bx) (a n : Nat) : cntTo l a n ≤ n := by
  have := List.length_filter_le (fun i => arB l a i) (List.range n)
  rw [List.length_range] at this
  exact this

set_option maxHeartbeats 1000000 in
theorem count_any {v : Value} {l : List Bx} {a : Int} (hv : Valid l) (w : World) (ha : 0 ≤ a) (hal : a < l.length) (hr : Rd w 9 v (Bs l)) :
    Calls Try.prog 49 #[v, .int .i64 a] w fun e w' => e = .returned (.int .i64 (cntS l a.toNat : Nat)) ∧ Ext w w' := by
  have hrd := hr
  obtain ⟨ad, c, rfl, hn, hc, _⟩ := hr.boxes
  unfold maxLen at hc
  have Hv := Lib.hid hv
  have Hl := Lib.hid hv.hi
  have hfin : Hid (cntTo l a.toNat l.length = cntS l a.toNat) := cnt_eq hv (by omega)
  clear hr hv
  go_enter Try.func49, Try.ntmps49
  go_wp2
  go_loopw [5, 9] (fun n i wr => ∃ k : Nat, i = .int .i64 k ∧ k ≤ l.length ∧ n = .int .i64 (cntTo l a.toNat k : Nat) ∧ Below w.heap.size w wr) (fun _ i _ => l.length - (intOf i).toNat)
  case atStart => exact ⟨0, rfl, Nat.zero_le _, rfl, Below.refl _ _⟩
  case round =>
    obtain ⟨k, rfl, hk, rfl, hb⟩ := hrel
    have hle := cntTo_le l a.toNat k
    have Hs := Lib.hid (cntTo_succ l a.toNat k)
    by_cases hlt : k < l.length
    · have hlti : (k : Int) < l.length := by omega
      have hll := Hl.out
      by_cases har : arB l a.toNat k = true
      · go_wp2_with (fail)
        refine (around_any (l := l) (a := a) (i := (k : Int)) _ ha (by omega) (by omega) (hrd.below hb (Nat.le_refl _)) (by rw [Int.toNat_natCast]; exact Hv.out.down hlt) (by omega)).mono ?_
        rintro e w2 ⟨he, hx⟩
        rw [Int.toNat_natCast, har] at he
        subst he
        have H2 := Lib.hid har
        clear har
        go_wp2
        go_roundw
        case rel => exact ⟨k + 1, by go_num, by omega, by rw [Hs.out, H2.out]; go_num, after hb hx (Nat.le_refl _)⟩
        case measure => simp [intOf]; omega
      · have har' : arB l a.toNat k = false := by simpa using har
        clear har
        go_wp2_with (fail)
        refine (around_any (l := l) (a := a) (i := (k : Int)) _ ha (by omega) (by omega) (hrd.below hb (Nat.le_refl _)) (by rw [Int.toNat_natCast]; exact Hv.out.down hlt) (by omega)).mono ?_
        rintro e w2 ⟨he, hx⟩
        rw [Int.toNat_natCast, har'] at he
        subst he
        have H2 := Lib.hid har'
        clear har'
        go_wp2
        go_roundw
        case rel => exact ⟨k + 1, by go_num, by omega, by rw [Hs.out, H2.out]; rfl, after hb hx (Nat.le_refl _)⟩
        case measure => simp [intOf]; omega
    · obtain rfl : k = l.length := by omega
      go_wp2
      go_ret
      exact ⟨by rw [hfin.out]; rfl, hb⟩

/-- how many boxes a box and all in it are, or -1 -/
def cntI (l : List Bx) (i : Int) : Int := if inB l i then (cntS l i.toNat : Nat) else -1

set_option maxHeartbeats 1000000 in
theorem CountIn_any {v : Value} {l : List Bx} (i : Int) (w : World) (hv : Rd w 9 v (Bs l)) :
    Calls Try.prog 29 #[v, .int .i64 i] w fun e w' => e = .returned (.int .i64 (cntI l i)) ∧ Ext w w' := by
  have hrd := hv
  by_cases h : inB l i = true
  · obtain ⟨hval, h0, hi⟩ := inB_iff.1 h
    have Hv := Lib.hid hval
    have hf : Hid (cntI l i = (cntS l i.toNat : Nat)) := by
      show _ = _
      unfold cntI
      rw [if_pos h]
    clear hval
    go_enter Try.func29, Try.ntmps29
    go_wp2_with (fail)
    refine (boxIn_any (l := l) i _ hrd).mono ?_
    rintro e w1 ⟨he, hb⟩
    rw [h] at he
    subst he
    clear h
    replace hrd := hrd.below hb (Nat.le_refl _)
    go_wp2_with (fail)
    refine (count_any (l := l) (a := i) Hv.out _ h0 hi hrd).mono ?_
    rintro e w2 ⟨rfl, hx⟩
    go_wp2
    go_ret
    exact ⟨by rw [hf.out]; rfl, after hb hx (Nat.le_refl _)⟩
  · have h' : inB l i = false := by simpa using h
    have hf : Hid (cntI l i = -1) := by
      show _ = _
      unfold cntI
      rw [h']
      rfl
    clear h
    go_enter Try.func29, Try.ntmps29
    go_wp2_with (fail)
    refine (boxIn_any (l := l) i _ hrd).mono ?_
    rintro e w1 ⟨he, hb⟩
    rw [h'] at he
    subst he
    clear h'
    go_wp2
    go_ret
    exact ⟨by rw [hf.out]; rfl, hb⟩
end Go.Proofs.Ytckggmbmlpikhaa
