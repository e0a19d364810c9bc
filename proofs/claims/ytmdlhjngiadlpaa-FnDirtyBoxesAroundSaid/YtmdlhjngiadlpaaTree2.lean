/-
  impl: PathTo, DepthOf, IsAround.
-/
import Derived.Test.YtmdlhjngiadlpaaArnd
import Derived.Test.YtmdlhjngiadlpaaLNat
namespace Go.Proofs.Ytmdlhjngiadlpaa
open Go Go.RowKit

/-- the boxes around a box, and the box itself, or none -/
def pathL (l : List Bx) (i : Int) : List Nat := if inB l i then (anc l i.toNat).reverse else []
def depI (l : List Bx) (i : Int) : Int := if inB l i then ((anc l i.toNat).length : Int) - 1 else -1

set_option maxHeartbeats 1000000 in
theorem PathTo_any {v : Value} {l : List Bx} (i : Int) (w : World) (hv : Rd w 9 v (Bs l)) :
    Calls Try.prog 43 #[v, .int .i64 i] w fun e w' => ∃ v', e = .returned v' ∧ Own w' w.heap.size 1 v' (Is (ni (pathL l i))) ∧ Ext w w' := by
  have hrd := hv
  by_cases h : inB l i = true
  · obtain ⟨hval, h0, hi⟩ := inB_iff.1 h
    have hd := hval.down (i := i.toNat) (by omega)
    have hl16 := hval.hi
    have hf : Hid (pathL l i = (anc l i.toNat).reverse) := by
      show _ = _
      unfold pathL
      rw [if_pos h]
    clear hval
    go_enter Try.func43, Try.ntmps43
    go_wp2_with (fail)
    refine (boxIn_any (l := l) i _ hrd).mono ?_
    rintro e w1 ⟨he, hb⟩
    rw [h] at he
    subst he
    clear h
    go_wp2_with (fail)
    refine (path_int (l := l) (i := i) _ h0 hi (hrd.below hb (Nat.le_refl _)) hd (by omega)).mono ?_
    rintro e w2 ⟨v2, rfl, ho, hx⟩
    go_wp2
    go_ret
    exact ⟨_, rfl, by rw [hf.out]; exact ho.weak hb.size, after hb hx (Nat.le_refl _)⟩
  · have h' : inB l i = false := by simpa using h
    have hf : Hid (pathL l i = []) := by
      show _ = _
      unfold pathL
      rw [h']
      rfl
    clear h
    go_enter Try.func43, Try.ntmps43
    go_wp2_with (fail)
    refine (boxIn_any (l := l) i _ hrd).mono ?_
    rintro e w1 ⟨he, hb⟩
    rw [h'] at he
    subst he
    clear h'
    go_wp2
    go_ret
    exact ⟨_, rfl, by rw [hf.out]; exact Own.nil _ _ _, hb⟩
set_option maxHeartbeats 1000000 in
theorem DepthOf_any {v : Value} {l : List Bx} (i : Int) (w : World) (hv : Rd w 9 v (Bs l)) :
    Calls Try.prog 45 #[v, .int .i64 i] w fun e w' => e = .returned (.int .i64 (depI l i)) ∧ Ext w w' := by
  have hrd := hv
  by_cases h : inB l i = true
  · obtain ⟨hval, h0, hi⟩ := inB_iff.1 h
    have hd := hval.down (i := i.toNat) (by omega)
    have hl16 := hval.hi
    have hf : Hid (depI l i = ((anc l i.toNat).length : Int) - 1) := by
      show _ = _
      unfold depI
      rw [if_pos h]
    clear hval
    go_enter Try.func45, Try.ntmps45
    go_wp2_with (fail)
    refine (boxIn_any (l := l) i _ hrd).mono ?_
    rintro e w1 ⟨he, hb⟩
    rw [h] at he
    subst he
    clear h
    go_wp2_with (fail)
    refine (path_int (l := l) (i := i) _ h0 hi (hrd.below hb (Nat.le_refl _)) hd (by omega)).mono ?_
    rintro e w2 ⟨v2, rfl, ho, hx⟩
    obtain ⟨a4, c4, rfl, hn4, hc4⟩ := ho.rd.len
    have hc4' : c4 ≤ maxLen := hc4
    unfold maxLen at hc4'
    have HL : Hid ((ni (anc l i.toNat).reverse).length = (anc l i.toNat).length) := by
      show _ = _
      rw [ni_length, List.length_reverse]
    clear ho
    generalize hN : (ni (anc l i.toNat).reverse).length = N at *
    clear hN
    go_wp2
    go_ret
    exact ⟨by rw [hf.out, ← HL.out]; rfl, after hb hx (Nat.le_refl _)⟩
  · have h' : inB l i = false := by simpa using h
    have hf : Hid (depI l i = -1) := by
      show _ = _
      unfold depI
      rw [h']
      rfl
    clear h
    go_enter Try.func45, Try.ntmps45
    go_wp2_with (fail)
    refine (boxIn_any (l := l) i _ hrd).mono ?_
    rintro e w1 ⟨he, hb⟩
    rw [h'] at he
    subst he
    clear h'
    go_wp2
    go_ret
    exact ⟨by rw [hf.out]; rfl, hb⟩
end Go.Proofs.Ytmdlhjngiadlpaa
