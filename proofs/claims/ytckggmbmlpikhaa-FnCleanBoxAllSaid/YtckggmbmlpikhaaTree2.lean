/-
  impl: PathTo, DepthOf, IsAround.
-/
import Derived.Test.YtckggmbmlpikhaaArnd
import Derived.Test.YtckggmbmlpikhaaLNat
namespace Go.Proofs.Ytckggmbmlpikhaa
open Go Go.RowKit

/-- the boxes around a box, and the box itself, or none -/
def pathL (l : List Bx) (i : Int) : List Nat := if inB l i then (anc l i.toNat).reverse else []
def depI (l : List Bx) (i : Int) : Int := if inB l i then ((anc l i.toNat).length : Int) - 1 else -1

set_option maxHeartbeats 1000000 in
theorem PathTo_any {v : Value} {l : List Bx} (i : Int) (w : World) (hv : Rd w 9 v (Bs l)) :
    Calls Try.prog 34 #[v, .int .i64 i] w fun e w' => ∃ v', e = .returned v' ∧ Own w' w.heap.size 1 v' (Is (ni (pathL l i))) ∧ Ext w w' := by
  have hrd := hv
  by_cases h : inB l i = true
  · obtain ⟨hval, h0, hi⟩ := inB_iff.1 h
    have hd := hval.down (i := i.toNat) (by omega)
    have hl16 := hval.hi
    have hf : Hid (pathL l i = (anc l i.toNat).reverse) := by
      show _ = _
      unfold pathL
      rw [if_pos h]
    clear hval
    go_enter Try.func34, Try.ntmps34
    go_wp2_with (fail)
    refine (boxIn_any (l := l) i _ hrd).mono ?_
    rintro e w1 ⟨he, hb⟩
    rw [h] at he
    subst he
    clear h
    go_wp2_with (fail)
    refine (path_int (l := l) (i := i) _ h0 hi (hrd.below hb (Nat.le_refl _)) hd (by omega)).mono ?_
    rintro e w2 ⟨v2, rfl, ho, hx⟩
    go_wp2
    go_ret
    exact ⟨_, rfl, by rw [hf.out]; exact ho.weak hb.size, after hb hx (Nat.le_refl _)⟩
  · have h' : inB l i = false := by simpa using h
    have hf : Hid (pathL l i = []) := by
      show _ = _
      unfold pathL
      rw [h']
      rfl
    clear h
    go_enter Try.func34, Try.ntmps34
    go_wp2_with (fail)
    refine (boxIn_any (l := l) i _ hrd).mono ?_
    rintro e w1 ⟨he, hb⟩
    rw [h'] at he
    subst he
    clear h'
    go_wp2
    go_ret
    exact ⟨_, rfl, by rw [hf.out]; exact Own.nil _ _ _, hb⟩
/-- a valid tree, two numbers of its boxes, and the one is around the other -/
def isAr (l : List Bx) (a i : Int) : Bool := inB l a && (inB l i && arB l a.toNat i.toNat)
set_option maxHeartbeats 1000000 in
theorem IsAround_any {v : Value} {l : List Bx} (a i : Int) (w : World) (hv : Rd w 9 v (Bs l)) :
    Calls Try.prog 36 #[v, .int .i64 a, .int .i64 i] w fun e w' => e = .returned (.bool (isAr l a i)) ∧ Ext w w' := by
  have hrd := hv
  by_cases h : inB l a = true
  · by_cases h2 : inB l i = true
    · obtain ⟨hval, h0, hi⟩ := inB_iff.1 h2
      obtain ⟨_, ha0, _⟩ := inB_iff.1 h
      have hd := hval.down (i := i.toNat) (by omega)
      have hl16 := hval.hi
      have hf : Hid (isAr l a i = arB l a.toNat i.toNat) := by
        show _ = _
        unfold isAr
        rw [h, h2]
        rfl
      clear hval
      go_enter Try.func36, Try.ntmps36
      go_wp2_with (fail)
      refine (boxIn_any (l := l) a _ hrd).mono ?_
      rintro e w1 ⟨he, hb⟩
      rw [h] at he
      subst he
      clear h
      replace hrd := hrd.below hb (Nat.le_refl _)
      go_wp2_with (fail)
      refine (boxIn_any (l := l) i _ hrd).mono ?_
      rintro e w2 ⟨he, hx⟩
      rw [h2] at he
      subst he
      clear h2
      replace hrd := hrd.below hx (Nat.le_refl _)
      replace hb := after hb hx (Nat.le_refl _)
      clear hx
      go_wp2_with (fail)
      refine (around_any (l := l) (a := a) (i := i) _ ha0 h0 hi hrd hd (by omega)).mono ?_
      rintro e w3 ⟨rfl, hx⟩
      rw [← hf.out]
      go_wp2
      go_ret
      exact ⟨rfl, after hb hx (Nat.le_refl _)⟩
    · have h2' : inB l i = false := by simpa using h2
      have hf : Hid (isAr l a i = false) := by
        show _ = _
        unfold isAr
        rw [h2']
        simp
      clear h2
      go_enter Try.func36, Try.ntmps36
      go_wp2_with (fail)
      refine (boxIn_any (l := l) a _ hrd).mono ?_
      rintro e w1 ⟨he, hb⟩
      rw [h] at he
      subst he
      clear h
      replace hrd := hrd.below hb (Nat.le_refl _)
      go_wp2_with (fail)
      refine (boxIn_any (l := l) i _ hrd).mono ?_
      rintro e w2 ⟨he, hx⟩
      rw [h2'] at he
      subst he
      clear h2'
      go_wp2
      go_ret
      exact ⟨by rw [hf.out]; rfl, after hb hx (Nat.le_refl _)⟩
  · have h' : inB l a = false := by simpa using h
    have hf : Hid (isAr l a i = false) := by
      show _ = _
      unfold isAr
      rw [h']
      rfl
    clear h
    go_enter Try.func36, Try.ntmps36
    go_wp2_with (fail)
    refine (boxIn_any (l := l) a _ hrd).mono ?_
    rintro e w1 ⟨he, hb⟩
    rw [h'] at he
    subst he
    clear h'
    go_wp2
    go_ret
    exact ⟨by rw [hf.out]; rfl, hb⟩
end Go.Proofs.Ytckggmbmlpikhaa
