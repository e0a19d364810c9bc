/-
  impl: boxIn, made, Clone, StyleBox.
-/
import Derived.Test.YtdlggpphfkjidaaGreatDoorVal2
import Derived.Test.YtdlggpphfkjidaaGreatDoorBx
namespace Go.Proofs.YtdlggpphfkjidaaGreatDoor
open Go Go.RowKit

theorem el_box : EL Tryz.prog 23 39 (.agg #[.int .i64 0, .int .i64 0, .int .i64 0, .int .i64 0, .int .i64 0, .int .i64 0, .int .i64 0, .int .i64 0, .int .i64 0]) 9 72 :=
  ⟨by kernel_rfl, info_parts (by kernel_rfl), rfl, by decide, by decide⟩

/-- a valid tree and a number of one of its boxes -/
def inB (l : List Bx) (i : Int) : Bool := vldB l && inR i 0 ((l.length : Int) - 1)
theorem inB_iff {l : List Bx} {i : Int} : inB l i = true ↔ Valid l ∧ 0 ≤ i ∧ i < l.length := by
  unfold inB
  rw [Bool.and_eq_true, vldB_iff, inR_iff]
  constructor
  · rintro ⟨h, h1, h2⟩; exact ⟨h, h1, by omega⟩
  · rintro ⟨h, h1, h2⟩; exact ⟨h, h1, by omega⟩


/-- what 'made' hands back: the tree, or nothing -/
def orNo (ok : Bool) (l : List Bx) : List Bx := if ok then l else []

set_option maxHeartbeats 1000000 in
theorem made_any {base : Nat} {v : Value} {l : List Bx} (w : World) (hv : Own w base 9 v (Bs l)) (_hb : base ≤ w.heap.size) :
    Calls Tryz.prog 29 #[v] w fun e w' => ∃ v', e = .returned (.tuple #[v', .bool (vldB l)]) ∧ Own w' base 9 v' (Bs (orNo (vldB l) l)) ∧ Ext w w' := by
  have ho := hv
  obtain ⟨a, c, rfl, hn, hc, _⟩ := hv.rd.boxes
  unfold maxLen at hc
  go_enter Tryz.func29, Tryz.ntmps29
  by_cases h : vldB l = true
  · have H := Lib.hid h
    go_wp2_with (fail)
    refine (ValidTree_any (l := l) _ ho.rd).mono ?_
    rintro e w1 ⟨he, hx⟩
    rw [h] at he
    subst he
    clear h
    go_wp2_with (fail)
    refine (ClipB_any _ (ho.below hx (Nat.le_refl _))).mono ?_
    rintro e w2 ⟨v', rfl, ho2, rfl⟩
    go_wp2
    go_ret2
    refine ⟨_, by rw [H.out]; rfl, ?_, hx⟩
    rw [H.out]
    exact ho2
  · have h' : vldB l = false := by simpa using h
    have H := Lib.hid h'
    go_wp2_with (fail)
    refine (ValidTree_any (l := l) _ ho.rd).mono ?_
    rintro e w1 ⟨he, hx⟩
    rw [h'] at he
    subst he
    clear h h'
    go_wp2
    go_ret2
    refine ⟨_, by rw [H.out]; rfl, ?_, hx⟩
    rw [H.out]
    exact Own.nil _ _ _


end Go.Proofs.YtdlggpphfkjidaaGreatDoor
