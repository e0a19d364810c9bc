/-
  impl: boxIn, made, Clone, StyleBox.
-/
import Derived.Test.YtckggmbmlpikhaaVal2
import Derived.Test.YtckggmbmlpikhaaBx
namespace Go.Proofs.Ytckggmbmlpikhaa
open Go Go.RowKit

theorem el_box : EL Try.prog 24 33 (.agg #[.int .i64 0, .int .i64 0, .int .i64 0, .int .i64 0, .int .i64 0, .int .i64 0, .int .i64 0, .int .i64 0, .int .i64 0]) 9 72 :=
  ⟨by kernel_rfl, info_parts (by kernel_rfl), rfl, by decide, by decide⟩

/-- a valid tree and a number of one of its boxes -/
def inB (l : List Bx) (i : Int) : Bool := vldB l && inR i 0 ((l.length : Int) - 1)
theorem inB_iff {l : List Bx} {i : Int} : inB l i = true ↔ Valid l ∧ 0 ≤ i ∧ i < l.length := by
  unfold inB
  rw [Bool.and_eq_true, vldB_iff, inR_iff]
  constructor
  · rintro ⟨h, h1, h2⟩; exact ⟨h, h1, by omega⟩
  · rintro ⟨h, h1, h2⟩; exact ⟨h, h1, by omega⟩

set_option maxHeartbeats 1000000 in
theorem boxIn_any {v : Value} {l : List Bx} (i : Int) (w : World) (hv : Rd w 9 v (Bs l)) :
    Calls Try.prog 47 #[v, .int .i64 i] w fun e w' => e = .returned (.bool (inB l i)) ∧ Ext w w' := by
  have hrd := hv
  obtain ⟨a, c, rfl, hn, hc, _⟩ := hv.boxes
  unfold maxLen at hc
  go_enter Try.func47, Try.ntmps47
  by_cases h : vldB l = true
  · go_wp2_with (fail)
    refine (ValidTree_any (l := l) _ hrd).mono ?_
    rintro e w1 ⟨he, hx⟩
    rw [h] at he
    subst he
    go_wp2_with (fail)
    refine (within_any _ _ _ _).mono ?_
    rintro e w2 ⟨rfl, rfl⟩
    go_wp2
    go_ret
    exact ⟨by unfold inB; rw [h]; rfl, hx⟩
  · have h' : vldB l = false := by simpa using h
    go_wp2_with (fail)
    refine (ValidTree_any (l := l) _ hrd).mono ?_
    rintro e w1 ⟨he, hx⟩
    rw [h'] at he
    subst he
    go_wp2
    go_ret
    exact ⟨by unfold inB; rw [h']; rfl, hx⟩

/-- what 'made' hands back: the tree, or nothing -/
def orNo (ok : Bool) (l : List Bx) : List Bx := if ok then l else []

set_option maxHeartbeats 1000000 in
theorem made_any {base : Nat} {v : Value} {l : List Bx} (w : World) (hv : Own w base 9 v (Bs l)) (_hb : base ≤ w.heap.size) :
    Calls Try.prog 50 #[v] w fun e w' => ∃ v', e = .returned (.tuple #[v', .bool (vldB l)]) ∧ Own w' base 9 v' (Bs (orNo (vldB l) l)) ∧ Ext w w' := by
  have ho := hv
  obtain ⟨a, c, rfl, hn, hc, _⟩ := hv.rd.boxes
  unfold maxLen at hc
  go_enter Try.func50, Try.ntmps50
  by_cases h : vldB l = true
  · have H := Lib.hid h
    go_wp2_with (fail)
    refine (ValidTree_any (l := l) _ ho.rd).mono ?_
    rintro e w1 ⟨he, hx⟩
    rw [h] at he
    subst he
    clear h
    go_wp2_with (fail)
    refine (ClipB_any _ (ho.below hx (Nat.le_refl _))).mono ?_
    rintro e w2 ⟨v', rfl, ho2, rfl⟩
    go_wp2
    go_ret2
    refine ⟨_, by rw [H.out]; rfl, ?_, hx⟩
    rw [H.out]
    exact ho2
  · have h' : vldB l = false := by simpa using h
    have H := Lib.hid h'
    go_wp2_with (fail)
    refine (ValidTree_any (l := l) _ ho.rd).mono ?_
    rintro e w1 ⟨he, hx⟩
    rw [h'] at he
    subst he
    clear h h'
    go_wp2
    go_ret2
    refine ⟨_, by rw [H.out]; rfl, ?_, hx⟩
    rw [H.out]
    exact Own.nil _ _ _

set_option maxHeartbeats 1000000 in
theorem CloneB_any {v : Value} {l : List Bx} (w : World) (hv : Rd w 9 v (Bs l)) (hl : l.length ≤ 1048577) :
    Calls Try.prog 48 #[v] w fun e w' => ∃ v', e = .returned v' ∧ Own w' w.heap.size 9 v' (Bs l) ∧ Ext w w' := by
  have hrd := hv
  obtain ⟨a, c, rfl, hn, hc, hcell⟩ := hv.boxes
  unfold maxLen at hc
  have e1 := Lib.run_eql_slice_nil (P := Try.prog)
  have hbl := Bs_length l
  have Hl := Lib.hid hl
  cases a with
  | none =>
    obtain rfl : l = [] := by
      cases l with
      | nil => rfl
      | cons x r =>
        obtain ⟨b, off, h, _⟩ := hcell 0 x rfl
        cases h
    clear hcell
    go_enter Try.func48, Try.ntmps48
    go_wp2
    go_ret
    exact ⟨_, rfl, Own.nil _ _ _, Below.refl _ _⟩
  | some a =>
    clear hcell
    go_enter Try.func48, Try.ntmps48
    go_wp2_with (at_builtin; refine wpList_app rfl _ _ _ rfl el_box rfl (Own.empty _ w.heap.size _ _) rfl (hrd.alloc _) (Bs_one l) ?hl ?hb ?hK)
    case hl => rw [hbl]; have := Hl.out; simp; omega
    case hb => simp
    intro v' w1 ho1 hg1 hf1
    have hb1 := below_app (Below.of_alloc w _) (Own.empty _ w.heap.size 9 _) hg1 (by simp) (Nat.le_refl _)
    go_wp2
    go_ret
    exact ⟨_, rfl, ho1, hb1⟩

end Go.Proofs.Ytckggmbmlpikhaa
