/-
  impl: boxIn, made, Clone, StyleBox.
-/
import Derived.Test.YtmdlhjngiadlpaaVal2
import Derived.Test.YtmdlhjngiadlpaaBx
namespace Go.Proofs.Ytmdlhjngiadlpaa
open Go Go.RowKit

theorem el_box : EL Try.prog 23 25 (.agg #[.int .i64 0, .int .i64 0, .int .i64 0, .int .i64 0, .int .i64 0, .int .i64 0, .int .i64 0, .int .i64 0, .int .i64 0]) 9 72 :=
  ⟨by kernel_rfl, info_parts (by kernel_rfl), rfl, by decide, by decide⟩

/-- a valid tree and a number of one of its boxes -/
def inB (l : List Bx) (i : Int) : Bool := vldB l && inR i 0 ((l.length : Int) - 1)
theorem inB_iff {l : List Bx} {i : Int} : inB l i = true ↔ Valid l ∧ 0 ≤ i ∧ i < l.length := by
  unfold inB
  rw [Bool.and_eq_true, vldB_iff, inR_iff]
  constructor
  · rintro ⟨h, h1, h2⟩; exact ⟨h, h1, by omega⟩
  · rintro ⟨h, h1, h2⟩; exact ⟨h, h1, by omega⟩

set_option maxHeartbeats 1000000 in
theorem boxIn_any {v : Value} {l : List Bx} (i : Int) (w : World) (hv : Rd w 9 v (Bs l)) :
    Calls Try.prog 52 #[v, .int .i64 i] w fun e w' => e = .returned (.bool (inB l i)) ∧ Ext w w' := by
  have hrd := hv
  obtain ⟨a, c, rfl, hn, hc, _⟩ := hv.boxes
  unfold maxLen at hc
  go_enter Try.func52, Try.ntmps52
  by_cases h : vldB l = true
  · go_wp2_with (fail)
    refine (ValidTree_any (l := l) _ hrd).mono ?_
    rintro e w1 ⟨he, hx⟩
    rw [h] at he
    subst he
    go_wp2_with (fail)
    refine (within_any _ _ _ _).mono ?_
    rintro e w2 ⟨rfl, rfl⟩
    go_wp2
    go_ret
    exact ⟨by unfold inB; rw [h]; rfl, hx⟩
  · have h' : vldB l = false := by simpa using h
    go_wp2_with (fail)
    refine (ValidTree_any (l := l) _ hrd).mono ?_
    rintro e w1 ⟨he, hx⟩
    rw [h'] at he
    subst he
    go_wp2
    go_ret
    exact ⟨by unfold inB; rw [h']; rfl, hx⟩

/-- what 'made' hands back: the tree, or nothing -/
def orNo (ok : Bool) (l : List Bx) : List Bx := if ok then l else []

set_option maxHeartbeats 1000000 in
theorem made_any {base : Nat} {v : Value} {l : List Bx} (w : World) (hv : Own w base 9 v (Bs l)) (_hb : base ≤ w.heap.size) :
    Calls Try.prog 54 #[v] w fun e w' => ∃ v', e = .returned (.tuple #[v', .bool (vldB l)]) ∧ Own w' base 9 v' (Bs (orNo (vldB l) l)) ∧ Ext w w' := by
  have ho := hv
  obtain ⟨a, c, rfl, hn, hc, _⟩ := hv.rd.boxes
  unfold maxLen at hc
  go_enter Try.func54, Try.ntmps54
  by_cases h : vldB l = true
  · have H := Lib.hid h
    go_wp2_with (fail)
    refine (ValidTree_any (l := l) _ ho.rd).mono ?_
    rintro e w1 ⟨he, hx⟩
    rw [h] at he
    subst he
    clear h
    go_wp2_with (fail)
    refine (ClipB_any _ (ho.below hx (Nat.le_refl _))).mono ?_
    rintro e w2 ⟨v', rfl, ho2, rfl⟩
    go_wp2
    go_ret2
    refine ⟨_, by rw [H.out]; rfl, ?_, hx⟩
    rw [H.out]
    exact ho2
  · have h' : vldB l = false := by simpa using h
    have H := Lib.hid h'
    go_wp2_with (fail)
    refine (ValidTree_any (l := l) _ ho.rd).mono ?_
    rintro e w1 ⟨he, hx⟩
    rw [h'] at he
    subst he
    clear h h'
    go_wp2
    go_ret2
    refine ⟨_, by rw [H.out]; rfl, ?_, hx⟩
    rw [H.out]
    exact Own.nil _ _ _

set_option maxHeartbeats 1000000 in
theorem CloneB_any {v : Value} {l : List Bx} (w : World) (hv : Rd w 9 v (Bs l)) (hl : l.length ≤ 1048577) :
    Calls Try.prog 53 #[v] w fun e w' => ∃ v', e = .returned v' ∧ Own w' w.heap.size 9 v' (Bs l) ∧ Ext w w' := by
  have hrd := hv
  obtain ⟨a, c, rfl, hn, hc, hcell⟩ := hv.boxes
  unfold maxLen at hc
  have e1 := Lib.run_eql_slice_nil (P := Try.prog)
  have hbl := Bs_length l
  have Hl := Lib.hid hl
  cases a with
  | none =>
    obtain rfl : l = [] := by
      cases l with
      | nil => rfl
      | cons x r =>
        obtain ⟨b, off, h, _⟩ := hcell 0 x rfl
        cases h
    clear hcell
    go_enter Try.func53, Try.ntmps53
    go_wp2
    go_ret
    exact ⟨_, rfl, Own.nil _ _ _, Below.refl _ _⟩
  | some a =>
    clear hcell
    go_enter Try.func53, Try.ntmps53
    go_wp2_with (at_builtin; refine wpList_app rfl _ _ _ rfl el_box rfl (Own.empty _ w.heap.size _ _) rfl (hrd.alloc _) (Bs_one l) ?hl ?hb ?hK)
    case hl => rw [hbl]; have := Hl.out; simp; omega
    case hb => simp
    intro v' w1 ho1 hg1 hf1
    have hb1 := below_app (Below.of_alloc w _) (Own.empty _ w.heap.size 9 _) hg1 (by simp) (Nat.le_refl _)
    go_wp2
    go_ret
    exact ⟨_, rfl, ho1, hb1⟩

def styleL (l : List Bx) (i : Int) (b : Bx) : List Bx := l.set i.toNat (b.at (par l i.toNat))
def styleOk (l : List Bx) (i : Int) (b : Bx) : Bool := inB l i && vldB (styleL l i b)

set_option maxHeartbeats 2000000 in
set_option maxRecDepth 100000 in
theorem StyleBox_any {v : Value} {l : List Bx} (i : Int) (x : Bx) (w : World) (hv : Rd w 9 v (Bs l)) :
    Calls Try.prog 16 #[v, .int .i64 i, x.agg] w fun e w' => ∃ v', e = .returned (.tuple #[v', .bool (styleOk l i x)]) ∧ Own w' w.heap.size 9 v' (Bs (orNo (styleOk l i x) (styleL l i x))) ∧ Ext w w' := by
  have hrd := hv
  obtain ⟨a, c, rfl, hn, hc, hcell⟩ := hv.boxes
  unfold maxLen at hc
  unfold Bx.agg
  go_enter Try.func16, Try.ntmps16
  by_cases h : inB l i = true
  · have hh := inB_iff.1 h
    obtain ⟨hval, h0, hi⟩ := hh
    obtain ⟨i, rfl⟩ := Int.eq_ofNat_of_zero_le h0
    have hi' : i < l.length := by omega
    obtain ⟨b, off, rfl, hbl, hC⟩ := hcell i _ (bx_get hi')
    have HC := Lib.hid hC
    have H := Lib.hid h
    have Hl := Lib.hid hval.hi
    clear hC hcell hval hv
    go_wp2_with (fail)
    refine (boxIn_any (l := l) (i : Int) _ (hrd.alloc _)).mono ?_
    rintro e w1 ⟨he, hx⟩
    rw [h] at he
    subst he
    have hb1 := after (Below.of_alloc w _) hx (Nat.le_refl _)
    obtain ⟨c0, _⟩ := (HC.out i _ (bx_get hi')).below hb1 hbl
    have hB : w1.heap[w.heap.size]? = some (.cells x.arr 25) := by
      rw [hx.block _ (by simp)]
      exact heap_alloc_new w _
    have hB2 := setCell_heap hB 0 (.int .i64 (par l i))
    have hb2 := hb1.setCell (p := ⟨w.heap.size, 0, none⟩) (Nat.le_refl _) (.int .i64 (par l i))
    have p0 : w1.cell? ⟨w.heap.size, 0, none⟩ = some (.int .i64 x.parent) := by rw [cell_of_heap hB]; rfl
    have f0 : w1.frozen? ⟨w.heap.size, 0, none⟩ = false := frozen_of_heap hB
    have hsz := hb1.size
    have HB := Lib.hid hB2
    clear h hx hB hB2
    go_wp2_with (fail)
    refine (CloneB_any (l := l) _ (hrd.below hb2 (Nat.le_refl _)) (by have := Hl.out; omega)).mono ?_
    rintro e w2 ⟨v2, rfl, ho2, hx2⟩
    have hb3 := after hb2 hx2 (Nat.le_refl _)
    have hB3 : w2.heap[w.heap.size]? = some (.cells (x.at (par l i)).arr 25) := by
      have h := hx2.block w.heap.size (by have := (Array.getElem?_eq_some_iff.1 HB.out).1; exact this)
      rw [h]
      exact HB.out
    obtain ⟨d0, d1, d2, d3, d4, d5, d6, d7, d8⟩ := cells9_of hB3
    obtain ⟨b2, off2, n2, c2, rfl, hn2, _, hbb2, hbs2, hcell2, hfz, _⟩ := ho2.cells (by
      intro e
      have := congrArg List.length e
      rw [Bs_length, List.length_nil] at this
      omega)
    rw [Bs_length] at hn2
    obtain rfl : n2 = l.length := by omega
    obtain ⟨a', c', e', _, _, hC2⟩ := ho2.rd.boxes
    simp only [Value.slice.injEq] at e'
    obtain ⟨rfl, _, rfl⟩ := e'
    obtain ⟨b', off', e', _, hC3⟩ := hC2 i _ (bx_get hi')
    cases e'
    obtain ⟨g0, g1, g2, g3, g4, g5, g6, g7, g8⟩ := hC3 i _ (bx_get hi')
    have q0 := hfz (i * 9)
    have q1 := hfz (i * 9 + 1)
    have q2 := hfz (i * 9 + 2)
    have q3 := hfz (i * 9 + 3)
    have q4 := hfz (i * 9 + 4)
    have q5 := hfz (i * 9 + 5)
    have q6 := hfz (i * 9 + 6)
    have q7 := hfz (i * 9 + 7)
    have q8 := hfz (i * 9 + 8)
    simp only [← Nat.add_assoc] at q1 q2 q3 q4 q5 q6 q7 q8
    have hset := setBx_own ho2 rfl hi' (x.at (par l i))
    clear hcell2 hfz hC2 hC3 hB3 c0 p0 f0 hx2
    have hwb : w.heap.size ≤ b2 := by
      have h2 : w.heap.size ≤ (w1.setCell ⟨w.heap.size, 0, none⟩ (.int .i64 (par l i))).heap.size := by simp [World.setCell]; exact hsz
      omega
    have hsb := setBx_below (o := off2 + i * 9) w2 (x.at (par l i)) hwb
    have hst : Hid (styleOk l (i : Int) x = vldB (l.set i (x.at (par l i)))) := by
      show _ = _
      unfold styleOk styleL
      rw [H.out]
      simp
    have hsl : Hid (styleL l (i : Int) x = l.set i (x.at (par l i))) := by
      show _ = _
      unfold styleL
      simp
    have hbs : w.heap.size ≤ (w1.setCell ⟨w.heap.size, 0, none⟩ (.int .i64 (par l i))).heap.size := by simp [World.setCell]; exact hsz
    have hset := hset.weak hbs
    have hb4 := hb3.trans hsb
    have hmd := Lib.hid (made_any (l := l.set i (x.at (par l i))) _ hset (by have := hb4.size; exact this))
    clear hset hsb
    go_wp2_with (fail)
    refine hmd.out.mono ?_
    rintro e w3 ⟨v3, rfl, ho3, hx3⟩
    go_wp2
    go_ret2
    exact ⟨_, by rw [hst.out]; rfl, by rw [hst.out, hsl.out]; exact ho3, after hb4 hx3 (Nat.le_refl _)⟩
  · have h' : inB l i = false := by simpa using h
    have hst : Hid (styleOk l i x = false) := by
      show _ = _
      unfold styleOk
      rw [h']
      rfl
    clear h hcell
    go_wp2_with (fail)
    refine (boxIn_any (l := l) i _ (hrd.alloc _)).mono ?_
    rintro e w1 ⟨he, hx⟩
    rw [h'] at he
    subst he
    go_wp2
    go_ret2
    refine ⟨_, by rw [hst.out]; rfl, ?_, after (Below.of_alloc w _) hx (Nat.le_refl _)⟩
    rw [hst.out]
    exact Own.nil _ _ _
end Go.Proofs.Ytmdlhjngiadlpaa
