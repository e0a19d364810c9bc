/-
  make of numbers, rectangles, flexible sizes.
-/
import Derived.Laws.MakeOwn
import Derived.Test.YtdlggpphfkjidaaGreatDoorRc
import Derived.Test.YtdlggpphfkjidaaGreatDoorSlices
namespace Go.Proofs.YtdlggpphfkjidaaGreatDoor
open Go Go.RowKit

theorem mk_run {P : Program} {t e : TypeId} {z : Value} {size bytes : Nat} (E : EL P t e z size bytes) (n c : Nat) (hn : n ≤ c) (hc : c ≤ 1048576) (W : World) :
    (Instr.makeSlice t (.int .i64 (n : Int)) (.int .i64 (c : Int))).run P W = .ok (.slice (some ⟨W.heap.size, 0, none⟩) n c) (W.alloc (.cells (madeCells z.cells (c * size)) e)) := by
  obtain ⟨i, hi, hz, hsz, hby⟩ := E.info
  have hsm := E.small
  have hb : (i.bytes : Int) * (c : Int) ≤ 281474976710656 := by
    have h1 : i.bytes * c ≤ 1024 * 1048576 := Nat.mul_le_mul (by omega) hc
    have h : ((i.bytes * c : Nat) : Int) ≤ 281474976710656 := by omega
    rwa [Int.natCast_mul] at h
  have hr := run_make (P := P) W t e i z E.und hi hz .i64 .i64 n c (by omega) (by omega) hb (by omega)
  simp only [Int.toNat_natCast, hsz] at hr
  exact hr
theorem mk_run0 {P : Program} {t e : TypeId} {z : Value} {size bytes : Nat} (E : EL P t e z size bytes) (c : Nat) (hc : c ≤ 1048576) (W : World) :
    (Instr.makeSlice t (.int .i64 0) (.int .i64 (c : Int))).run P W = .ok (.slice (some ⟨W.heap.size, 0, none⟩) 0 c) (W.alloc (.cells (madeCells z.cells (c * size)) e)) := mk_run E 0 c (Nat.zero_le _) hc W
theorem madeCells_list (z : Array Value) (n : Nat) : (madeCells z n).toList = (List.range n).map fun i => z[i % z.size]! := by
  simp [madeCells, Array.toList_range]
theorem made_ints (n : Nat) : (madeCells (Value.int .i64 0).cells (n * 1)).toList = Is (List.replicate n 0) := by
  rw [madeCells_list, Nat.mul_one]
  apply List.ext_getElem?
  intro i
  by_cases hi : i < n
  · simp [Is, hi, Value.cells, Nat.mod_one]
  · rw [List.getElem?_eq_none (by simp; omega), List.getElem?_eq_none (by rw [Is_length]; simp; omega)]
theorem Own.madeInts (W : World) (base n c : Nat) (e : TypeId) (hb : base ≤ W.heap.size) (hn : n ≤ c) (hc : c ≤ 1048576) :
    Own (W.alloc (.cells (madeCells (Value.int .i64 0).cells (c * 1)) e)) base 1 (.slice (some ⟨W.heap.size, 0, none⟩) n c) (Is (List.replicate n 0)) := by
  have h := Own.made W (madeCells (Value.int .i64 0).cells (c * 1)) e base 1 n c hb hn (by unfold maxLen; omega) (size_madeCells _ _)
  rw [made_ints, show n * 1 = n from Nat.mul_one n] at h
  have e2 : (Is (List.replicate c 0)).take n = Is (List.replicate n 0) := by
    unfold Is
    rw [← List.map_take, List.take_replicate, Nat.min_eq_left hn]
  rw [e2] at h
  exact h
theorem made_rects (n : Nat) : (madeCells zr.agg.cells (n * 4)).toList = Rs (List.replicate n zr) := by
  rw [madeCells_list, Rs_zero]
  apply List.ext_getElem?
  intro i
  by_cases hi : i < n * 4
  · rw [List.getElem?_map, List.getElem?_range hi, List.getElem?_replicate, if_pos hi]
    have h4 : zr.agg.cells.size = 4 := rfl
    rw [h4]
    have : i % 4 = 0 ∨ i % 4 = 1 ∨ i % 4 = 2 ∨ i % 4 = 3 := by omega
    rcases this with h | h | h | h <;> simp only [Option.map_some, h] <;> rfl
  · rw [List.getElem?_eq_none (by simp; omega), List.getElem?_eq_none (by simp; omega)]
theorem Own.madeRects (W : World) (base n : Nat) (e : TypeId) (hb : base ≤ W.heap.size) (hn : n ≤ 1048576) :
    Own (W.alloc (.cells (madeCells zr.agg.cells (n * 4)) e)) base 4 (.slice (some ⟨W.heap.size, 0, none⟩) n n) (Rs (List.replicate n zr)) := by
  have h := Own.made W (madeCells zr.agg.cells (n * 4)) e base 4 n n hb (Nat.le_refl _) (by unfold maxLen; omega) (size_madeCells _ _)
  rw [made_rects, List.take_of_length_le (by rw [Rs_length, List.length_replicate]; exact Nat.le_refl _)] at h
  exact h
theorem Own.madeInts1 (W : World) (base n c : Nat) (e : TypeId) (hb : base ≤ W.heap.size) (hn : n ≤ c) (hc : c ≤ 1048576) :
    Own (W.alloc (.cells (madeCells #[Value.int .i64 0] c) e)) base 1 (.slice (some ⟨W.heap.size, 0, none⟩) n c) (Is (List.replicate n 0)) := by
  have h := Own.madeInts W base n c e hb hn hc
  rw [Nat.mul_one] at h
  exact h
end Go.Proofs.YtdlggpphfkjidaaGreatDoor
