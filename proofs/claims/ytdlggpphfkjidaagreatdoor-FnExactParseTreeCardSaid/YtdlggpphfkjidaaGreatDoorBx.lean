/-
  A box stored into a tree of the call's own, as one step.
-/
import Derived.Test.YtdlggpphfkjidaaGreatDoorTree
namespace Go.Proofs.YtdlggpphfkjidaaGreatDoor
open Go Go.RowKit

def setBx (w : World) (b o : Nat) (x : Bx) : World :=
  ((((((((w.setCell ⟨b, o, none⟩ (.int .i64 x.parent)).setCell ⟨b, o + 1, none⟩ (.int .i64 x.kind)).setCell ⟨b, o + 2, none⟩ (.int .i64 x.w)).setCell ⟨b, o + 3, none⟩ (.int .i64 x.h)).setCell ⟨b, o + 4, none⟩ (.int .i64 x.pad)).setCell ⟨b, o + 5, none⟩ (.int .i64 x.gap)).setCell ⟨b, o + 6, none⟩ (.int .i64 x.grow)).setCell ⟨b, o + 7, none⟩ (.int .i64 x.shrink)).setCell ⟨b, o + 8, none⟩ (.int .i64 x.justify)
theorem setBx_eq (w : World) (b o : Nat) (x : Bx) : ((((((((w.setCell ⟨b, o, none⟩ (.int .i64 x.parent)).setCell ⟨b, o + 1, none⟩ (.int .i64 x.kind)).setCell ⟨b, o + 2, none⟩ (.int .i64 x.w)).setCell ⟨b, o + 3, none⟩ (.int .i64 x.h)).setCell ⟨b, o + 4, none⟩ (.int .i64 x.pad)).setCell ⟨b, o + 5, none⟩ (.int .i64 x.gap)).setCell ⟨b, o + 6, none⟩ (.int .i64 x.grow)).setCell ⟨b, o + 7, none⟩ (.int .i64 x.shrink)).setCell ⟨b, o + 8, none⟩ (.int .i64 x.justify) = setBx w b o x := rfl
theorem setBx_below {B b o : Nat} (w : World) (x : Bx) (h : B ≤ b) : Below B w (setBx w b o x) := by
  have s0 := (Below.refl B w).setCell (p := ⟨b, o, none⟩) h (.int .i64 x.parent)
  have s1 := s0.setCell (p := ⟨b, o + 1, none⟩) h (.int .i64 x.kind)
  have s2 := s1.setCell (p := ⟨b, o + 2, none⟩) h (.int .i64 x.w)
  have s3 := s2.setCell (p := ⟨b, o + 3, none⟩) h (.int .i64 x.h)
  have s4 := s3.setCell (p := ⟨b, o + 4, none⟩) h (.int .i64 x.pad)
  have s5 := s4.setCell (p := ⟨b, o + 5, none⟩) h (.int .i64 x.gap)
  have s6 := s5.setCell (p := ⟨b, o + 6, none⟩) h (.int .i64 x.grow)
  have s7 := s6.setCell (p := ⟨b, o + 7, none⟩) h (.int .i64 x.shrink)
  exact s7.setCell (p := ⟨b, o + 8, none⟩) h (.int .i64 x.justify)
theorem setBx_own {w : World} {base : Nat} {v : Value} {l : List Bx} (h : Own w base 9 v (Bs l)) {b off n c : Nat} (hv : v = .slice (some ⟨b, off, none⟩) n c) {i : Nat} (hi : i < l.length) (x : Bx) :
    Own (setBx w b (off + i * 9) x) base 9 v (Bs (l.set i x)) := h.setBox hv hi x
theorem setBx_size (w : World) (b o : Nat) (x : Bx) : (setBx w b o x).heap.size = w.heap.size := by
  simp [setBx, World.setCell]

theorem heapAt {w : World} (o : Obj) {g : Nat} (h : g = w.heap.size) : (w.alloc o).heap[g]? = some o := by
  subst h
  exact heap_alloc_new w o

/-- what lies in a block -/
def Keep (k : Nat) (o : Obj) (w : World) : Prop := w.heap[k]? = some o
theorem Keep.lt {k : Nat} {o : Obj} {w : World} (h : Keep k o w) : k < w.heap.size := (Array.getElem?_eq_some_iff.1 h).1
theorem Keep.alloc {k : Nat} {o : Obj} {w : World} (h : Keep k o w) (o' : Obj) : Keep k o (w.alloc o') := by
  unfold Keep
  rw [Below.heap_alloc _ _ _ h.lt]
  exact h
theorem Keep.new (w : World) (o : Obj) : Keep w.heap.size o (w.alloc o) := heap_alloc_new w o
theorem Keep.setOther {k : Nat} {o : Obj} {w : World} (h : Keep k o w) {p : Addr} (hp : k ≠ p.block) (u : Value) : Keep k o (w.setCell p u) := by
  unfold Keep
  rw [Below.heap_setCell _ _ _ _ hp]
  exact h
theorem Keep.cell {k : Nat} {cs : Array Value} {e : TypeId} {w : World} (h : Keep k (.cells cs e) w) (o : Nat) : w.cell? ⟨k, o, none⟩ = cs[o]? := cell_of_heap h
theorem Keep.frozen {k : Nat} {cs : Array Value} {e : TypeId} {w : World} (h : Keep k (.cells cs e) w) (o : Nat) : w.frozen? ⟨k, o, none⟩ = false := frozen_of_heap h
theorem Keep.store {k : Nat} {cs : Array Value} {e : TypeId} {w : World} (h : Keep k (.cells cs e) w) (o : Nat) (u : Value) : Keep k (.cells (cs.setIfInBounds o u) e) (w.setCell ⟨k, o, none⟩ u) := setCell_heap h o u
/-- the nine cells of a result that is stored -/
theorem Keep.frozen9 {k : Nat} {cs : Array Value} {e : TypeId} {w : World} (h : Keep k (.cells cs e) w) : (∀ o, w.frozen? ⟨k, o, none⟩ = false) := fun o => h.frozen o

end Go.Proofs.YtdlggpphfkjidaaGreatDoor
