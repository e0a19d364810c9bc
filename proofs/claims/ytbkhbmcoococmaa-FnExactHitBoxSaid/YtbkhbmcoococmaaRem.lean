/-
  RemoveBox, of the program and of the reference.
-/
import Derived.Test.YtbkhbmcoococmaaRen
import Derived.Test.YtbkhbmcoococmaaSAdd
namespace Go.Proofs.Ytbkhbmcoococmaa
open Go Go.RowKit

theorem Rd.take {w : World} {b off n c : Nat} {l : List Bx} (h : Rd w 9 (.slice (some ⟨b, off, none⟩) n c) (Bs l)) {m : Nat} (hm : m ≤ l.length) :
    Rd w 9 (.slice (some ⟨b, off, none⟩) m c) (Bs (l.take m)) := by
  have := h.sub (i := 0) (m := m) (by omega)
  rw [Nat.zero_mul, Nat.add_zero, Nat.sub_zero, List.drop_zero] at this
  exact this
/-- what RemoveBox of the reference has built behind box k -/
def remTo (l : List Bx) (a k : Nat) : List Bx := l.take a ++ ((l.take k).drop (a + cntS l a)).map (drp a (cntS l a))
theorem remTo_start (l : List Bx) (a : Nat) : remTo l a (a + cntS l a) = l.take a := by
  unfold remTo
  rw [List.drop_eq_nil_of_le (by rw [List.length_take]; omega)]
  simp
theorem remTo_full (l : List Bx) (a : Nat) : remTo l a l.length = remL l a := by
  unfold remTo remL
  rw [List.take_of_length_le (Nat.le_refl _)]
theorem remTo_succ {l : List Bx} {a k : Nat} {y : Bx} (hk : a + cntS l a ≤ k) (hy : l[k]? = some y) : remTo l a (k + 1) = remTo l a k ++ [drp a (cntS l a) y] := by
  have hkl := (List.getElem?_eq_some_iff.1 hy).1
  unfold remTo
  rw [List.take_add_one, hy, List.drop_append_of_le_length (by rw [List.length_take]; omega)]
  simp
theorem remTo_length (l : List Bx) (a k : Nat) : (remTo l a k).length ≤ l.length + l.length := by
  unfold remTo
  simp only [List.length_append, List.length_take, List.length_map, List.length_drop]
  omega
/-- a valid tree and a number of one of its boxes other than the first -/
def remB (l : List Bx) (i : Int) : Bool := vldB l && inR i 1 ((l.length : Int) - 1)
theorem remB_iff {l : List Bx} {i : Int} : remB l i = true ↔ Valid l ∧ 0 < i ∧ i < l.length := by
  unfold remB
  rw [Bool.and_eq_true, vldB_iff, inR_iff]
  constructor
  · rintro ⟨h, h1, h2⟩; exact ⟨h, by omega, by omega⟩
  · rintro ⟨h, h1, h2⟩; exact ⟨h, by omega, by omega⟩
theorem Rd.dropIf {w : World} {b off n c : Nat} {l : List Bx} (h : Rd w 9 (.slice (some ⟨b, off, none⟩) n c) (Bs l)) {e : Nat} (he : e ≤ l.length) :
    Rd w 9 (.slice (if c = e then some ⟨b, off, none⟩ else some ⟨b, off + e * 9, none⟩) (l.length - e) (c - e)) (Bs (l.drop e)) := by
  have hs := h.sub (i := e) (m := l.length - e) (by omega)
  rw [List.take_of_length_le (by rw [List.length_drop]; omega)] at hs
  obtain ⟨a', n', c', e', hl, hn, hc, _⟩ := h
  cases e'
  rw [Bs_length] at hl
  split
  · have h1 : l.length - e = 0 := by omega
    rw [List.drop_eq_nil_of_le (by omega), h1]
    exact Rd.empty _ _ _ _ (by omega)
  · exact hs



end Go.Proofs.Ytbkhbmcoococmaa
