/-
  The laws FnNaturalSize, FnNaturalSizeKids, FnNaturalSizeRow, FnNaturalSizePad: the walks.
-/
import Derived.Test.YtckggmbmlpikhaaDraw
import Derived.Test.YtckggmbmlpikhaaNLaw
namespace Go.Proofs.Ytckggmbmlpikhaa
open Go Go.RowKit

/-- a list of numbers that is empty -/
theorem Rd.len {w : World} {v : Value} {l : List Int} (h : Rd w 1 v (Is l)) : ∃ a c, v = .slice a l.length c ∧ l.length ≤ c ∧ c ≤ maxLen := by
  obtain ⟨a, n, c, rfl, hl, hn, hc, _⟩ := h
  rw [Is_length] at hl
  obtain rfl : n = l.length := by omega
  exact ⟨a, c, rfl, hn, hc⟩
theorem mem_inB {l : List Bx} {i k : Nat} (h : inB l (i : Int) = true) (hk : k ∈ kid l (i : Int)) : inB l (k : Int) = true := by
  have := (mem_kid.1 hk).1
  exact inB_iff.2 ⟨(inB_iff.1 h).1, by omega, by omega⟩
theorem n_kid {l : List Bx} {i k : Nat} (h : inB l (i : Int) = true) (hk : k ∈ kid l (i : Int)) : nW l (k : Int) + 2 * (bx l i).pad ≤ nW l (i : Int) ∧ nH l (k : Int) + 2 * (bx l i).pad ≤ nH l (i : Int) := by
  obtain ⟨hv, h0, hi⟩ := inB_iff.1 h
  rw [nW_nat h, nH_nat h, nW_nat (mem_inB h hk), nH_nat (mem_inB h hk)]
  exact nat_kid hv (by omega) hk

end Go.Proofs.Ytckggmbmlpikhaa
