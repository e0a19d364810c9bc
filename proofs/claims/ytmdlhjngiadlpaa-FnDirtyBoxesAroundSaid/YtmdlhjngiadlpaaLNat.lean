/-
  The laws FnNaturalSize, FnNaturalSizeKids, FnNaturalSizeRow, FnNaturalSizePad: the walks.
-/
import Derived.Test.YtmdlhjngiadlpaaDraw
import Derived.Test.YtmdlhjngiadlpaaNLaw
namespace Go.Proofs.Ytmdlhjngiadlpaa
open Go Go.RowKit

set_option maxHeartbeats 1000000 in
theorem DrawNaturalSize_any {v : Value} (w : World) (hv : RdBytes w v) :
    Calls Try.prog 27 #[v] w fun e w' => ∃ (v' : Value) (i : Int), e = .returned (.tuple #[v', .int .i64 i]) ∧ ∃ l : List Bx, l.length ≤ 16 ∧ -1 ≤ i ∧ i ≤ 16 ∧ Own w' w.heap.size 9 v' (Bs l) ∧ Ext w w' := by
  go_enter Try.func27, Try.ntmps27
  go_wp2_with (fail)
  refine (DrawKidsOf_any _ hv).mono ?_
  rintro e w1 ⟨v1, i, rfl, l, hl, h0, h1, ho, hx⟩
  go_wp2
  go_ret2
  exact ⟨_, i, rfl, l, hl, h0, h1, ho, hx⟩

/-- a list of numbers that is empty -/
theorem Rd.len {w : World} {v : Value} {l : List Int} (h : Rd w 1 v (Is l)) : ∃ a c, v = .slice a l.length c ∧ l.length ≤ c ∧ c ≤ maxLen := by
  obtain ⟨a, n, c, rfl, hl, hn, hc, _⟩ := h
  rw [Is_length] at hl
  obtain rfl : n = l.length := by omega
  exact ⟨a, c, rfl, hn, hc⟩
theorem mem_inB {l : List Bx} {i k : Nat} (h : inB l (i : Int) = true) (hk : k ∈ kid l (i : Int)) : inB l (k : Int) = true := by
  have := (mem_kid.1 hk).1
  exact inB_iff.2 ⟨(inB_iff.1 h).1, by omega, by omega⟩
theorem n_kid {l : List Bx} {i k : Nat} (h : inB l (i : Int) = true) (hk : k ∈ kid l (i : Int)) : nW l (k : Int) + 2 * (bx l i).pad ≤ nW l (i : Int) ∧ nH l (k : Int) + 2 * (bx l i).pad ≤ nH l (i : Int) := by
  obtain ⟨hv, h0, hi⟩ := inB_iff.1 h
  rw [nW_nat h, nH_nat h, nW_nat (mem_inB h hk), nH_nat (mem_inB h hk)]
  exact nat_kid hv (by omega) hk

end Go.Proofs.Ytmdlhjngiadlpaa
