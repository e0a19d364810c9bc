/-
  Parts of the proof: OpenS.
-/
import Derived.Test.YthkkgleoikpfgaaGreatDoorKAd
import Derived.Deep.Strs
namespace Go.Proofs.YthkkgleoikpfgaaGreatDoor
open Go Go.RowKit Go.ChangeShapes Go.WideShapes
theorem open_texts {H : Type} {enc : TypeId × Value → H} {P : Program} {W : World} {base : Nat} {sp : Nat → Bool} {held : Bool} {t e : TypeId}
 (ht : P.underlying t = some (.slice e)) (he : P.underlying e = some .string) (hc : P.cellsOf e = 1) {fuel : Nat} {a0 : Option Addr} {len cap : Nat} {x : DataW H × List MemPlace}
 (h : DataW.trod enc P W base sp held fuel t [.slice a0 len cap] = some x) : ∃ l : List (List UInt8), (∀ y, y ∈ l → y.length ≤ maxLen) ∧ Rd W 1 (.slice a0 len cap) (Ss l) := by
 rcases Deep.open_strs ht he hc h with ⟨hcs, _⟩ | ⟨a, len', cap', m, S, hcs, _, hl, hm, hmm, _, hcell⟩
 ·simp only [List.cons.injEq, Value.slice.injEq, and_true] at hcs
  obtain ⟨rfl, rfl, rfl⟩ := hcs
  exact ⟨[], fun _ h => absurd h List.not_mem_nil, Rd.nil _ _⟩
 ·simp only [List.cons.injEq, Value.slice.injEq, and_true] at hcs
  obtain ⟨rfl, rfl, rfl⟩ := hcs
  have hlm : len ≤ m := by rw [hmm]; split <;> omega
  refine ⟨(List.range len).map fun i => (S i).data.toList, fun y hy => ?_, ?_⟩
  ·obtain ⟨i, hi, rfl⟩ := List.mem_map.1 hy
   have h2 := (hcell i (by have := List.mem_range.1 hi; omega)).2
   simpa using h2
  ·rcases Nat.eq_zero_or_pos len with h0 | h0
   ·subst h0
    exact Rd.empty _ _ _ _ hm
   ·have hsp : a.spot = none := by
     have := (hcell 0 (by omega)).1
     simpa [Addr.add] using World.cell?_spot this
    obtain ⟨b, off, spot⟩ := a
    simp only at hsp
    subst hsp
    refine ⟨_, len, cap, rfl, by rw [Ss_length]; simp, hl, hm, .inr ⟨b, off, rfl, fun j x hj => ?_⟩⟩
    have hjl := (List.getElem?_eq_some_iff.1 hj).1
    rw [Ss_length, List.length_map, List.length_range] at hjl
    have hx : x = .string (S j) := by
     have e : (Ss ((List.range len).map fun i => (S i).data.toList))[j]? = some (sv (S j).data.toList) := by simp [Ss, hjl]
     rw [hj] at e
     have e2 := Option.some.inj e
     rw [e2]
     simp [sv]
    rw [hx, ← add_plain]
    exact (hcell j (by omega)).1
end Go.Proofs.YthkkgleoikpfgaaGreatDoor
