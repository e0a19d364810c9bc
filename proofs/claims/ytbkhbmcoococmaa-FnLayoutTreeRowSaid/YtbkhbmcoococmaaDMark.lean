/-
  What is drawn for the laws over dirty boxes: copyInts, spoil, someMarks, DrawDirtyRoots, DrawDirtyBoxes.
-/
import Derived.Test.YtbkhbmcoococmaaAg
import Derived.Test.YtbkhbmcoococmaaAe
namespace Go.Proofs.Ytbkhbmcoococmaa
open Go Go.RowKit

theorem Is_set (l : List Int) (j : Nat) (x : Int) : (Is l).set j (.int .i64 x) = Is (l.set j x) := by simp [Is, List.map_set]
theorem Own.tailI {w : World} {base b off n c : Nat} {x : Int} {l : List Int} (h : Own w base 1 (.slice (some ⟨b, off, none⟩) (n + 1) (c + 1)) (Is (x :: l))) : Own w base 1 (.slice (some ⟨b, off + 1, none⟩) n c) (Is l) := by
  obtain ⟨a', n', c', e, hl, hn, hc, h⟩ := h
  cases e
  refine ⟨_, n, c, rfl, ?_, by omega, by omega, ?_⟩
  · rw [Is_length] at hl ⊢
    simp at hl
    omega
  · rcases h with h | ⟨g, off', cur, e, e', hg, hh, hs, ht⟩
    · omega
    · cases e'
      refine .inr ⟨_, _, cur, e, rfl, hg, hh, by omega, ?_⟩
      have := congrArg (List.drop 1) ht
      rw [show Is (x :: l) = .int .i64 x :: Is l from rfl, List.drop_succ_cons, List.drop_zero, List.drop_take, List.drop_drop] at this
      simpa using this
theorem Rdr.grown {R m : Nat} {w w' : World} {row : Option Nat} (h : Rdr R w m) (hg : w.grownBy w' row) (hne : ∀ k, row = some k → R < k) : Rdr R w' m := by
  have hlt := h.lt
  obtain ⟨a, n, c, p, e, h, hp, hn, hc, hm, hr⟩ := h
  refine ⟨a, n, c, p, e, ?_, hp, hn, hc, hm, ?_⟩
  · rw [hg.block R hlt (fun e => by have := hne R e.symm; omega)]
    exact h
  · rcases hr with hr | ⟨b, off, ha, hb, hj⟩
    · exact .inl hr
    · refine .inr ⟨b, off, ha, hb, fun j hj' => ?_⟩
      obtain ⟨x, h1, h2, h3⟩ := hj j hj'
      refine ⟨x, h1, h2, ?_⟩
      rw [World.cell?_of_block (w := w) (hg.block b (by omega) (fun e => by have := hne b e.symm; omega))]
      exact h3
theorem bel_grown {R B : Nat} {w w1 w' : World} {row : Option Nat} (h : Bel R B w w1) (hg : w1.grownBy w' row) (hB : B ≤ w1.heap.size) (hr : ∀ k, row = some k → B ≤ k) : Bel R B w w' :=
  h.trans (bel_of ((Below.refl B w1).grown hg hB hr))
end Go.Proofs.Ytbkhbmcoococmaa
