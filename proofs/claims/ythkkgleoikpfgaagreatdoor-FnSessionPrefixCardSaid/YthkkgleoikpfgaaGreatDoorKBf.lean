/-
  Parts of the proof: DMark.
-/
import Derived.Test.YthkkgleoikpfgaaGreatDoorKAn
import Derived.Test.YthkkgleoikpfgaaGreatDoorKAj
namespace Go.Proofs.YthkkgleoikpfgaaGreatDoor
open Go Go.RowKit
theorem Rdr.grown {R m : Nat} {w w' : World} {row : Option Nat} (h : Rdr R w m) (hg : w.grownBy w' row) (hne : ∀ k, row = some k → R < k) : Rdr R w' m := by
 have hlt := h.lt
 obtain ⟨a, n, c, p, e, h, hp, hn, hc, hm, hr⟩ := h
 refine ⟨a, n, c, p, e, ?_, hp, hn, hc, hm, ?_⟩
 ·rw [hg.block R hlt (fun e => by have := hne R e.symm; omega)]
  exact h
 ·rcases hr with hr | ⟨b, off, ha, hb, hj⟩
  ·exact .inl hr
  ·refine .inr ⟨b, off, ha, hb, fun j hj' => ?_⟩
   obtain ⟨x, h1, h2, h3⟩ := hj j hj'
   refine ⟨x, h1, h2, ?_⟩
   rw [World.cell?_of_block (w := w) (hg.block b (by omega) (fun e => by have := hne b e.symm; omega))]
   exact h3
theorem bel_grown {R B : Nat} {w w1 w' : World} {row : Option Nat} (h : Bel R B w w1) (hg : w1.grownBy w' row) (hB : B ≤ w1.heap.size) (hr : ∀ k, row = some k → B ≤ k) : Bel R B w w' :=
 h.trans (bel_of ((Below.refl B w1).grown hg hB hr))
end Go.Proofs.YthkkgleoikpfgaaGreatDoor
