/-
  An argument that is a list of structs of nine numbers, opened: it reads as a list of boxes.
-/
import Derived.Test.YtbkhbmcoococmaaAc
import Derived.Deep.Fields
namespace Go.Proofs.Ytbkhbmcoococmaa
open Go Go.RowKit Go.ChangeShapes Go.WideShapes

theorem open_boxes {H : Type} {enc : TypeId × Value → H} {P : Program} {W : World} {base : Nat} {sp : Nat → Bool} {held : Bool} {t e it : TypeId} {fs : Array Field}
    (ht : P.underlying t = some (.slice e)) (he : P.underlying e = some (.struct fs)) (hi : P.underlying it = some (.int .i64)) (hc : P.cellsOf e = 9) (hci : P.cellsOf it = 1) (hn : fs.size = 9)
    (hf : ∀ (j : Nat) (f : Field), fs[j]? = some f → f.offset = j ∧ f.type = it) {fuel : Nat} {a0 : Option Addr} {len cap : Nat} {x : DataW H × List MemPlace}
    (h : DataW.trod enc P W base sp held fuel t [.slice a0 len cap] = some x) : ∃ l : List Bx, l.length = len ∧ Rd W 9 (.slice a0 len cap) (Bs l) := by
  rcases Deep.open_slice ht h with ⟨hcs, _⟩ | ⟨a, len', cap', m, n, D, Pl, hcs, hb, hl, hm, hmm, _, hx⟩
  · simp only [List.cons.injEq, Value.slice.injEq, and_true] at hcs
    obtain ⟨rfl, rfl, rfl⟩ := hcs
    exact ⟨[], rfl, Rd.nil _ _⟩
  · simp only [List.cons.injEq, Value.slice.injEq, and_true] at hcs
    obtain ⟨rfl, rfl, rfl⟩ := hcs
    have hlm : len ≤ m := by rw [hmm]; split <;> omega
    have each : ∀ i, i < len → ∃ y : Bx, ∀ (j : Nat) (v : Value), y.vals[j]? = some v → W.cell? ((a.add (i * 9)).add j) = some v := by
      intro i hil
      obtain ⟨cs', h1, h2⟩ := hx i (by omega)
      rw [hc] at h1
      obtain ⟨_, hlen, hcell⟩ := World.cells?_some h1
      obtain ⟨xs, k, _, _, _, hxl, hfx⟩ := DataW.trod_struct he h2
      have one : ∀ j, j < 9 → ∃ z : Int, cs'[j]? = some (.int .i64 z) := by
        intro j hj
        obtain ⟨f, hfj⟩ : ∃ f, fs[j]? = some f := ⟨_, Array.getElem?_eq_getElem (by omega)⟩
        obtain ⟨ho, hty⟩ := hf j f hfj
        have g := hfx j f hfj
        rw [ho, hty, hci, List.getElem?_eq_getElem (by omega)] at g
        obtain ⟨z, hz, _⟩ := DataW.trod_int hi g
        rw [Deep.take1_drop cs' j undef (by omega)] at hz
        simp only [List.cons.injEq, and_true] at hz
        refine ⟨z, ?_⟩
        rw [← hz, List.getD_eq_getElem?_getD, List.getElem?_eq_getElem (by omega)]
        rfl
      obtain ⟨z0, e0⟩ := one 0 (by omega)
      obtain ⟨z1, e1⟩ := one 1 (by omega)
      obtain ⟨z2, e2⟩ := one 2 (by omega)
      obtain ⟨z3, e3⟩ := one 3 (by omega)
      obtain ⟨z4, e4⟩ := one 4 (by omega)
      obtain ⟨z5, e5⟩ := one 5 (by omega)
      obtain ⟨z6, e6⟩ := one 6 (by omega)
      obtain ⟨z7, e7⟩ := one 7 (by omega)
      obtain ⟨z8, e8⟩ := one 8 (by omega)
      refine ⟨⟨z0, z1, z2, z3, z4, z5, z6, z7, z8⟩, fun j v hj => ?_⟩
      have hj9 : j < 9 := (List.getElem?_eq_some_iff.1 hj).1
      rw [hcell j hj9]
      have : j = 0 ∨ j = 1 ∨ j = 2 ∨ j = 3 ∨ j = 4 ∨ j = 5 ∨ j = 6 ∨ j = 7 ∨ j = 8 := by omega
      rcases this with rfl | rfl | rfl | rfl | rfl | rfl | rfl | rfl | rfl
      · rw [e0]; exact hj
      · rw [e1]; exact hj
      · rw [e2]; exact hj
      · rw [e3]; exact hj
      · rw [e4]; exact hj
      · rw [e5]; exact hj
      · rw [e6]; exact hj
      · rw [e7]; exact hj
      · rw [e8]; exact hj
    have : Inhabited Bx := ⟨zb⟩
    obtain ⟨q, hq⟩ := Deep.choose_lt each
    refine ⟨(List.range len).map q, by simp, ?_⟩
    rcases Nat.eq_zero_or_pos len with h0 | h0
    · subst h0
      exact Rd.empty _ _ _ _ hm
    · have hsp : a.spot = none := by
        have := hq 0 h0 0 _ rfl
        rw [Deep.add_add] at this
        simpa [Addr.add] using World.cell?_spot this
      obtain ⟨b, off, spot⟩ := a
      simp only at hsp
      subst hsp
      refine ⟨_, len, cap, rfl, by rw [Bs_length]; simp, hl, hm, .inr ⟨b, off, rfl, fun j x hj => ?_⟩⟩
      have hjl := (List.getElem?_eq_some_iff.1 hj).1
      rw [Bs_length, List.length_map, List.length_range] at hjl
      obtain ⟨i, hi⟩ : ∃ i, i = j / 9 := ⟨_, rfl⟩
      obtain ⟨r, hr⟩ : ∃ r, r = j % 9 := ⟨_, rfl⟩
      have hji : j = i * 9 + r := by omega
      have hr9 : r < 9 := by omega
      have hil : i < len := by omega
      subst hji
      have hg : ((List.range len).map q)[i]? = some (q i) := by simp [hil]
      rw [Bs_get hg hr9] at hj
      have := hq i hil r x hj
      rw [Deep.add_add, add_plain] at this
      exact this

theorem open_box {H : Type} {enc : TypeId × Value → H} {P : Program} {W : World} {base : Nat} {sp : Nat → Bool} {held : Bool} {e it : TypeId} {fs : Array Field}
    (he : P.underlying e = some (.struct fs)) (hi : P.underlying it = some (.int .i64)) (hci : P.cellsOf it = 1) (hn : fs.size = 9)
    (hf : ∀ (j : Nat) (f : Field), fs[j]? = some f → f.offset = j ∧ f.type = it) {fuel : Nat} {cs : Array Value} (hcs : cs.size = 9) {x : DataW H × List MemPlace}
    (h : DataW.trod enc P W base sp held fuel e cs.toList = some x) : ∃ y : Bx, Value.agg cs = y.agg := by
  obtain ⟨xs, k, _, _, _, hxl, hfx⟩ := DataW.trod_struct he h
  have hlen : cs.toList.length = 9 := by rw [Array.length_toList]; exact hcs
  have one : ∀ j, j < 9 → ∃ z : Int, cs.toList[j]? = some (.int .i64 z) := by
    intro j hj
    obtain ⟨f, hfj⟩ : ∃ f, fs[j]? = some f := ⟨_, Array.getElem?_eq_getElem (by omega)⟩
    obtain ⟨ho, hty⟩ := hf j f hfj
    have g := hfx j f hfj
    rw [ho, hty, hci, List.getElem?_eq_getElem (by omega)] at g
    obtain ⟨z, hz, _⟩ := DataW.trod_int hi g
    rw [Deep.take1_drop cs.toList j undef (by omega)] at hz
    simp only [List.cons.injEq, and_true] at hz
    refine ⟨z, ?_⟩
    rw [← hz, List.getD_eq_getElem?_getD, List.getElem?_eq_getElem (by omega)]
    rfl
  obtain ⟨z0, e0⟩ := one 0 (by omega)
  obtain ⟨z1, e1⟩ := one 1 (by omega)
  obtain ⟨z2, e2⟩ := one 2 (by omega)
  obtain ⟨z3, e3⟩ := one 3 (by omega)
  obtain ⟨z4, e4⟩ := one 4 (by omega)
  obtain ⟨z5, e5⟩ := one 5 (by omega)
  obtain ⟨z6, e6⟩ := one 6 (by omega)
  obtain ⟨z7, e7⟩ := one 7 (by omega)
  obtain ⟨z8, e8⟩ := one 8 (by omega)
  refine ⟨⟨z0, z1, z2, z3, z4, z5, z6, z7, z8⟩, ?_⟩
  unfold Bx.agg
  congr 1
  apply Array.ext'
  apply List.ext_getElem?
  intro j
  by_cases hj : j < 9
  · have : j = 0 ∨ j = 1 ∨ j = 2 ∨ j = 3 ∨ j = 4 ∨ j = 5 ∨ j = 6 ∨ j = 7 ∨ j = 8 := by omega
    rcases this with rfl | rfl | rfl | rfl | rfl | rfl | rfl | rfl | rfl
    · rw [e0]; rfl
    · rw [e1]; rfl
    · rw [e2]; rfl
    · rw [e3]; rfl
    · rw [e4]; rfl
    · rw [e5]; rfl
    · rw [e6]; rfl
    · rw [e7]; rfl
    · rw [e8]; rfl
  · rw [List.getElem?_eq_none (by omega), List.getElem?_eq_none (by simp; omega)]
end Go.Proofs.Ytbkhbmcoococmaa
