/-
  How far a size can go: the two functions made in impl.flexed.
-/
import Derived.IntWalk
import Derived.Test.YtbkhbmcoococmaaAe
import Derived.Test.YtbkhbmcoococmaaAa
import Derived.Test.YtbkhbmcoococmaaShare
namespace Go.Proofs.Ytbkhbmcoococmaa
open Go Go.RowKit

/-- what impl.flexed keeps in memory: the list's value at S, the sizes' value at S + 2 -/
structure FlM (S : Nat) (w : World) (lv ov : Value) (out : List Int) : Prop where
  lt : S + 3 ≤ w.heap.size
  c0 : w.cell? ⟨S, 0, none⟩ = some lv
  c2 : w.cell? ⟨S + 2, 0, none⟩ = some ov
  f2 : w.frozen? ⟨S + 2, 0, none⟩ = false
  own : Own w (S + 1) 1 ov (Is out)
  ne : blk ov ≠ some (S + 2)
theorem frozen_below {B : Nat} {w w' : World} {p : Addr} (h : Below B w w') (hp : p.block < B) : w'.frozen? p = w.frozen? p := by
  have e := h.block p.block hp
  unfold World.frozen?
  rw [e]
theorem FlM.below {S : Nat} {w w' : World} {lv ov : Value} {out : List Int} (h : FlM S w lv ov out) (hb : Below w.heap.size w w') : FlM S w' lv ov out := by
  obtain ⟨h0, h1, h2, h3, h4, h5⟩ := h
  refine ⟨Nat.le_trans h0 hb.size, ?_, ?_, ?_, h4.below hb (Nat.le_refl _), h5⟩
  · rw [hb.cell (p := ⟨S, 0, none⟩) (by show S < _; omega)]; exact h1
  · rw [hb.cell (p := ⟨S + 2, 0, none⟩) (by show S + 2 < _; omega)]; exact h2
  · rw [frozen_below hb (p := ⟨S + 2, 0, none⟩) (by show S + 2 < _; omega)]; exact h3
theorem frozen_setCell (w : World) (p q : Addr) (u : Value) : (w.setCell p u).frozen? q = w.frozen? q := by
  unfold World.frozen? World.setCell
  simp only [Array.getElem?_modify]
  by_cases h : p.block = q.block
  · rw [if_pos h]
    cases h2 : w.heap[q.block]? with
    | none => rfl
    | some o => cases o <;> rfl
  · rw [if_neg h]
/-- a size is stored -/
theorem FlM.set {S : Nat} {w : World} {lv ov : Value} {out : List Int} (h : FlM S w lv ov out) {k : Nat} {x : Int} (hx : out[k]? = some x) :
    ∃ b off n c, ov = .slice (some ⟨b, off, none⟩) n c ∧ S + 1 ≤ b ∧ b < w.heap.size ∧ blk ov = some b ∧ out.length = n ∧ w.cell? ⟨b, off + k, none⟩ = some (.int .i64 x) ∧ w.frozen? ⟨b, off + k, none⟩ = false ∧
      ∀ u, FlM S (w.setCell ⟨b, off + k, none⟩ (.int .i64 u)) lv ov (out.set k u) := by
  obtain ⟨h0, h1, h2, h3, h4, h5⟩ := h
  have hk := (List.getElem?_eq_some_iff.1 hx).1
  obtain ⟨b, off, n, c, rfl, hn, hbk, hSb, hbs, hcell, hfz, hset⟩ := h4.cells (by
    intro h
    have := congrArg List.length h
    rw [Is_length, List.length_nil] at this
    omega)
  rw [Is_length] at hn
  have hb2 : b ≠ S + 2 := by
    intro e
    rw [hbk, e] at h5
    exact h5 rfl
  refine ⟨b, off, n, c, rfl, hSb, hbs, hbk, by omega, hcell k _ (Is_get hx), hfz k, fun u => ⟨by simpa [World.setCell] using h0, ?_, ?_, ?_, ?_, h5⟩⟩
  · rw [cell_setOther _ (by dsimp only; omega)]; exact h1
  · rw [cell_setOther _ (by dsimp only; omega)]; exact h2
  · rw [frozen_setCell]; exact h3
  · rw [← Is_set]
    exact hset k _ (by rw [Is_length]; exact hk)
set_option maxHeartbeats 1000000 in
theorem roomU_any {S : Nat} {lv ov : Value} {fs : List Flx} {out : List Int} (w : World) (hr : Rd w 5 lv (Fs fs)) (hM : FlM S w lv ov out) (hl : out.length = fs.length) {i : Nat} (hi : i < fs.length) (hf : ∀ f, f ∈ fs → flOk f) (hin : inB2 fs out) :
    Calls Try.prog 95 #[.int .i64 (i : Int), .pointer (some ⟨S, 0, none⟩), .pointer (some ⟨S + 2, 0, none⟩)] w fun e w' => e = .returned (.tuple #[.int .i64 (farI true (fx fs i) (out.getD i 0)), .int .i64 (wgtI true (fx fs i))]) ∧ ∃ m, w' = w.drewN m := by
  obtain ⟨x, hx⟩ : ∃ x, out[i]? = some x := ⟨_, List.getElem?_eq_getElem (by omega)⟩
  obtain ⟨f, hfi⟩ : ∃ f, fs[i]? = some f := ⟨_, List.getElem?_eq_getElem hi⟩
  obtain ⟨b, off, n, c, rfl, _, _, _, hn, cx, _, _⟩ := hM.set hx
  obtain ⟨a, c2, rfl, hn2, hc2, hcell⟩ := hr.flxs
  obtain ⟨b2, off2, rfl, _, hC⟩ := hcell i f hfi
  obtain ⟨e0, e1, e2, e3, e4⟩ := hC i f hfi
  obtain ⟨_, m1, m2, _, _, _⟩ := hM
  have hi2 := hin.2 i hi
  have ex : out.getD i 0 = x := by rw [List.getD_eq_getElem?_getD, hx]; rfl
  have ef : fx fs i = f := by unfold fx; rw [List.getD_eq_getElem?_getD, hfi]; rfl
  have hfo := hf f (List.mem_of_getElem? hfi)
  unfold flOk at hfo
  rw [ex, ef] at hi2 ⊢
  have hni : (i : Int) < n := by omega
  have hni2 : (i : Int) < fs.length := by omega
  have EF : Hid (farI true f x = f.max - x) := rfl
  have EW : Hid (wgtI true f = f.grow) := rfl
  rw [EF.out, EW.out]
  clear hcell hC hin hf hx hfi ex ef hr hl EF EW
  go_enter Try.func95, Try.ntmps95
  go_wp2
  go_quiet (fail)
  go_wp2
  go_ret2
  exact ⟨rfl, _, rfl⟩
set_option maxHeartbeats 1000000 in
theorem roomD_any {S : Nat} {lv ov : Value} {fs : List Flx} {out : List Int} (w : World) (hr : Rd w 5 lv (Fs fs)) (hM : FlM S w lv ov out) (hl : out.length = fs.length) {i : Nat} (hi : i < fs.length) (hf : ∀ f, f ∈ fs → flOk f) (hin : inB2 fs out) :
    Calls Try.prog 96 #[.int .i64 (i : Int), .pointer (some ⟨S + 2, 0, none⟩), .pointer (some ⟨S, 0, none⟩)] w fun e w' => e = .returned (.tuple #[.int .i64 (farI false (fx fs i) (out.getD i 0)), .int .i64 (wgtI false (fx fs i))]) ∧ ∃ m, w' = w.drewN m := by
  obtain ⟨x, hx⟩ : ∃ x, out[i]? = some x := ⟨_, List.getElem?_eq_getElem (by omega)⟩
  obtain ⟨f, hfi⟩ : ∃ f, fs[i]? = some f := ⟨_, List.getElem?_eq_getElem hi⟩
  obtain ⟨b, off, n, c, rfl, _, _, _, hn, cx, _, _⟩ := hM.set hx
  obtain ⟨a, c2, rfl, hn2, hc2, hcell⟩ := hr.flxs
  obtain ⟨b2, off2, rfl, _, hC⟩ := hcell i f hfi
  obtain ⟨e0, e1, e2, e3, e4⟩ := hC i f hfi
  obtain ⟨_, m1, m2, _, _, _⟩ := hM
  have hi2 := hin.2 i hi
  have ex : out.getD i 0 = x := by rw [List.getD_eq_getElem?_getD, hx]; rfl
  have ef : fx fs i = f := by unfold fx; rw [List.getD_eq_getElem?_getD, hfi]; rfl
  have hfo := hf f (List.mem_of_getElem? hfi)
  unfold flOk at hfo
  rw [ex, ef] at hi2 ⊢
  have hni : (i : Int) < n := by omega
  have hni2 : (i : Int) < fs.length := by omega
  have EF : Hid (farI false f x = x - f.min) := rfl
  have EW : Hid (wgtI false f = f.shrink) := rfl
  rw [EF.out, EW.out]
  clear hcell hC hin hf hx hfi ex ef hr hl EF EW
  go_enter Try.func96, Try.ntmps96
  go_wp2
  go_quiet (fail)
  go_wp2
  go_ret2
  exact ⟨rfl, _, rfl⟩
end Go.Proofs.Ytbkhbmcoococmaa
