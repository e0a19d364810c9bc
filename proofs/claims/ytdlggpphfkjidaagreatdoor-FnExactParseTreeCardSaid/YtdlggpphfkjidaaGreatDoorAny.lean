/-
  The generator of trees that may be spoilt: anyTree, someAt.
-/
import Derived.Test.YtdlggpphfkjidaaGreatDoorTr
namespace Go.Proofs.YtdlggpphfkjidaaGreatDoor
open Go Go.RowKit

theorem Bs_set1 {l : List Bx} {i f : Nat} {u : Value} {y : Bx} (hi : i < l.length) (hf : f < 9) (hy : y.vals = (bx l i).vals.set f u) : Bs (l.set i y) = (Bs l).set (i * 9 + f) u := by
  apply List.ext_getElem?
  intro q
  have hl := Bs_length l
  by_cases hq : q < l.length * 9
  · obtain ⟨k, hk⟩ : ∃ k, k = q / 9 := ⟨_, rfl⟩
    obtain ⟨j, hj⟩ : ∃ j, j = q % 9 := ⟨_, rfl⟩
    have hqe : q = k * 9 + j := by omega
    have hj9 : j < 9 := by omega
    have hkl : k < l.length := by omega
    clear hk hj
    subst hqe
    rw [List.getElem?_set]
    by_cases hki : k = i
    · subst hki
      rw [Bs_get (b := y) (by simp [hkl]) hj9, hy, List.getElem?_set]
      by_cases hjf : f = j
      · subst hjf
        rw [if_pos rfl, if_pos rfl, if_pos (by rw [Bx.vals_length]; omega), if_pos (by omega)]
      · rw [if_neg hjf, if_neg (by omega), Bs_get (bx_get hkl) hj9]
    · rw [if_neg (by omega), Bs_get (b := bx l k) (by rw [List.getElem?_set_ne (by omega)]; exact bx_get hkl) hj9, Bs_get (bx_get hkl) hj9]
  · rw [List.getElem?_eq_none (by rw [Bs_length, List.length_set]; omega), List.getElem?_eq_none (by simp only [List.length_set, hl]; omega)]

theorem Own.set1 {w : World} {base : Nat} {v : Value} {l : List Bx} (h : Own w base 9 v (Bs l)) {b off n c : Nat} (hv : v = .slice (some ⟨b, off, none⟩) n c) {i f : Nat} (hi : i < l.length) (hf : f < 9) {u : Value} {y : Bx} (hy : y.vals = (bx l i).vals.set f u) :
    Own (w.setCell ⟨b, off + i * 9 + f, none⟩ u) base 9 v (Bs (l.set i y)) := by
  rw [Nat.add_assoc]
  have hl := Bs_length l
  obtain ⟨b', off', n', c', e, _, _, _, _, _, _, hset⟩ := h.cells (by intro e; rw [e] at hl; simp at hl; omega)
  rw [hv] at e
  cases e
  rw [Bs_set1 hi hf hy]
  exact hset _ u (by omega)

theorem Own.cellF {w : World} {base b off n c : Nat} {l : List Bx} (h : Own w base 9 (.slice (some ⟨b, off, none⟩) n c) (Bs l)) {i : Nat} (hi : i < l.length) :
    Cells9 w b (off + i * 9) (bx l i) ∧ (∀ j, w.frozen? ⟨b, off + i * 9 + j, none⟩ = false) := by
  have hl := Bs_length l
  obtain ⟨b', off', n', c', e, _, _, _, _, _, hfz, _⟩ := h.cells (by intro e; rw [e] at hl; simp at hl; omega)
  cases e
  obtain ⟨a2, c2, e, _, _, hC⟩ := h.rd.boxes
  cases e
  obtain ⟨b3, off3, e, _, hC⟩ := hC i _ (bx_get hi)
  cases e
  exact ⟨hC i _ (bx_get hi), fun j => by rw [Nat.add_assoc]; exact hfz _⟩

theorem Own.tail {w : World} {base b off n c : Nat} {x : Bx} {l : List Bx} (h : Own w base 9 (.slice (some ⟨b, off, none⟩) (n + 1) (c + 1)) (Bs (x :: l))) : Own w base 9 (.slice (some ⟨b, off + 9, none⟩) n c) (Bs l) := by
  obtain ⟨a', n', c', e, hl, hn, hc, h⟩ := h
  cases e
  refine ⟨_, n, c, rfl, ?_, by omega, by omega, ?_⟩
  · rw [Bs_length] at hl ⊢
    simp at hl
    omega
  · rcases h with h | ⟨g, off', cur, e, e', hg, hh, hs, ht⟩
    · omega
    · cases e'
      refine .inr ⟨_, _, cur, e, rfl, hg, hh, by omega, ?_⟩
      have := congrArg (List.drop 9) ht
      rw [Bs_cons, List.drop_left' (Bx.vals_length x), List.drop_take, List.drop_drop] at this
      rw [← this]
      congr 1
      omega

set_option maxRecDepth 100000 in
set_option maxHeartbeats 4000000 in
theorem anyTree_any {R m : Nat} (w : World) (h : Rdr R w m) (hm : m ≤ 70000) :
    Calls Tryz.prog 17 #[.pointer (some ⟨R, 0, none⟩)] w fun e w' => ∃ v, e = .returned v ∧ ∃ l : List Bx, l.length ≤ 16 ∧ Own w' w.heap.size 9 v (Bs l) ∧ Rdr R w' (m + 310) ∧ ExtR R w w' := by
  have hRl := h.lt
  go_enter Tryz.func17, Tryz.ntmps17
  go_wp2_with (fail)
  refine (someTree_any _ h (by omega)).mono ?_
  rintro e w1 ⟨v, rfl, l, hl1, hl16, ho1, hr1, hb1⟩
  obtain ⟨a, c, rfl, hn, hc, hcell⟩ := ho1.rd.boxes
  unfold maxLen at hc
  have Hn := Lib.hid hn
  clear hcell
  go_wp2_with (fail)
  refine (pick_any (l.length : Int) _ hr1 (by omega)).mono ?_
  rintro e w2 ⟨at2, rfl, ⟨h20, h21⟩, hr2, hx2⟩
  have h21 := h21 (by omega)
  obtain ⟨i, rfl⟩ := Int.eq_ofNat_of_zero_le h20
  have hi : i < l.length := by omega
  have hb2 := afterR hb1 hx2 (Nat.le_refl _)
  have ho2 := ho1.bel hx2 hRl
  clear hx2 hr1 hb1 ho1
  go_wp2_with (fail)
  refine (pick_any 30 _ hr2 (by omega)).mono ?_
  rintro e w3 ⟨how, rfl, _, hr3, hx3⟩
  have hb3 := afterR hb2 hx3 (Nat.le_refl _)
  have ho3 := ho2.bel hx3 hRl
  clear hx3 hr2 hb2 ho2
  obtain ⟨b, off, n', c', e, _, hblk, hwb, hbl, _, hfz, _⟩ := ho3.cells (by
    intro e
    have := congrArg List.length e
    rw [Bs_length, List.length_nil] at this
    omega)
  cases e
  have hs3 := hb3.size
  by_cases h0 : how = 0
  · subst h0
    go_wp2_with (fail)
    refine (pick_any 5 _ hr3 (by omega)).mono ?_
    rintro e w4 ⟨r, rfl, ⟨hr0, hr1⟩, hr4, hx4⟩
    have hr1 := hr1 (by omega)
    have hb3' := hb3
    have ho3' := ho3
    have hb4 := afterR hb3' hx4 (Nat.le_refl _)
    have ho4 := ho3'.bel hx4 hRl
    obtain ⟨hC, hF⟩ := ho4.cellF hi
    have g := hC.c0
    have f := hF 0
    try simp only [Nat.add_zero] at f
    have hr5 := hr4.setCell (p := ⟨b, off + i * 9, none⟩) (show R < b by omega) (.int .i64 (r - 1))
    have hb5 := bel_setCell hb4 (p := ⟨b, off + i * 9, none⟩) hwb (.int .i64 (r - 1))
    have ho5 := ho4.set1 rfl hi (f := 0) (by omega) (u := .int .i64 (r - 1)) (y := { bx l i with parent := (r - 1) }) rfl
    try simp only [Nat.add_zero] at ho5
    clear hx4 hr3 hb3 ho3 hC hF hr4 hb4 ho4 hfz
    go_wp2
    go_ret
    exact ⟨_, rfl, l.set i { bx l i with parent := (r - 1) }, by simpa using hl16, ho5, hr5.mono (by omega), hb5⟩
  by_cases h1 : how = 1
  · subst h1
    go_wp2_with (fail)
    refine (one_any (l := [0, 4, -1, 1]) _ (hr3.ext (Below.of_alloc _ _)) (by omega) (heapAt _ (by simp)) (by have := hr3.lt; omega) (by simp) (by simp)).mono ?_
    rintro e w4 ⟨r, rfl, _, hr4, hx4⟩
    have hb3' := bel_alloc hb3 (Nat.le_refl _) (.cells (Is [0, 4, -1, 1]).toArray 3)
    have ho3' := ho3.alloc (.cells (Is [0, 4, -1, 1]).toArray 3)
    have hb4 := afterR hb3' hx4 (Nat.le_refl _)
    have ho4 := ho3'.bel hx4 hRl
    obtain ⟨hC, hF⟩ := ho4.cellF hi
    have g := hC.c1
    have f := hF 1
    try simp only [Nat.add_zero] at f
    have hr5 := hr4.setCell (p := ⟨b, off + i * 9 + 1, none⟩) (show R < b by omega) (.int .i64 r)
    have hb5 := bel_setCell hb4 (p := ⟨b, off + i * 9 + 1, none⟩) hwb (.int .i64 r)
    have ho5 := ho4.set1 rfl hi (f := 1) (by omega) (u := .int .i64 r) (y := { bx l i with kind := r }) rfl
    clear hx4 hr3 hb3 ho3 hC hF hr4 hb4 ho4 hfz
    go_wp2
    go_ret
    exact ⟨_, rfl, l.set i { bx l i with kind := r }, by simpa using hl16, ho5, hr5.mono (by omega), hb5⟩
  by_cases h2 : how = 2
  · subst h2
    go_wp2_with (fail)
    refine (one_any (l := [1, 101, -1]) _ (hr3.ext (Below.of_alloc _ _)) (by omega) (heapAt _ (by simp)) (by have := hr3.lt; omega) (by simp) (by simp)).mono ?_
    rintro e w4 ⟨r, rfl, _, hr4, hx4⟩
    have hb3' := bel_alloc hb3 (Nat.le_refl _) (.cells (Is [1, 101, -1]).toArray 3)
    have ho3' := ho3.alloc (.cells (Is [1, 101, -1]).toArray 3)
    have hb4 := afterR hb3' hx4 (Nat.le_refl _)
    have ho4 := ho3'.bel hx4 hRl
    obtain ⟨hC, hF⟩ := ho4.cellF hi
    have g := hC.c2
    have f := hF 2
    try simp only [Nat.add_zero] at f
    have hr5 := hr4.setCell (p := ⟨b, off + i * 9 + 2, none⟩) (show R < b by omega) (.int .i64 r)
    have hb5 := bel_setCell hb4 (p := ⟨b, off + i * 9 + 2, none⟩) hwb (.int .i64 r)
    have ho5 := ho4.set1 rfl hi (f := 2) (by omega) (u := .int .i64 r) (y := { bx l i with w := r }) rfl
    clear hx4 hr3 hb3 ho3 hC hF hr4 hb4 ho4 hfz
    go_wp2
    go_ret
    exact ⟨_, rfl, l.set i { bx l i with w := r }, by simpa using hl16, ho5, hr5.mono (by omega), hb5⟩
  by_cases h3 : how = 3
  · subst h3
    go_wp2_with (fail)
    refine (one_any (l := [51, -1]) _ (hr3.ext (Below.of_alloc _ _)) (by omega) (heapAt _ (by simp)) (by have := hr3.lt; omega) (by simp) (by simp)).mono ?_
    rintro e w4 ⟨r, rfl, _, hr4, hx4⟩
    have hb3' := bel_alloc hb3 (Nat.le_refl _) (.cells (Is [51, -1]).toArray 3)
    have ho3' := ho3.alloc (.cells (Is [51, -1]).toArray 3)
    have hb4 := afterR hb3' hx4 (Nat.le_refl _)
    have ho4 := ho3'.bel hx4 hRl
    obtain ⟨hC, hF⟩ := ho4.cellF hi
    have g := hC.c4
    have f := hF 4
    try simp only [Nat.add_zero] at f
    have hr5 := hr4.setCell (p := ⟨b, off + i * 9 + 4, none⟩) (show R < b by omega) (.int .i64 r)
    have hb5 := bel_setCell hb4 (p := ⟨b, off + i * 9 + 4, none⟩) hwb (.int .i64 r)
    have ho5 := ho4.set1 rfl hi (f := 4) (by omega) (u := .int .i64 r) (y := { bx l i with pad := r }) rfl
    clear hx4 hr3 hb3 ho3 hC hF hr4 hb4 ho4 hfz
    go_wp2
    go_ret
    exact ⟨_, rfl, l.set i { bx l i with pad := r }, by simpa using hl16, ho5, hr5.mono (by omega), hb5⟩
  by_cases h4 : how = 4
  · subst h4
    have hc1 : 1 ≤ c := by omega
    cases l with
    | nil => simp at hl1
    | cons x l =>
      obtain ⟨c, rfl⟩ : ∃ c2, c = c2 + 1 := ⟨c - 1, by omega⟩
      have ho4 := ho3.tail (n := l.length)
      clear hfz
      rcases Nat.eq_zero_or_pos c with hc0 | hc0
      · subst hc0
        cases l with
        | cons y l => have := Hn.out; simp at this
        | nil =>
          go_wp2
          go_ret
          exact ⟨_, rfl, [], by simp, Own.empty _ w.heap.size 9 _, hr3.mono (by omega), hb3⟩
      · go_wp2
        go_ret
        exact ⟨_, rfl, l, by simp at hl16; omega, ho4, hr3.mono (by omega), hb3⟩
  have n0 : (how == 0) = false := by simp [h0]
  have n1 : (how == 1) = false := by simp [h1]
  have n2 : (how == 2) = false := by simp [h2]
  have n3 : (how == 3) = false := by simp [h3]
  have n4 : (how == 4) = false := by simp [h4]
  clear h0 h1 h2 h3 h4 hfz
  go_wp2
  go_ret
  exact ⟨_, rfl, l, hl16, ho3, hr3.mono (by omega), hb3⟩
end Go.Proofs.YtdlggpphfkjidaaGreatDoor
