/-
  What is drawn for the laws over dirty boxes: copyInts, spoil, someMarks, DrawDirtyRoots, DrawDirtyBoxes.
-/
import Derived.Test.YtckggmbmlpikhaaDraw
import Derived.Test.YtckggmbmlpikhaaInts
namespace Go.Proofs.Ytckggmbmlpikhaa
open Go Go.RowKit

theorem Is_set (l : List Int) (j : Nat) (x : Int) : (Is l).set j (.int .i64 x) = Is (l.set j x) := by simp [Is, List.map_set]
theorem Own.tailI {w : World} {base b off n c : Nat} {x : Int} {l : List Int} (h : Own w base 1 (.slice (some ⟨b, off, none⟩) (n + 1) (c + 1)) (Is (x :: l))) : Own w base 1 (.slice (some ⟨b, off + 1, none⟩) n c) (Is l) := by
  obtain ⟨a', n', c', e, hl, hn, hc, h⟩ := h
  cases e
  refine ⟨_, n, c, rfl, ?_, by omega, by omega, ?_⟩
  · rw [Is_length] at hl ⊢
    simp at hl
    omega
  · rcases h with h | ⟨g, off', cur, e, e', hg, hh, hs, ht⟩
    · omega
    · cases e'
      refine .inr ⟨_, _, cur, e, rfl, hg, hh, by omega, ?_⟩
      have := congrArg (List.drop 1) ht
      rw [show Is (x :: l) = .int .i64 x :: Is l from rfl, List.drop_succ_cons, List.drop_zero, List.drop_take, List.drop_drop] at this
      simpa using this
theorem Rdr.grown {R m : Nat} {w w' : World} {row : Option Nat} (h : Rdr R w m) (hg : w.grownBy w' row) (hne : ∀ k, row = some k → R < k) : Rdr R w' m := by
  have hlt := h.lt
  obtain ⟨a, n, c, p, e, h, hp, hn, hc, hm, hr⟩ := h
  refine ⟨a, n, c, p, e, ?_, hp, hn, hc, hm, ?_⟩
  · rw [hg.block R hlt (fun e => by have := hne R e.symm; omega)]
    exact h
  · rcases hr with hr | ⟨b, off, ha, hb, hj⟩
    · exact .inl hr
    · refine .inr ⟨b, off, ha, hb, fun j hj' => ?_⟩
      obtain ⟨x, h1, h2, h3⟩ := hj j hj'
      refine ⟨x, h1, h2, ?_⟩
      rw [World.cell?_of_block (w := w) (hg.block b (by omega) (fun e => by have := hne b e.symm; omega))]
      exact h3
theorem bel_grown {R B : Nat} {w w1 w' : World} {row : Option Nat} (h : Bel R B w w1) (hg : w1.grownBy w' row) (hB : B ≤ w1.heap.size) (hr : ∀ k, row = some k → B ≤ k) : Bel R B w w' :=
  h.trans (bel_of ((Below.refl B w1).grown hg hB hr))
set_option maxHeartbeats 1000000 in
theorem copyInts_any {v : Value} {l : List Int} (w : World) (hv : Rd w 1 v (Is l)) (hl : l.length ≤ 1048576) :
    Calls Try.prog 97 #[v] w fun e w' => ∃ v', e = .returned v' ∧ Own w' w.heap.size 1 v' (Is l) ∧ Ext w w' := by
  have hrd := hv
  obtain ⟨a, c, rfl, hn, hc, _⟩ := hv.ints
  unfold maxLen at hc
  have HL := Lib.hid hl
  go_enter Try.func97, Try.ntmps97
  go_wp2_with (at_builtin; refine wpList_app rfl _ _ _ rfl el_int rfl (Own.empty _ w.heap.size 1 _) rfl (hrd.alloc (.cells #[] 3)) (Is_one l) ?hl ?hb ?hK)
  case hl => have := HL.out; rw [Is_length]; simp; omega
  case hb => simp
  intro v' w1 ho1 hg1 hf1
  have hb1 : Below w.heap.size w w1 := after (Below.of_alloc w (.cells #[] 3)) (ext_app0 hg1) (Nat.le_refl _)
  go_wp2
  go_ret
  exact ⟨_, rfl, ho1, hb1⟩
set_option maxRecDepth 100000 in
set_option maxHeartbeats 2000000 in
theorem spoil_any {R m : Nat} {v : Value} {l : List Int} (n : Int) (w : World) (h : Rdr R w m) (hm : m ≤ 60000) (hv : Rd w 1 v (Is l)) (hl : l.length ≤ 1000) :
    Calls Try.prog 88 #[.pointer (some ⟨R, 0, none⟩), v, .int .i64 n] w fun e w' => ∃ v', e = .returned v' ∧ ∃ l' : List Int, l'.length ≤ l.length + 1 ∧ Own w' w.heap.size 1 v' (Is l') ∧ Rdr R w' (m + 3) ∧ ExtR R w w' := by
  have hRl := h.lt
  go_enter Try.func88, Try.ntmps88
  go_wp2_with (fail)
  refine (copyInts_any (l := l) _ hv (by omega)).mono ?_
  rintro e w1 ⟨v1, rfl, ho1, hx1⟩
  have hr1 := h.ext hx1
  have hb1 : Bel R w.heap.size w w1 := bel_of hx1
  clear hx1 hv
  go_wp2_with (fail)
  refine (pick_any 20 _ hr1 (by omega)).mono ?_
  rintro e w2 ⟨how, rfl, ⟨hp0, hp1⟩, hr2, hx2⟩
  have hb2 := afterR hb1 hx2 (Nat.le_refl _)
  have ho2 := ho1.bel hx2 hRl
  have hs2 := hb2.size
  have HL := Lib.hid hl
  clear hx2 hr1 hb1 ho1 hp1 h
  by_cases h0 : how = 0
  · subst h0
    go_wp2_with (at_builtin; refine wpList_app rfl _ _ _ rfl el_int rfl (ho2.alloc _) rfl (Rd.oneAt _ _ (by simp)) (Is_one [n]) ?hl ?hb ?hK)
    case hl => have := HL.out; rw [Is_length]; simp; omega
    case hb => simp; omega
    intro v3 w3 ho3 hg3 hf3
    have hb3 := bel_grown (bel_alloc hb2 (Nat.le_refl _) (.cells #[.int .i64 n] 3)) hg3 (by simp; omega) (fun k hk => ((ho2.alloc (.cells #[.int .i64 n] 3)).lt k hk).1)
    have hr3 := (hr2.ext (Below.of_alloc w2 (.cells #[.int .i64 n] 3))).grown hg3 (fun k hk => by have := ((ho2.alloc (.cells #[.int .i64 n] 3)).lt k hk).1; omega)
    go_wp2
    go_ret
    exact ⟨_, rfl, l ++ [n], by simp, by rw [Is_append]; exact ho3, hr3.mono (by omega), hb3⟩
  have n0 : (how == 0) = false := by simp [h0]
  obtain ⟨a2, n2, c2, rfl, hl2, hn2, hc2, _⟩ := ho2
  have ho2 : Own w2 w.heap.size 1 (.slice a2 n2 c2) (Is l) := ⟨a2, n2, c2, rfl, hl2, hn2, hc2, by assumption⟩
  have hc2' : c2 ≤ maxLen := hc2
  unfold maxLen at hc2'
  rw [Is_length, Nat.mul_one] at hl2
  clear h0
  by_cases h1 : how = 1
  · subst h1
    cases l with
    | nil =>
      simp only [List.length_nil] at hl2
      subst hl2
      go_wp2
      go_ret
      exact ⟨_, rfl, [], by simp, ho2, hr2.mono (by omega), hb2⟩
    | cons x l =>
      simp only [List.length_cons] at hl2
      subst hl2
      obtain ⟨b, off, n3, c3, e3, _, _, hwb, _, _, _, _⟩ := ho2.cells (by simp [Is])
      cases e3
      obtain ⟨c, rfl⟩ : ∃ c4, c2 = c4 + 1 := ⟨c2 - 1, by omega⟩
      have ho4 := ho2.tailI
      rcases Nat.eq_zero_or_pos c with hc0 | hc0
      · subst hc0
        cases l with
        | cons y l => simp at hn2
        | nil =>
          go_wp2
          go_ret
          exact ⟨_, rfl, [], by simp, Own.empty _ w.heap.size 1 _, hr2.mono (by omega), hb2⟩
      · go_wp2
        go_ret
        exact ⟨_, rfl, l, by simp; omega, ho4, hr2.mono (by omega), hb2⟩
  have n1 : (how == 1) = false := by simp [h1]
  clear h1
  by_cases h2 : how = 2
  · subst h2
    by_cases hz : l = []
    · subst hz
      simp only [List.length_nil] at hl2
      subst hl2
      go_wp2
      go_ret
      exact ⟨_, rfl, [], by simp, ho2, hr2.mono (by omega), hb2⟩
    · have hlen : 0 < l.length := List.length_pos_iff.2 hz
      subst hl2
      obtain ⟨b, off, n3, c3, e3, _, _, hwb, _, _, _, _⟩ := ho2.cells (by
        intro e
        have := congrArg List.length e
        rw [Is_length, List.length_nil] at this
        omega)
      cases e3
      have hleni : (0 : Int) < l.length := by omega
      clear hz
      go_wp2_with (fail)
      refine (pick_any (l.length : Int) _ hr2 (by omega)).mono ?_
      rintro e w3 ⟨r, rfl, ⟨hr0, hr1⟩, hr3, hx3⟩
      have hr1 := hr1 (by omega)
      obtain ⟨r, rfl⟩ := Int.eq_ofNat_of_zero_le hr0
      have hrl : r < l.length := by omega
      have hb3 := afterR hb2 hx3 (Nat.le_refl _)
      have ho3 := ho2.bel hx3 hRl
      clear hx3 hr2 hb2 ho2
      go_wp2_with (fail)
      refine (one_any (l := [-1, n, 0, 1]) _ (hr3.ext (Below.of_alloc _ _)) (by omega) (heapAt _ (by simp)) (by have := hr3.lt; omega) (by simp) (by simp)).mono ?_
      rintro e w4 ⟨x, rfl, _, hr4, hx4⟩
      have hb4 := afterR (bel_alloc hb3 (Nat.le_refl _) (.cells (Is [-1, n, 0, 1]).toArray 3)) hx4 (Nat.le_refl _)
      have ho4 := (ho3.alloc (.cells (Is [-1, n, 0, 1]).toArray 3)).bel hx4 hRl
      obtain ⟨b', off', n3', c3', e3, _, _, _, _, hcell, hfz, hset⟩ := ho4.cells (by
        intro e
        have := congrArg List.length e
        rw [Is_length, List.length_nil] at this
        omega)
      cases e3
      obtain ⟨y, hy⟩ : ∃ y, l[r]? = some y := ⟨_, List.getElem?_eq_getElem hrl⟩
      have g := hcell r _ (Is_get hy)
      have f := hfz r
      have hs := hset r (.int .i64 x) (by rw [Is_length]; exact hrl)
      rw [Is_set] at hs
      have hr5 := hr4.setCell (p := ⟨b, off + r, none⟩) (show R < b by omega) (.int .i64 x)
      have hb5 := bel_setCell hb4 (p := ⟨b, off + r, none⟩) hwb (.int .i64 x)
      clear hx4 hr3 hb3 ho3 hcell hfz hset hr4 hb4 ho4 hy
      go_wp2
      go_ret
      exact ⟨_, rfl, l.set r x, by simp, hs, hr5.mono (by omega), hb5⟩
  have n2' : (how == 2) = false := by simp [h2]
  clear h2
  go_wp2
  go_ret
  exact ⟨_, rfl, l, by omega, ho2, hr2.mono (by omega), hb2⟩
set_option maxRecDepth 100000 in
set_option maxHeartbeats 2000000 in
theorem someMarks_any {R m : Nat} {v : Value} {l : List Bx} (w : World) (h : Rdr R w m) (hm : m ≤ 50000) (hv : Rd w 9 v (Bs l)) (hl : l.length ≤ 16) :
    Calls Try.prog 64 #[.pointer (some ⟨R, 0, none⟩), v] w fun e w' => ∃ v', e = .returned v' ∧ ∃ l' : List Int, l'.length ≤ 7 ∧ Own w' w.heap.size 1 v' (Is l') ∧ Rdr R w' (m + 10) ∧ ExtR R w w' := by
  have hRl := h.lt
  obtain ⟨a, c, rfl, hn, hc, _⟩ := hv.boxes
  unfold maxLen at hc
  go_enter Try.func64, Try.ntmps64
  go_wp2_with (fail)
  change Calls _ _ _ ((w.alloc (.cells #[] 3)).alloc (.cells (Is [2, 3, 4, 1, 0, 6]).toArray 3)) _
  have hb0 : Bel R w.heap.size w (w.alloc (.cells #[] 3)) := bel_of (Below.of_alloc _ _)
  have hr0 := h.ext (Below.of_alloc w (.cells #[] 3))
  have ho0 : Own (w.alloc (.cells #[] 3)) w.heap.size 1 (.slice (some ⟨w.heap.size, 0, none⟩) 0 0) (Is []) := Own.empty _ _ _ _
  refine (one_any (l := [2, 3, 4, 1, 0, 6]) _ (hr0.ext (Below.of_alloc _ _)) (by omega) (heapAt _ (by simp)) (by omega) (by simp) (by simp)).mono ?_
  rintro e w1 ⟨n0, rfl, hmem, hr1, hx1⟩
  have hb1 := afterR (bel_alloc hb0 (by simp) (.cells (Is [2, 3, 4, 1, 0, 6]).toArray 3)) hx1 (by simp)
  have ho1 := (ho0.alloc (.cells (Is [2, 3, 4, 1, 0, 6]).toArray 3)).bel hx1 hRl
  have hn0 : 0 ≤ n0 ∧ n0 ≤ 6 := by simp at hmem; omega
  obtain ⟨n0, rfl⟩ := Int.eq_ofNat_of_zero_le hn0.1
  clear hmem hx1 hb0 hr0 ho0
  have hmax : (max (1 : Int) (l.length : Int)) ≤ 16 := by omega
  have hmax1 : 1 ≤ (max (1 : Int) (l.length : Int)) := by omega
  go_wp2
  go_loopw [5, 6] (fun s i wr => ∃ (q : Nat) (l' : List Int), i = .int .i64 q ∧ q ≤ 6 ∧ l'.length + q ≤ 6 ∧ Own wr w.heap.size 1 s (Is l') ∧ Rdr R wr (m + 7 - q) ∧ Bel R w.heap.size w wr) (fun _ i _ => (intOf i).toNat)
  case atStart => exact ⟨n0, [], rfl, by omega, by simp; omega, ho1, hr1.mono (by omega), hb1⟩
  case round =>
    clear ho1 hr1 hb1
    obtain ⟨q, l', rfl, hq, hlq, ho, hr, hb⟩ := hrel
    have hs := hb.size
    by_cases hq0 : 0 < q
    · have hq0' : (0 : Int) < q := by omega
      go_wp2_with (fail)
      all_goals
        refine (pick_any _ _ hr (by omega)).mono ?_
        rintro e w2 ⟨r, rfl, _, hr2, hx2⟩
        have hb2 := afterR hb hx2 (Nat.le_refl _)
        have ho2 := ho.bel hx2 hRl
        have hs2 := hb2.size
        clear hx2 hr hb ho
        go_wp2_with (at_builtin; refine wpList_app rfl _ _ _ rfl el_int rfl (ho2.alloc _) rfl (Rd.oneAt _ _ (by simp)) (Is_one [r]) (by rw [Is_length]; simp; omega) (by simp; omega) ?_)
        intro v3 w3 ho3 hg3 hf3
        have hb3 := bel_grown (bel_alloc hb2 (Nat.le_refl _) (.cells #[.int .i64 r] 3)) hg3 (by simp; omega) (fun k hk => ((ho2.alloc (.cells #[.int .i64 r] 3)).lt k hk).1)
        have hr3 := (hr2.ext (Below.of_alloc w2 (.cells #[.int .i64 r] 3))).grown hg3 (fun k hk => by have := ((ho2.alloc (.cells #[.int .i64 r] 3)).lt k hk).1; omega)
        clear hg3 hf3 hb2 ho2 hr2
        go_wp2
        go_roundw
        case rel => exact ⟨q - 1, l' ++ [r], by go_num, by omega, by simp; omega, by rw [Is_append]; exact ho3, hr3.mono (by omega), hb3⟩
        case measure => simp [intOf]; omega
    · obtain rfl : q = 0 := by omega
      go_wp2_with (fail)
      refine (spoil_any (l := l') 16 _ hr (by omega) ho.rd (by omega)).mono ?_
      rintro e w2 ⟨v2, rfl, l2, hl2, ho2, hr2, hx2⟩
      go_wp2
      go_ret
      exact ⟨_, rfl, l2, by omega, ho2.weak hs, hr2.mono (by omega), afterR hb hx2 (Nat.le_refl _)⟩
set_option maxHeartbeats 1000000 in
theorem DrawDirtyRoots_any {v : Value} (w : World) (hv : RdBytes w v) :
    Calls Try.prog 30 #[v] w fun e w' => ∃ (v' u' : Value), e = .returned (.tuple #[v', u']) ∧ ∃ (l : List Bx) (ms : List Int), l.length ≤ 16 ∧ ms.length ≤ 7 ∧ Own w' w.heap.size 9 v' (Bs l) ∧ Own w' w.heap.size 1 u' (Is ms) ∧ Ext w w' := by
  go_enter Try.func30, Try.ntmps30
  go_wp2_with (fail)
  refine (newReader_any _ hv).mono ?_
  rintro e w1 ⟨rfl, hr1, hx1⟩
  go_wp2_with (fail)
  refine (anyTree_any _ hr1 (by omega)).mono ?_
  rintro e w2 ⟨v2, rfl, l, hl, ho2, hr2, hx2⟩
  have hb2 := afterR (bel_of hx1) hx2 (Nat.le_refl _)
  have hR := hr2.lt
  have hR1 := hr1.lt
  have hs1 := hx1.size
  clear hr1 hx1 hx2
  go_wp2_with (fail)
  refine (someMarks_any (l := l) _ hr2 (by omega) ho2.rd hl).mono ?_
  rintro e w3 ⟨v3, rfl, ms, hms, ho3, hr3, hx3⟩
  have hs2 := hb2.size
  have hb3 := below_of_bel (afterR hb2 hx3 (Nat.le_refl _)) (Nat.le_refl _)
  have ho2' := ho2.bel hx3 hR1
  go_wp2
  go_ret2
  exact ⟨_, _, rfl, l, ms, hl, hms, ho2'.weak hs1, ho3.weak hs2, hb3⟩
set_option maxHeartbeats 1000000 in
theorem DrawDirtyBoxes_any {v : Value} (w : World) (hv : RdBytes w v) :
    Calls Try.prog 37 #[v] w fun e w' => ∃ (v' u' : Value), e = .returned (.tuple #[v', u']) ∧ ∃ (l : List Bx) (ms : List Int), l.length ≤ 16 ∧ ms.length ≤ 7 ∧ Own w' w.heap.size 9 v' (Bs l) ∧ Own w' w.heap.size 1 u' (Is ms) ∧ Ext w w' := by
  go_enter Try.func37, Try.ntmps37
  go_wp2_with (fail)
  refine (DrawDirtyRoots_any _ hv).mono ?_
  rintro e w1 ⟨v1, u1, rfl, l, ms, hl, hms, ho, hu, hx⟩
  go_wp2
  go_ret2
  exact ⟨_, _, rfl, l, ms, hl, hms, ho, hu, hx⟩
end Go.Proofs.Ytckggmbmlpikhaa
