/-
  What is drawn for the laws over one tree: someAt, DrawKidsOf, DrawAddBox.
-/
import Derived.Test.YtckggmbmlpikhaaAny
namespace Go.Proofs.Ytckggmbmlpikhaa
open Go Go.RowKit

set_option maxHeartbeats 1000000 in
theorem someAt_any {R m : Nat} {v : Value} {l : List Bx} (w : World) (h : Rdr R w m) (hm : m ≤ 60000) (hv : Rd w 9 v (Bs l)) (hl : l.length ≤ 16) :
    Calls Try.prog 54 #[.pointer (some ⟨R, 0, none⟩), v] w fun e w' => ∃ r : Int, e = .returned (.int .i64 r) ∧ -1 ≤ r ∧ r ≤ 16 ∧ Rdr R w' (m + 2) ∧ ExtR R w w' := by
  obtain ⟨a, c, rfl, hn, hc, _⟩ := hv.boxes
  unfold maxLen at hc
  have hRl := h.lt
  go_enter Try.func54, Try.ntmps54
  go_wp2_with (fail)
  refine (pick_any 10 _ h (by omega)).mono ?_
  rintro e w1 ⟨r1, rfl, _, hr1, hx1⟩
  have hR1 := hr1.lt
  by_cases h1 : r1 = 0
  · subst h1
    go_wp2_with (fail)
    refine (one_any (l := [-1, (l.length : Int), 0]) _ (hr1.ext (Below.of_alloc _ _)) (by omega) (heapAt _ rfl) (by omega) (by simp) (by simp)).mono ?_
    rintro e w2 ⟨r2, rfl, hm2, hr2, hx2⟩
    have q2 : -1 ≤ r2 ∧ r2 ≤ 16 := by simp at hm2; omega
    have hb2 := afterR (bel_alloc hx1 (Nat.le_refl _) _) hx2 (Nat.le_refl _)
    clear hm2
    go_wp2
    go_ret
    exact ⟨r2, rfl, q2.1, q2.2, hr2, hb2⟩
  · have h1' : (r1 == 0) = false := by simp [h1]
    clear h1
    have hmax : (max (1 : Int) (l.length : Int)) ≤ 16 := by omega
    have hmax1 : 1 ≤ (max (1 : Int) (l.length : Int)) := by omega
    go_wp2_with (fail)
    all_goals
      refine (pick_any _ _ hr1 (by omega)).mono ?_
      rintro e w2 ⟨r2, rfl, ⟨h20, h21⟩, hr2, hx2⟩
      have h21 := h21 (by omega)
      have hb2 := afterR hx1 hx2 (Nat.le_refl _)
      go_wp2
      go_ret
      exact ⟨r2, rfl, by omega, by omega, hr2, hb2⟩

set_option maxHeartbeats 1000000 in
theorem DrawKidsOf_any {v : Value} (w : World) (hv : RdBytes w v) :
    Calls Try.prog 61 #[v] w fun e w' => ∃ (v' : Value) (i : Int), e = .returned (.tuple #[v', .int .i64 i]) ∧ ∃ l : List Bx, l.length ≤ 16 ∧ -1 ≤ i ∧ i ≤ 16 ∧ Own w' w.heap.size 9 v' (Bs l) ∧ Ext w w' := by
  go_enter Try.func61, Try.ntmps61
  go_wp2_with (fail)
  refine (newReader_any _ hv).mono ?_
  rintro e w1 ⟨rfl, hr1, hx1⟩
  go_wp2_with (fail)
  refine (anyTree_any _ hr1 (by omega)).mono ?_
  rintro e w2 ⟨v2, rfl, l, hl, ho2, hr2, hx2⟩
  have hb2 := afterR (bel_of hx1) hx2 (Nat.le_refl _)
  have hR := hr2.lt
  have hR1 := hr1.lt
  have hs1 := hx1.size
  clear hr1 hx1 hx2
  go_wp2_with (fail)
  refine (someAt_any (l := l) _ hr2 (by omega) ho2.rd hl).mono ?_
  rintro e w3 ⟨i, rfl, hi0, hi1, hr3, hx3⟩
  have hb3 := below_of_bel (afterR hb2 hx3 (Nat.le_refl _)) (Nat.le_refl _)
  have ho3 := ho2.bel hx3 hR1
  go_wp2
  go_ret2
  exact ⟨_, i, rfl, l, hl, hi0, hi1, ho3.weak hs1, hb3⟩

theorem setBx_other (w : World) {b k : Nat} (o : Nat) (x : Bx) (h : k ≠ b) : (setBx w b o x).heap[k]? = w.heap[k]? := by
  unfold setBx
  rw [Below.heap_setCell _ _ _ _ h, Below.heap_setCell _ _ _ _ h, Below.heap_setCell _ _ _ _ h, Below.heap_setCell _ _ _ _ h, Below.heap_setCell _ _ _ _ h, Below.heap_setCell _ _ _ _ h, Below.heap_setCell _ _ _ _ h, Below.heap_setCell _ _ _ _ h, Below.heap_setCell _ _ _ _ h]
theorem Own.setBxOther {w : World} {base size b : Nat} {v : Value} {xs : List Value} (h : Own w base size v xs) (hp : blk v ≠ some b) (o : Nat) (x : Bx) : Own (setBx w b o x) base size v xs := by
  have h0 := h.setOther (p := ⟨b, o, none⟩) hp (.int .i64 x.parent)
  have h1 := h0.setOther (p := ⟨b, o + 1, none⟩) hp (.int .i64 x.kind)
  have h2 := h1.setOther (p := ⟨b, o + 2, none⟩) hp (.int .i64 x.w)
  have h3 := h2.setOther (p := ⟨b, o + 3, none⟩) hp (.int .i64 x.h)
  have h4 := h3.setOther (p := ⟨b, o + 4, none⟩) hp (.int .i64 x.pad)
  have h5 := h4.setOther (p := ⟨b, o + 5, none⟩) hp (.int .i64 x.gap)
  have h6 := h5.setOther (p := ⟨b, o + 6, none⟩) hp (.int .i64 x.grow)
  have h7 := h6.setOther (p := ⟨b, o + 7, none⟩) hp (.int .i64 x.shrink)
  exact h7.setOther (p := ⟨b, o + 8, none⟩) hp (.int .i64 x.justify)
theorem Keep.fz9 {k : Nat} {cs : Array Value} {e : TypeId} {w : World} (h : Keep k (.cells cs e) w) : w.frozen? ⟨k, 0, none⟩ = false ∧ w.frozen? ⟨k, 1, none⟩ = false ∧ w.frozen? ⟨k, 2, none⟩ = false ∧ w.frozen? ⟨k, 3, none⟩ = false ∧ w.frozen? ⟨k, 4, none⟩ = false ∧ w.frozen? ⟨k, 5, none⟩ = false ∧ w.frozen? ⟨k, 6, none⟩ = false ∧ w.frozen? ⟨k, 7, none⟩ = false ∧ w.frozen? ⟨k, 8, none⟩ = false :=
  ⟨h.frozen _, h.frozen _, h.frozen _, h.frozen _, h.frozen _, h.frozen _, h.frozen _, h.frozen _, h.frozen _⟩
theorem Keep.c9 {k : Nat} {x : Bx} {e : TypeId} {w : World} (h : Keep k (.cells x.arr e) w) : w.cell? ⟨k, 0, none⟩ = some (.int .i64 x.parent) ∧ w.cell? ⟨k, 1, none⟩ = some (.int .i64 x.kind) ∧ w.cell? ⟨k, 2, none⟩ = some (.int .i64 x.w) ∧ w.cell? ⟨k, 3, none⟩ = some (.int .i64 x.h) ∧ w.cell? ⟨k, 4, none⟩ = some (.int .i64 x.pad) ∧ w.cell? ⟨k, 5, none⟩ = some (.int .i64 x.gap) ∧ w.cell? ⟨k, 6, none⟩ = some (.int .i64 x.grow) ∧ w.cell? ⟨k, 7, none⟩ = some (.int .i64 x.shrink) ∧ w.cell? ⟨k, 8, none⟩ = some (.int .i64 x.justify) :=
  ⟨h.cell 0, h.cell 1, h.cell 2, h.cell 3, h.cell 4, h.cell 5, h.cell 6, h.cell 7, h.cell 8⟩

theorem RdBytes.ext {w w' : World} {v : Value} (h : RdBytes w v) (hx : Ext w w') : RdBytes w' v := by
  obtain ⟨a, n, c, rfl, hn, hc, h⟩ := h
  refine ⟨a, n, c, rfl, hn, hc, ?_⟩
  rcases h with h | ⟨b, off, ha, hb, hj⟩
  · exact .inl h
  · refine .inr ⟨b, off, ha, Nat.lt_of_lt_of_le hb hx.size, fun j hj' => ?_⟩
    obtain ⟨x, h1, h2, h3⟩ := hj j hj'
    exact ⟨x, h1, h2, by rw [hx.cell (by exact hb)]; exact h3⟩

set_option maxRecDepth 100000 in
set_option maxHeartbeats 2000000 in
theorem DrawAddBox_any {v : Value} (w : World) (hv : RdBytes w v) :
    Calls Try.prog 20 #[v] w fun e w' => ∃ (v' : Value) (i : Int) (x : Bx), e = .returned (.tuple #[v', .int .i64 i, x.agg]) ∧ ∃ l : List Bx, l.length ≤ 16 ∧ -1 ≤ i ∧ i ≤ 16 ∧ Own w' w.heap.size 9 v' (Bs l) ∧ Ext w w' := by
  have hv0 := hv.ext (Below.of_alloc w (.cells zb.arr 33))
  have k0 : Keep w.heap.size (.cells zb.arr 33) (w.alloc (.cells zb.arr 33)) := Keep.new _ _
  have b0 : Below w.heap.size w (w.alloc (.cells zb.arr 33)) := Below.of_alloc _ _
  clear hv
  go_enter Try.func20, Try.ntmps20
  go_wp2_with (fail)
  change Calls _ _ _ (w.alloc (.cells zb.arr 33)) _
  generalize hW0 : w.alloc (.cells zb.arr 33) = W0 at *
  have hs0 : w.heap.size < W0.heap.size := k0.lt
  clear hW0
  refine (newReader_any _ hv0).mono ?_
  rintro e w1 ⟨rfl, hr1, hx1⟩
  have k1 := k0.extR (R := W0.heap.size) (bel_of hx1) (by omega)
  go_wp2_with (fail)
  refine (anyTree_any _ hr1 (by omega)).mono ?_
  rintro e w2 ⟨v2, rfl, l, hl, ho2, hr2, hx2⟩
  have hb2 := afterR (bel_of hx1) hx2 (Nat.le_refl _)
  have k2 := k1.extR hx2 (by omega)
  have hR1 := hr1.lt
  have hs1 := hx1.size
  clear hr1 hx1 hx2 k1 k0
  go_wp2_with (fail)
  refine (someAt_any (l := l) _ hr2 (by omega) ho2.rd hl).mono ?_
  rintro e w3 ⟨i, rfl, hi0, hi1, hr3, hx3⟩
  have hb3 := afterR hb2 hx3 (Nat.le_refl _)
  have ho3 := ho2.bel hx3 hR1
  have k3 := k2.extR hx3 (by omega)
  clear hr2 hx3 hb2 ho2 k2
  go_wp2_with (fail)
  refine (someBox_any _ hr3 (by omega)).mono ?_
  rintro e w4 ⟨x, rfl, hok, hr4, hx4⟩
  have hb4 := afterR hb3 hx4 (Nat.le_refl _)
  have ho4 := ho3.bel hx4 hR1
  have k4 := k3.extR hx4 (by omega)
  have hR4 := hr4.lt
  have hs4 := hb4.size
  have hr5 := hr4.ext (Below.of_alloc _ (.cells x.arr 33))
  have hb5 := bel_alloc hb4 (Nat.le_refl _) (.cells x.arr 33)
  have ho5 := ho4.alloc (.cells x.arr 33)
  have k5 := k4.alloc (.cells x.arr 33)
  have x5 := Keep.new w4 (.cells x.arr 33)
  have HBV : Hid (blk v2 ≠ some w4.heap.size) := fun e => by
    have := (ho4.lt _ e).2
    omega
  unfold Bx.agg
  clear hr3 hx4 hb3 ho3 k3 hr4 hb4 ho4 k4 hok
  go_wp2_with (fail)
  change Calls _ _ _ (w4.alloc (.cells x.arr 33)) _
  generalize w4.alloc (.cells x.arr 33) = W5 at *
  refine (pick_any 12 _ hr5 (by omega)).mono ?_
  rintro e w6 ⟨r, rfl, _, hr6, hx6⟩
  have hb6 := afterR hb5 hx6 (Nat.le_refl _)
  have ho6 := ho5.bel hx6 hR1
  have k6 := k5.extR hx6 (by omega)
  have x6 := x5.extR hx6 (by omega)
  have hs6 := hb6.size
  have HB : Hid (Below w.heap.size w w6) := b0.trans (below_of_bel (hb6.mono (Nat.le_of_lt hs0)) (Nat.le_of_lt hs0))
  have HO : Hid (Own w6 (w.heap.size + 1) 9 v2 (Bs l)) := ho6.weak (by omega)
  clear hr5 hx6 hb5 ho5 k5 x5 hr6 ho6 hb6 b0 hv0
  obtain ⟨g0, g1, g2, g3, g4, g5, g6, g7, g8⟩ := k6.c9
  obtain ⟨z0, z1, z2, z3, z4, z5, z6, z7, z8⟩ := k6.fz9
  have hne : w4.heap.size ≠ w.heap.size := by omega
  have hne2 : w.heap.size ≠ w4.heap.size := by omega
  by_cases hr : r = 0
  · subst hr
    have x7 : Keep w4.heap.size (.cells ({ x with grow := 11 } : Bx).arr 33) (w6.setCell ⟨w4.heap.size, 6, none⟩ (.int .i64 11)) := x6.store 6 (.int .i64 11)
    have k7 := k6.setOther (p := ⟨w4.heap.size, 6, none⟩) hne2 (.int .i64 11)
    have c6 : w6.cell? ⟨w4.heap.size, 6, none⟩ = some (.int .i64 x.grow) := x6.cell 6
    have f6 := x6.frozen 6
    have HB7 : Hid (Below w.heap.size w (w6.setCell ⟨w4.heap.size, 6, none⟩ (.int .i64 11))) := HB.out.setCell (p := ⟨w4.heap.size, 6, none⟩) (by show w.heap.size ≤ w4.heap.size; omega) _
    have HO7 : Hid (Own (w6.setCell ⟨w4.heap.size, 6, none⟩ (.int .i64 11)) (w.heap.size + 1) 9 v2 (Bs l)) := by
      exact HO.out.setOther HBV.out _
    clear x6 k6 HB HO
    clear g0 g1 g2 g3 g4 g5 g6 g7 g8 z0 z1 z2 z3 z4 z5 z6 z7 z8
    go_upto_region 7 with fail
    clear c6 f6
    change Code.wp _ _ _ _ (w6.setCell ⟨w4.heap.size, 6, none⟩ (.int .i64 11))
    generalize w6.setCell ⟨w4.heap.size, 6, none⟩ (.int .i64 11) = W7 at *
    obtain ⟨g0, g1, g2, g3, g4, g5, g6, g7, g8⟩ := k7.c9
    obtain ⟨z0, z1, z2, z3, z4, z5, z6, z7, z8⟩ := k7.fz9
    obtain ⟨d0, d1, d2, d3, d4, d5, d6, d7, d8⟩ := x7.c9
    generalize hy : ({ x with grow := 11 } : Bx) = y at *
    clear hy
    have hblk : blk v2 ≠ some w.heap.size := fun e => by
      have := (HO7.out.lt _ e).1
      omega
    have HX : Hid (Below w.heap.size w (setBx W7 w.heap.size 0 y)) := HB7.out.trans (setBx_below _ _ (Nat.le_refl _))
    have HOX : Hid (Own (setBx W7 w.heap.size 0 y) (w.heap.size + 1) 9 v2 (Bs l)) := HO7.out.setBxOther hblk 0 y
    clear hblk k7 x7
    go_region
    go_wp2
    refine bodyPost_ret (v := .tuple #[v2, .int .i64 i, y.agg]) ?_ rfl ⟨v2, i, y, rfl, l, hl, hi0, hi1, (HOX.out.weak (Nat.le_succ _)).drew, HX.out.drew⟩
    simp [results, Try.results20, go_sem, Bx.agg, g0, g1, g2, g3, g4, g5, g6, g7, g8]
  · have hr' : (r == 0) = false := by simp [hr]
    clear hr
    obtain ⟨d0, d1, d2, d3, d4, d5, d6, d7, d8⟩ := x6.c9
    have HX : Hid (Below w.heap.size w (setBx w6 w.heap.size 0 x)) := HB.out.trans (setBx_below _ _ (Nat.le_refl _))
    have hblk : blk v2 ≠ some w.heap.size := fun e => by
      have := (HO.out.lt _ e).1
      omega
    have HOX : Hid (Own (setBx w6 w.heap.size 0 x) (w.heap.size + 1) 9 v2 (Bs l)) := HO.out.setBxOther hblk 0 x
    clear hblk
    clear k6 x6
    go_wp2
    go_region
    go_wp2
    refine bodyPost_ret (v := .tuple #[v2, .int .i64 i, x.agg]) ?_ rfl ⟨v2, i, x, rfl, l, hl, hi0, hi1, (HOX.out.weak (Nat.le_succ _)).drew, HX.out.drew⟩
    simp [results, Try.results20, go_sem, Bx.agg, g0, g1, g2, g3, g4, g5, g6, g7, g8]
end Go.Proofs.Ytckggmbmlpikhaa
