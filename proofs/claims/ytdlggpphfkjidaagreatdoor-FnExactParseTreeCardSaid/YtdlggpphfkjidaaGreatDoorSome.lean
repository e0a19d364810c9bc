/-
  The generators: newReader, someBox.
-/
import Derived.Test.YtdlggpphfkjidaaGreatDoorRdr
import Derived.Test.YtdlggpphfkjidaaGreatDoorBx
namespace Go.Proofs.YtdlggpphfkjidaaGreatDoor
open Go Go.RowKit

/-- a list of bytes that is read -/
def RdBytes (w : World) (v : Value) : Prop :=
  ∃ (a : Option Addr) (n c : Nat), v = .slice a n c ∧ n ≤ c ∧ c ≤ maxLen ∧ (n = 0 ∨ ∃ b off, a = some ⟨b, off, none⟩ ∧ b < w.heap.size ∧ ∀ j, j < n → ∃ x : Int, 0 ≤ x ∧ x < 256 ∧ w.cell? ⟨b, off + j, none⟩ = some (.int .u8 x))

set_option maxHeartbeats 1000000 in
theorem newReader_any {v : Value} (w : World) (hv : RdBytes w v) :
    Calls Tryz.prog 18 #[v] w fun e w' => e = .returned (.pointer (some ⟨w.heap.size, 0, none⟩)) ∧ Rdr w.heap.size w' 0 ∧ Ext w w' := by
  obtain ⟨a, n, c, rfl, hn, hc, hb⟩ := hv
  have Hc := Lib.hid hc
  unfold maxLen at hc
  have Hb := Lib.hid hb
  clear hb
  have fin : ∀ (k : Nat) (c2 : Nat), k ≤ n → k ≤ 2000 → k ≤ c2 → c2 ≤ maxLen → Rdr w.heap.size (w.alloc (.cells #[.slice a k c2, .int .i64 0] 62)) 0 := fun k c2 hk h2 hkc hc2 => by
    refine ⟨a, k, c2, 0, _, heap_alloc_new w _, Nat.le_refl _, h2, hkc, hc2, ?_⟩
    rcases Hb.out with h | ⟨b, off, ha, hbl, hj⟩
    · exact .inl (by omega)
    · refine .inr ⟨b, off, ha, hbl, fun j hj' => ?_⟩
      obtain ⟨x, h1, h2, h3⟩ := hj j (by omega)
      exact ⟨x, h1, h2, by rw [(Below.of_alloc w _).cell (by exact hbl)]; exact h3⟩
  have Fin := Lib.hid fin
  clear fin
  by_cases hlen : 2000 < n
  · go_enter Tryz.func18, Tryz.ntmps18
    go_wp2
    go_ret
    exact ⟨rfl, Fin.out 2000 c (by omega) (by omega) (by omega) Hc.out, Below.of_alloc _ _⟩
  · go_enter Tryz.func18, Tryz.ntmps18
    go_wp2
    go_ret
    exact ⟨rfl, Fin.out n c (by omega) (by omega) (by omega) Hc.out, Below.of_alloc _ _⟩

theorem Keep.extR {k R : Nat} {o : Obj} {w w' : World} (h : Keep k o w) (hx : ExtR R w w') (hk : k ≠ R) : Keep k o w' := by
  unfold Keep
  rw [hx.block k h.lt hk]
  exact h
theorem bel_alloc {R B : Nat} {w w1 : World} (h : Bel R B w w1) (hB : B ≤ w.heap.size) (o : Obj) : Bel R B w (w1.alloc o) :=
  h.trans (bel_of ((Below.of_alloc w1 o).mono (Nat.le_trans hB h.size)))

theorem bel_setCell {R B : Nat} {w w1 : World} (h : Bel R B w w1) {p : Addr} (hp : B ≤ p.block) (u : Value) : Bel R B w (w1.setCell p u) :=
  h.trans (bel_of ((Below.refl B w1).setCell hp u))
theorem Rdr.setCell {R m : Nat} {w : World} (h : Rdr R w m) {p : Addr} (hp : R < p.block) (u : Value) : Rdr R (w.setCell p u) m := by
  obtain ⟨a, n, c, q, e, h, hq, hn, hc, hm, hr⟩ := h
  refine ⟨a, n, c, q, e, by rw [Below.heap_setCell _ _ _ _ (by omega)]; exact h, hq, hn, hc, hm, ?_⟩
  rcases hr with hr | ⟨b, off, ha, hb, hj⟩
  · exact .inl hr
  · refine .inr ⟨b, off, ha, hb, fun j hj' => ?_⟩
    obtain ⟨x, h1, h2, h3⟩ := hj j hj'
    exact ⟨x, h1, h2, by rw [World.cell?_of_block (w := w) (Below.heap_setCell _ _ _ _ (by show b ≠ _; omega))]; exact h3⟩
theorem Rdr.setBx {R m : Nat} {w : World} (h : Rdr R w m) {b : Nat} (hb : R < b) (o : Nat) (x : Bx) : Rdr R (setBx w b o x) m := by
  unfold Go.Proofs.YtdlggpphfkjidaaGreatDoor.setBx
  exact ((((((((h.setCell (p := ⟨b, o, none⟩) hb _).setCell (p := ⟨b, o + 1, none⟩) hb _).setCell (p := ⟨b, o + 2, none⟩) hb _).setCell (p := ⟨b, o + 3, none⟩) hb _).setCell (p := ⟨b, o + 4, none⟩) hb _).setCell (p := ⟨b, o + 5, none⟩) hb _).setCell (p := ⟨b, o + 6, none⟩) hb _).setCell (p := ⟨b, o + 7, none⟩) hb _).setCell (p := ⟨b, o + 8, none⟩) hb _
theorem bel_setBx {R B : Nat} {w w1 : World} (h : Bel R B w w1) {b : Nat} (hb : B ≤ b) (o : Nat) (x : Bx) : Bel R B w (setBx w1 b o x) :=
  h.trans (bel_of (setBx_below w1 x hb))
set_option maxRecDepth 100000 in
set_option maxHeartbeats 1000000 in
theorem someBox_any {R m : Nat} (w : World) (h : Rdr R w m) (hm : m ≤ 90000) :
    Calls Tryz.prog 71 #[.pointer (some ⟨R, 0, none⟩)] w fun e w' => ∃ x : Bx, e = .returned x.agg ∧ okB x = true ∧ Rdr R w' (m + 8) ∧ ExtR R w w' := by
  have hRl := h.lt
  go_enter Tryz.func71, Tryz.ntmps71
  go_wp2_with (fail)
  have hb0 : Bel R w.heap.size w (w.alloc (.cells zb.arr 39)) := bel_of (Below.of_alloc _ _)
  have k0 : Keep w.heap.size (.cells zb.arr 39) (w.alloc (.cells zb.arr 39)) := Keep.new _ _
  refine (pick_any 4 _ (h.ext (Below.of_alloc _ _)) (by omega)).mono ?_
  rintro e w1 ⟨r1, rfl, ⟨r10, r11⟩, hr1, hx1⟩
  have r11 := r11 (by omega)
  have hb1 := afterR hb0 hx1 (Nat.le_refl _)
  have k1 := k0.extR hx1 (by omega)
  clear h hb0 k0 hx1
  go_wp2_with (fail)
  refine (one_any (l := [0, 0, 1, 5]) _ (hr1.ext (Below.of_alloc _ _)) (by omega) (heapAt _ rfl) (by have := hr1.lt; omega) (by simp) (by simp)).mono ?_
  rintro e w2 ⟨r2, rfl, hm2, hr2, hx2⟩
  have q2 : 0 ≤ r2 ∧ r2 ≤ 50 := by simp at hm2; omega
  have hb2 := afterR (bel_alloc hb1 (Nat.le_refl _) _) hx2 (Nat.le_refl _)
  have k2 := (k1.alloc _).extR hx2 (by omega)
  clear hm2 hr1 hb1 k1 hx2
  go_wp2_with (fail)
  refine (one_any (l := [0, 2, 0, 5]) _ (hr2.ext (Below.of_alloc _ _)) (by omega) (heapAt _ rfl) (by have := hr2.lt; omega) (by simp) (by simp)).mono ?_
  rintro e w3 ⟨r3, rfl, hm3, hr3, hx3⟩
  have q3 : 0 ≤ r3 ∧ r3 ≤ 50 := by simp at hm3; omega
  have hb3 := afterR (bel_alloc hb2 (Nat.le_refl _) _) hx3 (Nat.le_refl _)
  have k3 := (k2.alloc _).extR hx3 (by omega)
  clear hm3 hr2 hb2 k2 hx3
  go_wp2_with (fail)
  refine (one_any (l := [0, 1, 2, 0]) _ (hr3.ext (Below.of_alloc _ _)) (by omega) (heapAt _ rfl) (by have := hr3.lt; omega) (by simp) (by simp)).mono ?_
  rintro e w4 ⟨r4, rfl, hm4, hr4, hx4⟩
  have q4 : 0 ≤ r4 ∧ r4 ≤ 10 := by simp at hm4; omega
  have hb4 := afterR (bel_alloc hb3 (Nat.le_refl _) _) hx4 (Nat.le_refl _)
  have k4 := (k3.alloc _).extR hx4 (by omega)
  clear hm4 hr3 hb3 k3 hx4
  go_wp2_with (fail)
  refine (one_any (l := [0, 1, 1, 3]) _ (hr4.ext (Below.of_alloc _ _)) (by omega) (heapAt _ rfl) (by have := hr4.lt; omega) (by simp) (by simp)).mono ?_
  rintro e w5 ⟨r5, rfl, hm5, hr5, hx5⟩
  have q5 : 0 ≤ r5 ∧ r5 ≤ 10 := by simp at hm5; omega
  have hb5 := afterR (bel_alloc hb4 (Nat.le_refl _) _) hx5 (Nat.le_refl _)
  have k5 := (k4.alloc _).extR hx5 (by omega)
  clear hm5 hr4 hb4 k4 hx5
  go_wp2_with (fail)
  refine (pick_any 4 _ hr5 (by omega)).mono ?_
  rintro e w6 ⟨r6, rfl, ⟨r60, r61⟩, hr6, hx6⟩
  have r61 := r61 (by omega)
  have hb6 := afterR hb5 hx6 (Nat.le_refl _)
  have k6 := k5.extR hx6 (by omega)
  clear hb5 k5 hr5 hx6
  have hRl6 := hr6.lt
  have hs6 := k6.lt
  by_cases hk : r1 = 0
  · have hk' : (r1 == 0) = true := by simp [hk]
    have Hk := Lib.hid hk
    clear hk
    have x7 := Keep.new w6 (.cells (Bx.arr ⟨0, r1, 0, 0, r2, r3, r4, r5, r6⟩) 39)
    go_wp2_with (fail)
    refine (one_any (l := [10, 30, 50, 0, 100, 7]) _ ((hr6.ext (Below.of_alloc _ _)).ext (Below.of_alloc _ _)) (by omega) (heapAt _ (by simp)) (by omega) (by simp) (by simp)).mono ?_
    rintro e w7 ⟨r7, rfl, hm7, hr7, hx7⟩
    have q7 : 0 ≤ r7 ∧ r7 ≤ 100 := by simp at hm7; omega
    have hb7 := afterR (bel_alloc (bel_alloc hb6 (Nat.le_refl _) _) (Nat.le_refl _) _) hx7 (Nat.le_refl _)
    have k7 := ((k6.alloc _).alloc _).extR hx7 (by omega)
    have x8 := (x7.alloc _).extR hx7 (by omega)
    have x9 := x8.store 2 (.int .i64 r7)
    have c2 : w7.cell? ⟨w6.heap.size, 2, none⟩ = some (.int .i64 0) := x8.cell 2
    have f2 : w7.frozen? ⟨w6.heap.size, 2, none⟩ = false := x8.frozen 2
    have hr8 := hr7.setCell (p := ⟨w6.heap.size, 2, none⟩) hRl6 (.int .i64 r7)
    have hb8 := bel_setCell hb7 (p := ⟨w6.heap.size, 2, none⟩) (by have := hb6.size; exact this) (.int .i64 r7)
    have k8 := k7.setOther (p := ⟨w6.heap.size, 2, none⟩) (Nat.ne_of_lt hs6) (.int .i64 r7)
    clear hb7 k7 x8 hr7 hm7 hx7 x7
    go_wp2_with (fail)
    refine (one_any (l := [10, 20, 0, 40, 100, 3]) _ (hr8.ext (Below.of_alloc _ _)) (by omega) (heapAt _ (by simp [World.setCell])) (by have := hr8.lt; simp [World.setCell] at this; omega) (by simp) (by simp)).mono ?_
    rintro e w9 ⟨r9, rfl, hm9, hr9, hx9⟩
    have q9 : 0 ≤ r9 ∧ r9 ≤ 100 := by simp at hm9; omega
    have hb9 := afterR (bel_alloc hb8 (Nat.le_refl _) _) hx9 (Nat.le_refl _)
    have k9 := (k8.alloc _).extR hx9 (by omega)
    have y9 := (x9.alloc _).extR hx9 (by omega)
    have z9 := y9.store 3 (.int .i64 r9)
    have c3 : w9.cell? ⟨w6.heap.size, 3, none⟩ = some (.int .i64 0) := y9.cell 3
    have f3 : w9.frozen? ⟨w6.heap.size, 3, none⟩ = false := y9.frozen 3
    have hrA := hr9.setCell (p := ⟨w6.heap.size, 3, none⟩) hRl6 (.int .i64 r9)
    have hbA := bel_setCell hb9 (p := ⟨w6.heap.size, 3, none⟩) (by have := hb6.size; exact this) (.int .i64 r9)
    have kA := k9.setOther (p := ⟨w6.heap.size, 3, none⟩) (Nat.ne_of_lt hs6) (.int .i64 r9)
    have d0 : w9.cell? ⟨w6.heap.size, 0, none⟩ = some (.int .i64 0) := y9.cell 0
    have d1 : w9.cell? ⟨w6.heap.size, 1, none⟩ = some (.int .i64 r1) := y9.cell 1
    have d2 : w9.cell? ⟨w6.heap.size, 2, none⟩ = some (.int .i64 r7) := y9.cell 2
    have d4 : w9.cell? ⟨w6.heap.size, 4, none⟩ = some (.int .i64 r2) := y9.cell 4
    have d5 : w9.cell? ⟨w6.heap.size, 5, none⟩ = some (.int .i64 r3) := y9.cell 5
    have d6 : w9.cell? ⟨w6.heap.size, 6, none⟩ = some (.int .i64 r4) := y9.cell 6
    have d7 : w9.cell? ⟨w6.heap.size, 7, none⟩ = some (.int .i64 r5) := y9.cell 7
    have d8 : w9.cell? ⟨w6.heap.size, 8, none⟩ = some (.int .i64 r6) := y9.cell 8
    have g0 : w9.cell? ⟨w.heap.size, 0, none⟩ = some (.int .i64 0) := k9.cell 0
    have z0 : w9.frozen? ⟨w.heap.size, 0, none⟩ = false := k9.frozen 0
    have g1 : w9.cell? ⟨w.heap.size, 1, none⟩ = some (.int .i64 0) := k9.cell 1
    have z1 : w9.frozen? ⟨w.heap.size, 1, none⟩ = false := k9.frozen 1
    have g2 : w9.cell? ⟨w.heap.size, 2, none⟩ = some (.int .i64 0) := k9.cell 2
    have z2 : w9.frozen? ⟨w.heap.size, 2, none⟩ = false := k9.frozen 2
    have g3 : w9.cell? ⟨w.heap.size, 3, none⟩ = some (.int .i64 0) := k9.cell 3
    have z3 : w9.frozen? ⟨w.heap.size, 3, none⟩ = false := k9.frozen 3
    have g4 : w9.cell? ⟨w.heap.size, 4, none⟩ = some (.int .i64 0) := k9.cell 4
    have z4 : w9.frozen? ⟨w.heap.size, 4, none⟩ = false := k9.frozen 4
    have g5 : w9.cell? ⟨w.heap.size, 5, none⟩ = some (.int .i64 0) := k9.cell 5
    have z5 : w9.frozen? ⟨w.heap.size, 5, none⟩ = false := k9.frozen 5
    have g6 : w9.cell? ⟨w.heap.size, 6, none⟩ = some (.int .i64 0) := k9.cell 6
    have z6 : w9.frozen? ⟨w.heap.size, 6, none⟩ = false := k9.frozen 6
    have g7 : w9.cell? ⟨w.heap.size, 7, none⟩ = some (.int .i64 0) := k9.cell 7
    have z7 : w9.frozen? ⟨w.heap.size, 7, none⟩ = false := k9.frozen 7
    have g8 : w9.cell? ⟨w.heap.size, 8, none⟩ = some (.int .i64 0) := k9.cell 8
    have z8 : w9.frozen? ⟨w.heap.size, 8, none⟩ = false := k9.frozen 8
    have hfin : Hid (okB ⟨0, r1, r7, r9, r2, r3, r4, r5, r6⟩ = true) := by
      show _ = _
      rw [okB_eq]
      simp only [Bool.and_eq_true, inR_iff, Bool.or_eq_true, beq_iff_eq]
      refine ⟨⟨⟨⟨⟨⟨⟨⟨?_, ?_⟩, ?_⟩, ?_⟩, ?_⟩, ?_⟩, ?_⟩, ?_⟩, .inl Hk.out⟩ <;> omega
    clear hb9 k9 y9 hr9 hm9 hx9 x9 c2 f2 hb8 k8 hr8 z9 kA
    have HR : Hid (Rdr R (w9.setCell ⟨w6.heap.size, 3, none⟩ (.int .i64 r9)) (m + 8)) := hrA.mono (by omega)
    have HB : Hid (Bel R w.heap.size w (w9.setCell ⟨w6.heap.size, 3, none⟩ (.int .i64 r9))) := hbA
    clear hrA hbA
    go_wp2
    refine bodyPost_ret (v := Bx.agg ⟨0, r1, r7, r9, r2, r3, r4, r5, r6⟩) ?_ rfl ⟨⟨0, r1, r7, r9, r2, r3, r4, r5, r6⟩, rfl, hfin.out, ?_, ?_⟩
    · simp [results, Tryz.results71, go_sem, Bx.agg, g0, g1, g2, g3, g4, g5, g6, g7, g8]
    · show Rdr R (setBx (w9.setCell ⟨w6.heap.size, 3, none⟩ (.int .i64 r9)) w.heap.size 0 ⟨0, r1, r7, r9, r2, r3, r4, r5, r6⟩) (m + 8)
      exact HR.out.setBx (by omega) 0 _
    · show Bel R w.heap.size w (setBx (w9.setCell ⟨w6.heap.size, 3, none⟩ (.int .i64 r9)) w.heap.size 0 ⟨0, r1, r7, r9, r2, r3, r4, r5, r6⟩)
      exact HB.out.trans (bel_of (setBx_below _ _ (Nat.le_refl _)))
  · have hk' : (r1 == 0) = false := by simp [hk]
    have Hk := Lib.hid hk
    clear hk
    have x7 := Keep.new w6 (.cells (Bx.arr ⟨0, r1, 0, 0, r2, r3, r4, r5, r6⟩) 39)
    have k7 := k6.alloc (.cells (Bx.arr ⟨0, r1, 0, 0, r2, r3, r4, r5, r6⟩) 39)
    have g0 : w6.cell? ⟨w.heap.size, 0, none⟩ = some (.int .i64 0) := k6.cell 0
    have z0 : w6.frozen? ⟨w.heap.size, 0, none⟩ = false := k6.frozen 0
    have g1 : w6.cell? ⟨w.heap.size, 1, none⟩ = some (.int .i64 0) := k6.cell 1
    have z1 : w6.frozen? ⟨w.heap.size, 1, none⟩ = false := k6.frozen 1
    have g2 : w6.cell? ⟨w.heap.size, 2, none⟩ = some (.int .i64 0) := k6.cell 2
    have z2 : w6.frozen? ⟨w.heap.size, 2, none⟩ = false := k6.frozen 2
    have g3 : w6.cell? ⟨w.heap.size, 3, none⟩ = some (.int .i64 0) := k6.cell 3
    have z3 : w6.frozen? ⟨w.heap.size, 3, none⟩ = false := k6.frozen 3
    have g4 : w6.cell? ⟨w.heap.size, 4, none⟩ = some (.int .i64 0) := k6.cell 4
    have z4 : w6.frozen? ⟨w.heap.size, 4, none⟩ = false := k6.frozen 4
    have g5 : w6.cell? ⟨w.heap.size, 5, none⟩ = some (.int .i64 0) := k6.cell 5
    have z5 : w6.frozen? ⟨w.heap.size, 5, none⟩ = false := k6.frozen 5
    have g6 : w6.cell? ⟨w.heap.size, 6, none⟩ = some (.int .i64 0) := k6.cell 6
    have z6 : w6.frozen? ⟨w.heap.size, 6, none⟩ = false := k6.frozen 6
    have g7 : w6.cell? ⟨w.heap.size, 7, none⟩ = some (.int .i64 0) := k6.cell 7
    have z7 : w6.frozen? ⟨w.heap.size, 7, none⟩ = false := k6.frozen 7
    have g8 : w6.cell? ⟨w.heap.size, 8, none⟩ = some (.int .i64 0) := k6.cell 8
    have z8 : w6.frozen? ⟨w.heap.size, 8, none⟩ = false := k6.frozen 8
    have hfin : Hid (okB ⟨0, r1, 0, 0, r2, r3, r4, r5, r6⟩ = true) := by
      show _ = _
      rw [okB_eq]
      simp only [Bool.and_eq_true, inR_iff, Bool.or_eq_true, beq_iff_eq]
      refine ⟨⟨⟨⟨⟨⟨⟨⟨?_, ?_⟩, ?_⟩, ?_⟩, ?_⟩, ?_⟩, ?_⟩, ?_⟩, .inr (by simp)⟩ <;> omega
    have HR : Hid (Rdr R w6 (m + 8)) := hr6.mono (by omega)
    have HB : Hid (Bel R w.heap.size w w6) := hb6
    clear hr6 hb6 k6 x7 k7
    go_wp2
    refine bodyPost_ret (v := Bx.agg ⟨0, r1, 0, 0, r2, r3, r4, r5, r6⟩) ?_ rfl ⟨⟨0, r1, 0, 0, r2, r3, r4, r5, r6⟩, rfl, hfin.out, ?_, ?_⟩
    · simp [results, Tryz.results71, go_sem, Bx.agg, hs6, g0, g1, g2, g3, g4, g5, g6, g7, g8]
    · show Rdr R ((setBx w6 w.heap.size 0 ⟨0, r1, 0, 0, r2, r3, r4, r5, r6⟩).alloc _) (m + 8)
      exact (HR.out.setBx (by omega) 0 _).ext (Below.of_alloc _ _)
    · show Bel R w.heap.size w ((setBx w6 w.heap.size 0 ⟨0, r1, 0, 0, r2, r3, r4, r5, r6⟩).alloc _)
      exact bel_alloc (HB.out.trans (bel_of (setBx_below _ _ (Nat.le_refl _)))) (Nat.le_refl _) _
end Go.Proofs.YtdlggpphfkjidaaGreatDoor
