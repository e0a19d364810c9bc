/-
  The reader of the generators: pick, one.
-/
import Derived.Test.YtdlggpphfkjidaaGreatDoorScal
import Derived.Deep.QuietTactic
import Derived.BigQuiet
namespace Go.Proofs.YtdlggpphfkjidaaGreatDoor
open Go Go.RowKit

theorem xor_i64 (a b : Nat) (ha : a < 9223372036854775808) (hb : b < 9223372036854775808) : bits .xor .i64 (a : Int) (b : Int) = ((a ^^^ b : Nat) : Int) := by
  have hx : a ^^^ b < 2 ^ 63 := Nat.xor_lt_two_pow (by omega) (by omega)
  have h1 : (BitVec.ofInt 64 (a : Int)).toNat = a := by
    rw [BitVec.ofInt_natCast, BitVec.toNat_ofNat]; exact Nat.mod_eq_of_lt (by omega)
  have h2 : (BitVec.ofInt 64 (b : Int)).toNat = b := by
    rw [BitVec.ofInt_natCast, BitVec.toNat_ofNat]; exact Nat.mod_eq_of_lt (by omega)
  show IntKind.i64.wrap ((BitVec.ofInt 64 (a : Int) ^^^ BitVec.ofInt 64 (b : Int)).toNat : Int) = _
  rw [BitVec.toNat_xor, h1, h2, IntKind.wrap_i64]
  omega
theorem xor_pos {a b : Int} (ha : 0 ≤ a) (ha2 : a ≤ 4611686018427387903) (hb : 0 ≤ b) (hb2 : b ≤ 4611686018427387903) : 0 ≤ bits .xor .i64 a b ∧ bits .xor .i64 a b ≤ 4611686018427387903 := by
  obtain ⟨a, rfl⟩ := Int.eq_ofNat_of_zero_le ha
  obtain ⟨b, rfl⟩ := Int.eq_ofNat_of_zero_le hb
  rw [xor_i64 a b (by omega) (by omega)]
  have : a ^^^ b < 2 ^ 62 := Nat.xor_lt_two_pow (by omega) (by omega)
  omega

/-- below block number B, but for block R, the world w' is as w was -/
structure Bel (R B : Nat) (w w' : World) : Prop where
  os : w'.os = w.os
  tape : w'.tape = w.tape
  output : w'.output = w.output
  size : w.heap.size ≤ w'.heap.size
  block : ∀ k, k < B → k ≠ R → w'.heap[k]? = w.heap[k]?
abbrev ExtR (R : Nat) (w w' : World) : Prop := Bel R w.heap.size w w'
theorem Bel.refl (R B : Nat) (w : World) : Bel R B w w := ⟨rfl, rfl, rfl, Nat.le_refl _, fun _ _ _ => rfl⟩
theorem Bel.trans {R B : Nat} {a b c : World} (h : Bel R B a b) (k : Bel R B b c) : Bel R B a c :=
  ⟨k.os.trans h.os, k.tape.trans h.tape, k.output.trans h.output, Nat.le_trans h.size k.size, fun i hi hr => (k.block i hi hr).trans (h.block i hi hr)⟩
theorem Bel.mono {R B B' : Nat} {w w' : World} (h : Bel R B w w') (hB : B' ≤ B) : Bel R B' w w' := ⟨h.os, h.tape, h.output, h.size, fun k hk hr => h.block k (Nat.lt_of_lt_of_le hk hB) hr⟩
theorem bel_of {R B : Nat} {w w' : World} (h : Below B w w') : Bel R B w w' := ⟨h.os, h.tape, h.output, h.size, fun k hk _ => h.block k hk⟩
theorem below_of_bel {R B : Nat} {w w' : World} (h : Bel R B w w') (hR : B ≤ R) : Below B w w' := ⟨h.os, h.tape, h.output, h.size, fun k hk => h.block k hk (by omega)⟩
theorem afterR {R B : Nat} {w w1 w2 : World} (h : Bel R B w w1) (h2 : ExtR R w1 w2) (hB : B ≤ w.heap.size) : Bel R B w w2 :=
  h.trans (h2.mono (Nat.le_trans hB h.size))
theorem afterE {R B : Nat} {w w1 w2 : World} (h : Bel R B w w1) (h2 : Ext w1 w2) (hB : B ≤ w.heap.size) : Bel R B w w2 :=
  h.trans (bel_of (h2.mono (Nat.le_trans hB h.size)))
theorem Own.bel {R : Nat} {w w' : World} {base size : Nat} {v : Value} {xs : List Value} (h : Own w base size v xs) (hb : ExtR R w w') (hR : R < base) : Own w' base size v xs := by
  obtain ⟨a, n, c, rfl, hl, hn, hc, h⟩ := h
  refine ⟨a, n, c, rfl, hl, hn, hc, ?_⟩
  rcases h with rfl | ⟨g, off, cur, e, rfl, hg, hh, hs, ht⟩
  · exact .inl rfl
  · refine .inr ⟨g, off, cur, e, rfl, hg, ?_, hs, ht⟩
    rw [hb.block g (Array.getElem?_eq_some_iff.1 hh).1 (by omega)]
    exact hh

/-- block R is a reader that has been asked at most m times -/
def Rdr (R : Nat) (w : World) (m : Nat) : Prop :=
  ∃ (a : Option Addr) (n c : Nat) (p : Nat) (e : TypeId), w.heap[R]? = some (.cells #[.slice a n c, .int .i64 p] e) ∧ p ≤ m ∧ n ≤ 2000 ∧ n ≤ c ∧ c ≤ maxLen ∧
    (n = 0 ∨ ∃ b off, a = some ⟨b, off, none⟩ ∧ b < R ∧ ∀ j, j < n → ∃ x : Int, 0 ≤ x ∧ x < 256 ∧ w.cell? ⟨b, off + j, none⟩ = some (.int .u8 x))
theorem Rdr.lt {R : Nat} {w : World} {m : Nat} (h : Rdr R w m) : R < w.heap.size := by
  obtain ⟨a, n, c, p, e, h, _⟩ := h
  exact (Array.getElem?_eq_some_iff.1 h).1
theorem Rdr.mono {R : Nat} {w : World} {m m' : Nat} (h : Rdr R w m) (hm : m ≤ m') : Rdr R w m' := by
  obtain ⟨a, n, c, p, e, h, hp, hr⟩ := h
  exact ⟨a, n, c, p, e, h, by omega, hr⟩
theorem Rdr.ext {R : Nat} {w w' : World} {m : Nat} (h : Rdr R w m) (hx : Ext w w') : Rdr R w' m := by
  have hlt := h.lt
  obtain ⟨a, n, c, p, e, h, hp, hn, hc, hm, hr⟩ := h
  refine ⟨a, n, c, p, e, by rw [hx.block R hlt]; exact h, hp, hn, hc, hm, ?_⟩
  rcases hr with hr | ⟨b, off, ha, hb, hj⟩
  · exact .inl hr
  · refine .inr ⟨b, off, ha, hb, fun j hj' => ?_⟩
    obtain ⟨x, h1, h2, h3⟩ := hj j hj'
    exact ⟨x, h1, h2, by rw [hx.cell (by show b < _; omega)]; exact h3⟩

/-- a number below n, if there is one -/
def PickR (n r : Int) : Prop := 0 ≤ r ∧ (1 ≤ n → r < n)

theorem Rdr.drewN {R : Nat} {w : World} {m : Nat} (h : Rdr R w m) (n : Nat) : Rdr R (w.drewN n) m := h
theorem bel_drewN {R B : Nat} {w w' : World} (h : Bel R B w w') (n : Nat) : Bel R B w (w'.drewN n) := ⟨h.os, h.tape, h.output, h.size, h.block⟩

set_option maxRecDepth 100000 in
set_option maxHeartbeats 2000000 in
theorem pick_any {R m : Nat} (n : Int) (w : World) (h : Rdr R w m) (hm : m ≤ 100000) :
    Calls Tryz.prog 33 #[.pointer (some ⟨R, 0, none⟩), .int .i64 n] w fun e w' => ∃ r : Int, e = .returned (.int .i64 r) ∧ PickR n r ∧ Rdr R w' (m + 1) ∧ ExtR R w w' := by
  obtain ⟨a, L, c, p, e, hh, hp, hL, hLc, hc, hr⟩ := h
  have hR := (Array.getElem?_eq_some_iff.1 hh).1
  unfold maxLen at hc
  have k0 : w.cell? ⟨R, 0, none⟩ = some (.slice a L c) := by rw [cell_of_heap hh]; rfl
  have k1 : w.cell? ⟨R, 1, none⟩ = some (.int .i64 p) := by rw [cell_of_heap hh]; rfl
  have f1 : w.frozen? ⟨R, 1, none⟩ = false := frozen_of_heap hh
  have Hh := Lib.hid hh
  have Hr := Lib.hid hr
  have hfin : Hid (Rdr R (w.setCell ⟨R, 1, none⟩ (.int .i64 ((p : Int) + 1))) (m + 1) ∧ ExtR R w (w.setCell ⟨R, 1, none⟩ (.int .i64 ((p : Int) + 1)))) := by
    refine ⟨⟨a, L, c, p + 1, e, ?_, by omega, hL, hLc, hc, ?_⟩, ⟨rfl, rfl, rfl, by simp [World.setCell], fun k _ hk => Below.heap_setCell _ _ _ _ hk⟩⟩
    · rw [setCell_heap Hh.out 1]
      rfl
    · rcases Hr.out with hr | ⟨b, off, ha, hb, hj⟩
      · exact .inl hr
      · refine .inr ⟨b, off, ha, hb, fun j hj' => ?_⟩
        obtain ⟨x, h1, h2, h3⟩ := hj j hj'
        refine ⟨x, h1, h2, ?_⟩
        rw [World.cell?_of_block (w := w) (Below.heap_setCell _ _ _ _ (by show b ≠ R; omega))]
        exact h3
  clear hh hr
  by_cases hn : n < 1
  · go_enter Tryz.func33, Tryz.ntmps33
    go_wp2
    go_ret
    exact ⟨0, rfl, ⟨Int.le_refl _, fun h => by omega⟩, hfin.out⟩
  · by_cases hL0 : L = 0
    · have HL0 := Lib.hid hL0
      have hLb : ((L : Int) == 0) = true := by simp [hL0]
      clear hL0
      go_enter Tryz.func33, Tryz.ntmps33
      go_wp2
      go_ret
      exact ⟨0, rfl, ⟨Int.le_refl _, fun h => by omega⟩, hfin.out⟩
    · obtain ⟨b, off, rfl, hb, hj⟩ := Hr.out.resolve_left hL0
      have hLb : ((L : Int) == 0) = false := by simp [hL0]
      have hLp : 0 < L := by omega
      have HJ := Lib.hid hj
      clear hL0 hj
      by_cases hk : p < L
      · obtain ⟨x, x0, x1, hx⟩ := HJ.out p hk
        go_enter Tryz.func33, Tryz.ntmps33
        go_wp2
        go_ret
        exact ⟨x % n, rfl, ⟨Int.emod_nonneg _ (by omega), fun _ => Int.emod_lt_of_pos _ (by omega)⟩, hfin.out⟩
      · obtain ⟨q1, hq1⟩ : ∃ q : Nat, q = p % L := ⟨_, rfl⟩
        obtain ⟨q2, hq2⟩ : ∃ q : Nat, q = (p * 7 + 3) % L := ⟨_, rfl⟩
        obtain ⟨q3, hq3⟩ : ∃ q : Nat, q = p / L := ⟨_, rfl⟩
        have b1 : q1 < L := by rw [hq1]; exact Nat.mod_lt _ hLp
        have b2 : q2 < L := by rw [hq2]; exact Nat.mod_lt _ hLp
        have b3 : q3 ≤ 100000 := by rw [hq3]; exact Nat.le_trans (Nat.div_le_self _ _) (by omega)
        obtain ⟨x, x0, x1, hx⟩ := HJ.out q1 b1
        obtain ⟨y, y0, y1, hy⟩ := HJ.out q2 b2
        have m1 : Int.tmod (p : Int) (L : Int) = (q1 : Int) := by rw [hq1]; rfl
        have m2 : Int.tmod ((p : Int) * 7 + 3) (L : Int) = (q2 : Int) := by rw [hq2]; rfl
        have m3 : Int.tdiv (p : Int) (L : Int) = (q3 : Int) := by rw [hq3]; rfl
        have w1 : IntKind.i64.wrap ((p : Int) * 7) = (p : Int) * 7 := IntWalk.i64_in _ (by omega)
        have w2 : IntKind.i64.wrap ((p : Int) * 7 + 3) = (p : Int) * 7 + 3 := IntWalk.i64_in _ (by omega)
        have w3 : IntKind.i64.wrap (x * 131) = x * 131 := IntWalk.i64_in _ (by omega)
        have w4 : IntKind.i64.wrap (y * 1117) = y * 1117 := IntWalk.i64_in _ (by omega)
        have w5 : IntKind.i64.wrap (x * 131 + y * 1117) = x * 131 + y * 1117 := IntWalk.i64_in _ (by omega)
        have w6 : IntKind.i64.wrap ((p : Int) * 29) = (p : Int) * 29 := IntWalk.i64_in _ (by omega)
        have w7 : IntKind.i64.wrap (x * 131 + y * 1117 + (p : Int) * 29) = x * 131 + y * 1117 + (p : Int) * 29 := IntWalk.i64_in _ (by omega)
        have w8 : IntKind.i64.wrap ((q3 : Int) * 53) = (q3 : Int) * 53 := IntWalk.i64_in _ (by omega)
        have w9 : IntKind.i64.wrap (x * 131 + y * 1117 + (p : Int) * 29 + (q3 : Int) * 53) = x * 131 + y * 1117 + (p : Int) * 29 + (q3 : Int) * 53 := IntWalk.i64_in _ (by omega)
        have c1 : IntKind.i64.wrap (q1 : Int) = (q1 : Int) := IntWalk.i64_in _ (by omega)
        have c2 : IntKind.i64.wrap (q2 : Int) = (q2 : Int) := IntWalk.i64_in _ (by omega)
        have c3 : IntKind.i64.wrap (q3 : Int) = (q3 : Int) := IntWalk.i64_in _ (by omega)
        have c4 : IntKind.i64.wrap x = x := IntWalk.i64_in _ (by omega)
        have c5 : IntKind.i64.wrap y = y := IntWalk.i64_in _ (by omega)
        have i1 : (q1 : Int) < (L : Int) := by omega
        have i2 : (q2 : Int) < (L : Int) := by omega
        clear hq1 hq2 hq3
        go_enter Tryz.func33, Tryz.ntmps33
        go_wp2
        go_quiet (fail)
        obtain ⟨X, hX⟩ : ∃ X, X = x * 131 + y * 1117 + (p : Int) * 29 + (q3 : Int) * 53 := ⟨_, rfl⟩
        have X0 : 0 ≤ X := by omega
        have X1 : X ≤ 100000000 := by omega
        rw [← hX]
        clear w1 w2 w3 w4 w5 w6 w7 w8 w9 c1 c2 c3 c4 c5 m1 m2 m3 hX
        obtain ⟨z0, z1⟩ := xor_pos (a := X) (b := X / 64) X0 (by omega) (by omega) (by omega)
        go_wp2
        go_ret
        exact ⟨bits .xor .i64 X (X / 64) % n, rfl, ⟨Int.emod_nonneg _ (by omega), fun _ => Int.emod_lt_of_pos _ (by omega)⟩, hfin.out.1.drewN _, bel_drewN hfin.out.2 _⟩

set_option maxRecDepth 100000 in
set_option maxHeartbeats 1000000 in
theorem one_any {R m g : Nat} {l : List Int} {e : TypeId} (w : World) (h : Rdr R w m) (hm : m ≤ 100000) (hg : w.heap[g]? = some (.cells (Is l).toArray e)) (hgR : g ≠ R) (hl : l ≠ []) (hl2 : l.length ≤ 100) :
    Calls Tryz.prog 40 #[.pointer (some ⟨R, 0, none⟩), .slice (some ⟨g, 0, none⟩) l.length l.length] w fun e w' => ∃ r : Int, e = .returned (.int .i64 r) ∧ r ∈ l ∧ Rdr R w' (m + 1) ∧ ExtR R w w' := by
  have hgl := (Array.getElem?_eq_some_iff.1 hg).1
  have hpos : 0 < l.length := List.length_pos_iff.2 hl
  have Hg := Lib.hid hg
  clear hg hl
  go_enter Tryz.func40, Tryz.ntmps40
  go_wp2_with (fail)
  refine (pick_any (l.length : Int) _ h hm).mono ?_
  rintro e w1 ⟨r, rfl, ⟨r0, r1⟩, hr, hx⟩
  have r1 := r1 (by omega)
  obtain ⟨r, rfl⟩ := Int.eq_ofNat_of_zero_le r0
  obtain ⟨x, hxr⟩ : ∃ x, l[r]? = some x := ⟨_, List.getElem?_eq_getElem (by omega)⟩
  have c1 : w1.cell? ⟨g, r, none⟩ = some (.int .i64 x) := by
    rw [cell_of_heap (w := w1) (by rw [hx.block g hgl hgR]; exact Hg.out)]
    simp [Is, hxr]
  have Hx := Lib.hid hxr
  clear hxr h
  go_wp2
  go_ret
  exact ⟨x, rfl, List.mem_of_getElem? Hx.out, hr, hx⟩
end Go.Proofs.YtdlggpphfkjidaaGreatDoor
