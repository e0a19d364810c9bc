/-
  Parts of the proof: Rdr Some.
-/
import Derived.Test.YthkkgleoikpfgaaGreatDoorKAa
import Derived.Deep.QuietTactic
import Derived.BigQuiet
namespace Go.Proofs.YthkkgleoikpfgaaGreatDoor
open Go Go.RowKit
theorem xor_i64 (a b : Nat) (ha : a < 9223372036854775808) (hb : b < 9223372036854775808) : bits .xor .i64 (a : Int) (b : Int) = ((a ^^^ b : Nat) : Int) := by
 have hx : a ^^^ b < 2 ^ 63 := Nat.xor_lt_two_pow (by omega) (by omega)
 have h1 : (BitVec.ofInt 64 (a : Int)).toNat = a := by
  rw [BitVec.ofInt_natCast, BitVec.toNat_ofNat]; exact Nat.mod_eq_of_lt (by omega)
 have h2 : (BitVec.ofInt 64 (b : Int)).toNat = b := by
  rw [BitVec.ofInt_natCast, BitVec.toNat_ofNat]; exact Nat.mod_eq_of_lt (by omega)
 show IntKind.i64.wrap ((BitVec.ofInt 64 (a : Int) ^^^ BitVec.ofInt 64 (b : Int)).toNat : Int) = _
 rw [BitVec.toNat_xor, h1, h2, IntKind.wrap_i64]
 omega
theorem xor_pos {a b : Int} (ha : 0 ≤ a) (ha2 : a ≤ 4611686018427387903) (hb : 0 ≤ b) (hb2 : b ≤ 4611686018427387903) : 0 ≤ bits .xor .i64 a b ∧ bits .xor .i64 a b ≤ 4611686018427387903 := by
 obtain ⟨a, rfl⟩ := Int.eq_ofNat_of_zero_le ha
 obtain ⟨b, rfl⟩ := Int.eq_ofNat_of_zero_le hb
 rw [xor_i64 a b (by omega) (by omega)]
 have : a ^^^ b < 2 ^ 62 := Nat.xor_lt_two_pow (by omega) (by omega)
 omega
/-- below block number B, but for block R, the world w' is as w was -/
structure Bel (R B : Nat) (w w' : World) : Prop where
 os : w'.os = w.os
 tape : w'.tape = w.tape
 output : w'.output = w.output
 size : w.heap.size ≤ w'.heap.size
 block : ∀ k, k < B → k ≠ R → w'.heap[k]? = w.heap[k]?
abbrev ExtR (R : Nat) (w w' : World) : Prop := Bel R w.heap.size w w'
theorem Bel.refl (R B : Nat) (w : World) : Bel R B w w := ⟨rfl, rfl, rfl, Nat.le_refl _, fun _ _ _ => rfl⟩
theorem Bel.trans {R B : Nat} {a b c : World} (h : Bel R B a b) (k : Bel R B b c) : Bel R B a c :=
 ⟨k.os.trans h.os, k.tape.trans h.tape, k.output.trans h.output, Nat.le_trans h.size k.size, fun i hi hr => (k.block i hi hr).trans (h.block i hi hr)⟩
theorem Bel.mono {R B B' : Nat} {w w' : World} (h : Bel R B w w') (hB : B' ≤ B) : Bel R B' w w' := ⟨h.os, h.tape, h.output, h.size, fun k hk hr => h.block k (Nat.lt_of_lt_of_le hk hB) hr⟩
theorem bel_of {R B : Nat} {w w' : World} (h : Below B w w') : Bel R B w w' := ⟨h.os, h.tape, h.output, h.size, fun k hk _ => h.block k hk⟩
theorem below_of_bel {R B : Nat} {w w' : World} (h : Bel R B w w') (hR : B ≤ R) : Below B w w' := ⟨h.os, h.tape, h.output, h.size, fun k hk => h.block k hk (by omega)⟩
theorem afterR {R B : Nat} {w w1 w2 : World} (h : Bel R B w w1) (h2 : ExtR R w1 w2) (hB : B ≤ w.heap.size) : Bel R B w w2 :=
 h.trans (h2.mono (Nat.le_trans hB h.size))
theorem afterE {R B : Nat} {w w1 w2 : World} (h : Bel R B w w1) (h2 : Ext w1 w2) (hB : B ≤ w.heap.size) : Bel R B w w2 :=
 h.trans (bel_of (h2.mono (Nat.le_trans hB h.size)))
theorem Own.bel {R : Nat} {w w' : World} {base size : Nat} {v : Value} {xs : List Value} (h : Own w base size v xs) (hb : ExtR R w w') (hR : R < base) : Own w' base size v xs := by
 obtain ⟨a, n, c, rfl, hl, hn, hc, h⟩ := h
 refine ⟨a, n, c, rfl, hl, hn, hc, ?_⟩
 rcases h with rfl | ⟨g, off, cur, e, rfl, hg, hh, hs, ht⟩
 ·exact .inl rfl
 ·refine .inr ⟨g, off, cur, e, rfl, hg, ?_, hs, ht⟩
  rw [hb.block g (Array.getElem?_eq_some_iff.1 hh).1 (by omega)]
  exact hh
/-- block R is a reader that has been asked at most m times -/
def Rdr (R : Nat) (w : World) (m : Nat) : Prop :=
 ∃ (a : Option Addr) (n c : Nat) (p : Nat) (e : TypeId), w.heap[R]? = some (.cells #[.slice a n c, .int .i64 p] e) ∧ p ≤ m ∧ n ≤ 2000 ∧ n ≤ c ∧ c ≤ maxLen ∧
  (n = 0 ∨ ∃ b off, a = some ⟨b, off, none⟩ ∧ b < R ∧ ∀ j, j < n → ∃ x : Int, 0 ≤ x ∧ x < 256 ∧ w.cell? ⟨b, off + j, none⟩ = some (.int .u8 x))
theorem Rdr.lt {R : Nat} {w : World} {m : Nat} (h : Rdr R w m) : R < w.heap.size := by
 obtain ⟨a, n, c, p, e, h, _⟩ := h
 exact (Array.getElem?_eq_some_iff.1 h).1
theorem Rdr.mono {R : Nat} {w : World} {m m' : Nat} (h : Rdr R w m) (hm : m ≤ m') : Rdr R w m' := by
 obtain ⟨a, n, c, p, e, h, hp, hr⟩ := h
 exact ⟨a, n, c, p, e, h, by omega, hr⟩
theorem Rdr.ext {R : Nat} {w w' : World} {m : Nat} (h : Rdr R w m) (hx : Ext w w') : Rdr R w' m := by
 have hlt := h.lt
 obtain ⟨a, n, c, p, e, h, hp, hn, hc, hm, hr⟩ := h
 refine ⟨a, n, c, p, e, by rw [hx.block R hlt]; exact h, hp, hn, hc, hm, ?_⟩
 rcases hr with hr | ⟨b, off, ha, hb, hj⟩
 ·exact .inl hr
 ·refine .inr ⟨b, off, ha, hb, fun j hj' => ?_⟩
  obtain ⟨x, h1, h2, h3⟩ := hj j hj'
  exact ⟨x, h1, h2, by rw [hx.cell (by show b < _; omega)]; exact h3⟩
/-- a number below n, if there is one -/
def PickR (n r : Int) : Prop := 0 ≤ r ∧ (1 ≤ n → r < n)
theorem Rdr.drewN {R : Nat} {w : World} {m : Nat} (h : Rdr R w m) (n : Nat) : Rdr R (w.drewN n) m := h
theorem bel_drewN {R B : Nat} {w w' : World} (h : Bel R B w w') (n : Nat) : Bel R B w (w'.drewN n) := ⟨h.os, h.tape, h.output, h.size, h.block⟩
set_option maxRecDepth 100000 in
set_option maxHeartbeats 2000000 in
theorem pick_any {R m : Nat} (n : Int) (w : World) (h : Rdr R w m) (hm : m ≤ 100000) :
 Calls Tryz.prog 17 #[.pointer (some ⟨R, 0, none⟩), .int .i64 n] w fun e w' => ∃ r : Int, e = .returned (.int .i64 r) ∧ PickR n r ∧ Rdr R w' (m + 1) ∧ ExtR R w w' := by
 obtain ⟨a, L, c, p, e, hh, hp, hL, hLc, hc, hr⟩ := h
 have hR := (Array.getElem?_eq_some_iff.1 hh).1
 unfold maxLen at hc
 have k0 : w.cell? ⟨R, 0, none⟩ = some (.slice a L c) := by rw [cell_of_heap hh]; rfl
 have k1 : w.cell? ⟨R, 1, none⟩ = some (.int .i64 p) := by rw [cell_of_heap hh]; rfl
 have f1 : w.frozen? ⟨R, 1, none⟩ = false := frozen_of_heap hh
 have Hh := Lib.hid hh
 have Hr := Lib.hid hr
 have hfin : Hid (Rdr R (w.setCell ⟨R, 1, none⟩ (.int .i64 ((p : Int) + 1))) (m + 1) ∧ ExtR R w (w.setCell ⟨R, 1, none⟩ (.int .i64 ((p : Int) + 1)))) := by
  refine ⟨⟨a, L, c, p + 1, e, ?_, by omega, hL, hLc, hc, ?_⟩, ⟨rfl, rfl, rfl, by simp [World.setCell], fun k _ hk => Below.heap_setCell _ _ _ _ hk⟩⟩
  ·rw [setCell_heap Hh.out 1]
   rfl
  ·rcases Hr.out with hr | ⟨b, off, ha, hb, hj⟩
   ·exact .inl hr
   ·refine .inr ⟨b, off, ha, hb, fun j hj' => ?_⟩
    obtain ⟨x, h1, h2, h3⟩ := hj j hj'
    refine ⟨x, h1, h2, ?_⟩
    rw [World.cell?_of_block (w := w) (Below.heap_setCell _ _ _ _ (by show b ≠ R; omega))]
    exact h3
 clear hh hr
 by_cases hn : n < 1
 ·go_enter Tryz.func17, Tryz.ntmps17
  go_wp2
  go_ret
  exact ⟨0, rfl, ⟨Int.le_refl _, fun h => by omega⟩, hfin.out⟩
 ·by_cases hL0 : L = 0
  ·have HL0 := Lib.hid hL0
   have hLb : ((L : Int) == 0) = true := by simp [hL0]
   clear hL0
   go_enter Tryz.func17, Tryz.ntmps17
   go_wp2
   go_ret
   exact ⟨0, rfl, ⟨Int.le_refl _, fun h => by omega⟩, hfin.out⟩
  ·obtain ⟨b, off, rfl, hb, hj⟩ := Hr.out.resolve_left hL0
   have hLb : ((L : Int) == 0) = false := by simp [hL0]
   have hLp : 0 < L := by omega
   have HJ := Lib.hid hj
   clear hL0 hj
   by_cases hk : p < L
   ·obtain ⟨x, x0, x1, hx⟩ := HJ.out p hk
    go_enter Tryz.func17, Tryz.ntmps17
    go_wp2
    go_ret
    exact ⟨x % n, rfl, ⟨Int.emod_nonneg _ (by omega), fun _ => Int.emod_lt_of_pos _ (by omega)⟩, hfin.out⟩
   ·obtain ⟨q1, hq1⟩ : ∃ q : Nat, q = p % L := ⟨_, rfl⟩
    obtain ⟨q2, hq2⟩ : ∃ q : Nat, q = (p * 7 + 3) % L := ⟨_, rfl⟩
    obtain ⟨q3, hq3⟩ : ∃ q : Nat, q = p / L := ⟨_, rfl⟩
    have b1 : q1 < L := by rw [hq1]; exact Nat.mod_lt _ hLp
    have b2 : q2 < L := by rw [hq2]; exact Nat.mod_lt _ hLp
    have b3 : q3 ≤ 100000 := by rw [hq3]; exact Nat.le_trans (Nat.div_le_self _ _) (by omega)
    obtain ⟨x, x0, x1, hx⟩ := HJ.out q1 b1
    obtain ⟨y, y0, y1, hy⟩ := HJ.out q2 b2
    have m1 : Int.tmod (p : Int) (L : Int) = (q1 : Int) := by rw [hq1]; rfl
    have m2 : Int.tmod ((p : Int) * 7 + 3) (L : Int) = (q2 : Int) := by rw [hq2]; rfl
    have m3 : Int.tdiv (p : Int) (L : Int) = (q3 : Int) := by rw [hq3]; rfl
    have w1 : IntKind.i64.wrap ((p : Int) * 7) = (p : Int) * 7 := IntWalk.i64_in _ (by omega)
    have w2 : IntKind.i64.wrap ((p : Int) * 7 + 3) = (p : Int) * 7 + 3 := IntWalk.i64_in _ (by omega)
    have w3 : IntKind.i64.wrap (x * 131) = x * 131 := IntWalk.i64_in _ (by omega)
    have w4 : IntKind.i64.wrap (y * 1117) = y * 1117 := IntWalk.i64_in _ (by omega)
    have w5 : IntKind.i64.wrap (x * 131 + y * 1117) = x * 131 + y * 1117 := IntWalk.i64_in _ (by omega)
    have w6 : IntKind.i64.wrap ((p : Int) * 29) = (p : Int) * 29 := IntWalk.i64_in _ (by omega)
    have w7 : IntKind.i64.wrap (x * 131 + y * 1117 + (p : Int) * 29) = x * 131 + y * 1117 + (p : Int) * 29 := IntWalk.i64_in _ (by omega)
    have w8 : IntKind.i64.wrap ((q3 : Int) * 53) = (q3 : Int) * 53 := IntWalk.i64_in _ (by omega)
    have w9 : IntKind.i64.wrap (x * 131 + y * 1117 + (p : Int) * 29 + (q3 : Int) * 53) = x * 131 + y * 1117 + (p : Int) * 29 + (q3 : Int) * 53 := IntWalk.i64_in _ (by omega)
    have c1 : IntKind.i64.wrap (q1 : Int) = (q1 : Int) := IntWalk.i64_in _ (by omega)
    have c2 : IntKind.i64.wrap (q2 : Int) = (q2 : Int) := IntWalk.i64_in _ (by omega)
    have c3 : IntKind.i64.wrap (q3 : Int) = (q3 : Int) := IntWalk.i64_in _ (by omega)
    have c4 : IntKind.i64.wrap x = x := IntWalk.i64_in _ (by omega)
    have c5 : IntKind.i64.wrap y = y := IntWalk.i64_in _ (by omega)
    have i1 : (q1 : Int) < (L : Int) := by omega
    have i2 : (q2 : Int) < (L : Int) := by omega
    clear hq1 hq2 hq3
    go_enter Tryz.func17, Tryz.ntmps17
    go_wp2
    go_quiet (fail)
    obtain ⟨X, hX⟩ : ∃ X, X = x * 131 + y * 1117 + (p : Int) * 29 + (q3 : Int) * 53 := ⟨_, rfl⟩
    have X0 : 0 ≤ X := by omega
    have X1 : X ≤ 100000000 := by omega
    rw [← hX]
    clear w1 w2 w3 w4 w5 w6 w7 w8 w9 c1 c2 c3 c4 c5 m1 m2 m3 hX
    obtain ⟨z0, z1⟩ := xor_pos (a := X) (b := X / 64) X0 (by omega) (by omega) (by omega)
    go_wp2
    go_ret
    exact ⟨bits .xor .i64 X (X / 64) % n, rfl, ⟨Int.emod_nonneg _ (by omega), fun _ => Int.emod_lt_of_pos _ (by omega)⟩, hfin.out.1.drewN _, bel_drewN hfin.out.2 _⟩
set_option maxRecDepth 100000 in
set_option maxHeartbeats 1000000 in
theorem one_any {R m g : Nat} {l : List Int} {e : TypeId} (w : World) (h : Rdr R w m) (hm : m ≤ 100000) (hg : w.heap[g]? = some (.cells (Is l).toArray e)) (hgR : g ≠ R) (hl : l ≠ []) (hl2 : l.length ≤ 100) :
 Calls Tryz.prog 16 #[.pointer (some ⟨R, 0, none⟩), .slice (some ⟨g, 0, none⟩) l.length l.length] w fun e w' => ∃ r : Int, e = .returned (.int .i64 r) ∧ r ∈ l ∧ Rdr R w' (m + 1) ∧ ExtR R w w' := by
 have hgl := (Array.getElem?_eq_some_iff.1 hg).1
 have hpos : 0 < l.length := List.length_pos_iff.2 hl
 have Hg := Lib.hid hg
 clear hg hl
 go_enter Tryz.func16, Tryz.ntmps16
 go_wp2_with (fail)
 refine (pick_any (l.length : Int) _ h hm).mono ?_
 rintro e w1 ⟨r, rfl, ⟨r0, r1⟩, hr, hx⟩
 have r1 := r1 (by omega)
 obtain ⟨r, rfl⟩ := Int.eq_ofNat_of_zero_le r0
 obtain ⟨x, hxr⟩ : ∃ x, l[r]? = some x := ⟨_, List.getElem?_eq_getElem (by omega)⟩
 have c1 : w1.cell? ⟨g, r, none⟩ = some (.int .i64 x) := by
  rw [cell_of_heap (w := w1) (by rw [hx.block g hgl hgR]; exact Hg.out)]
  simp [Is, hxr]
 have Hx := Lib.hid hxr
 clear hxr h
 go_wp2
 go_ret
 exact ⟨x, rfl, List.mem_of_getElem? Hx.out, hr, hx⟩
/-- a list of bytes that is read -/
def RdBytes (w : World) (v : Value) : Prop :=
 ∃ (a : Option Addr) (n c : Nat), v = .slice a n c ∧ n ≤ c ∧ c ≤ maxLen ∧ (n = 0 ∨ ∃ b off, a = some ⟨b, off, none⟩ ∧ b < w.heap.size ∧ ∀ j, j < n → ∃ x : Int, 0 ≤ x ∧ x < 256 ∧ w.cell? ⟨b, off + j, none⟩ = some (.int .u8 x))
set_option maxHeartbeats 1000000 in
theorem newReader_any {v : Value} (w : World) (hv : RdBytes w v) :
 Calls Tryz.prog 15 #[v] w fun e w' => e = .returned (.pointer (some ⟨w.heap.size, 0, none⟩)) ∧ Rdr w.heap.size w' 0 ∧ Ext w w' := by
 obtain ⟨a, n, c, rfl, hn, hc, hb⟩ := hv
 have Hc := Lib.hid hc
 unfold maxLen at hc
 have Hb := Lib.hid hb
 clear hb
 have fin : ∀ (k : Nat) (c2 : Nat), k ≤ n → k ≤ 2000 → k ≤ c2 → c2 ≤ maxLen → Rdr w.heap.size (w.alloc (.cells #[.slice a k c2, .int .i64 0] 60)) 0 := fun k c2 hk h2 hkc hc2 => by
  refine ⟨a, k, c2, 0, _, heap_alloc_new w _, Nat.le_refl _, h2, hkc, hc2, ?_⟩
  rcases Hb.out with h | ⟨b, off, ha, hbl, hj⟩
  ·exact .inl (by omega)
  ·refine .inr ⟨b, off, ha, hbl, fun j hj' => ?_⟩
   obtain ⟨x, h1, h2, h3⟩ := hj j (by omega)
   exact ⟨x, h1, h2, by rw [(Below.of_alloc w _).cell (by exact hbl)]; exact h3⟩
 have Fin := Lib.hid fin
 clear fin
 by_cases hlen : 2000 < n
 ·go_enter Tryz.func15, Tryz.ntmps15
  go_wp2
  go_ret
  exact ⟨rfl, Fin.out 2000 c (by omega) (by omega) (by omega) Hc.out, Below.of_alloc _ _⟩
 ·go_enter Tryz.func15, Tryz.ntmps15
  go_wp2
  go_ret
  exact ⟨rfl, Fin.out n c (by omega) (by omega) (by omega) Hc.out, Below.of_alloc _ _⟩
theorem Keep.extR {k R : Nat} {o : Obj} {w w' : World} (h : Keep k o w) (hx : ExtR R w w') (hk : k ≠ R) : Keep k o w' := by
 unfold Keep
 rw [hx.block k h.lt hk]
 exact h
theorem bel_alloc {R B : Nat} {w w1 : World} (h : Bel R B w w1) (hB : B ≤ w.heap.size) (o : Obj) : Bel R B w (w1.alloc o) :=
 h.trans (bel_of ((Below.of_alloc w1 o).mono (Nat.le_trans hB h.size)))
theorem bel_setCell {R B : Nat} {w w1 : World} (h : Bel R B w w1) {p : Addr} (hp : B ≤ p.block) (u : Value) : Bel R B w (w1.setCell p u) :=
 h.trans (bel_of ((Below.refl B w1).setCell hp u))
theorem Rdr.setCell {R m : Nat} {w : World} (h : Rdr R w m) {p : Addr} (hp : R < p.block) (u : Value) : Rdr R (w.setCell p u) m := by
 obtain ⟨a, n, c, q, e, h, hq, hn, hc, hm, hr⟩ := h
 refine ⟨a, n, c, q, e, by rw [Below.heap_setCell _ _ _ _ (by omega)]; exact h, hq, hn, hc, hm, ?_⟩
 rcases hr with hr | ⟨b, off, ha, hb, hj⟩
 ·exact .inl hr
 ·refine .inr ⟨b, off, ha, hb, fun j hj' => ?_⟩
  obtain ⟨x, h1, h2, h3⟩ := hj j hj'
  exact ⟨x, h1, h2, by rw [World.cell?_of_block (w := w) (Below.heap_setCell _ _ _ _ (by show b ≠ _; omega))]; exact h3⟩
theorem Rdr.setBx {R m : Nat} {w : World} (h : Rdr R w m) {b : Nat} (hb : R < b) (o : Nat) (x : Bx) : Rdr R (setBx w b o x) m := by
 unfold Go.Proofs.YthkkgleoikpfgaaGreatDoor.setBx
 exact ((((((((h.setCell (p := ⟨b, o, none⟩) hb _).setCell (p := ⟨b, o + 1, none⟩) hb _).setCell (p := ⟨b, o + 2, none⟩) hb _).setCell (p := ⟨b, o + 3, none⟩) hb _).setCell (p := ⟨b, o + 4, none⟩) hb _).setCell (p := ⟨b, o + 5, none⟩) hb _).setCell (p := ⟨b, o + 6, none⟩) hb _).setCell (p := ⟨b, o + 7, none⟩) hb _).setCell (p := ⟨b, o + 8, none⟩) hb _
set_option maxRecDepth 100000 in
set_option maxHeartbeats 1000000 in
theorem someBox_any {R m : Nat} (w : World) (h : Rdr R w m) (hm : m ≤ 90000) :
 Calls Tryz.prog 20 #[.pointer (some ⟨R, 0, none⟩)] w fun e w' => ∃ x : Bx, e = .returned x.agg ∧ okB x = true ∧ Rdr R w' (m + 8) ∧ ExtR R w w' := by
 have hRl := h.lt
 go_enter Tryz.func20, Tryz.ntmps20
 go_wp2_with (fail)
 have hb0 : Bel R w.heap.size w (w.alloc (.cells zb.arr 39)) := bel_of (Below.of_alloc _ _)
 have k0 : Keep w.heap.size (.cells zb.arr 39) (w.alloc (.cells zb.arr 39)) := Keep.new _ _
 refine (pick_any 4 _ (h.ext (Below.of_alloc _ _)) (by omega)).mono ?_
 rintro e w1 ⟨r1, rfl, ⟨r10, r11⟩, hr1, hx1⟩
 have r11 := r11 (by omega)
 have hb1 := afterR hb0 hx1 (Nat.le_refl _)
 have k1 := k0.extR hx1 (by omega)
 clear h hb0 k0 hx1
 go_wp2_with (fail)
 refine (one_any (l := [0, 0, 1, 5]) _ (hr1.ext (Below.of_alloc _ _)) (by omega) (heapAt _ rfl) (by have := hr1.lt; omega) (by simp) (by simp)).mono ?_
 rintro e w2 ⟨r2, rfl, hm2, hr2, hx2⟩
 have q2 : 0 ≤ r2 ∧ r2 ≤ 50 := by simp at hm2; omega
 have hb2 := afterR (bel_alloc hb1 (Nat.le_refl _) _) hx2 (Nat.le_refl _)
 have k2 := (k1.alloc _).extR hx2 (by omega)
 clear hm2 hr1 hb1 k1 hx2
 go_wp2_with (fail)
 refine (one_any (l := [0, 2, 0, 5]) _ (hr2.ext (Below.of_alloc _ _)) (by omega) (heapAt _ rfl) (by have := hr2.lt; omega) (by simp) (by simp)).mono ?_
 rintro e w3 ⟨r3, rfl, hm3, hr3, hx3⟩
 have q3 : 0 ≤ r3 ∧ r3 ≤ 50 := by simp at hm3; omega
 have hb3 := afterR (bel_alloc hb2 (Nat.le_refl _) _) hx3 (Nat.le_refl _)
 have k3 := (k2.alloc _).extR hx3 (by omega)
 clear hm3 hr2 hb2 k2 hx3
 go_wp2_with (fail)
 refine (one_any (l := [0, 1, 2, 0]) _ (hr3.ext (Below.of_alloc _ _)) (by omega) (heapAt _ rfl) (by have := hr3.lt; omega) (by simp) (by simp)).mono ?_
 rintro e w4 ⟨r4, rfl, hm4, hr4, hx4⟩
 have q4 : 0 ≤ r4 ∧ r4 ≤ 10 := by simp at hm4; omega
 have hb4 := afterR (bel_alloc hb3 (Nat.le_refl _) _) hx4 (Nat.le_refl _)
 have k4 := (k3.alloc _).extR hx4 (by omega)
 clear hm4 hr3 hb3 k3 hx4
 go_wp2_with (fail)
 refine (one_any (l := [0, 1, 1, 3]) _ (hr4.ext (Below.of_alloc _ _)) (by omega) (heapAt _ rfl) (by have := hr4.lt; omega) (by simp) (by simp)).mono ?_
 rintro e w5 ⟨r5, rfl, hm5, hr5, hx5⟩
 have q5 : 0 ≤ r5 ∧ r5 ≤ 10 := by simp at hm5; omega
 have hb5 := afterR (bel_alloc hb4 (Nat.le_refl _) _) hx5 (Nat.le_refl _)
 have k5 := (k4.alloc _).extR hx5 (by omega)
 clear hm5 hr4 hb4 k4 hx5
 go_wp2_with (fail)
 refine (pick_any 4 _ hr5 (by omega)).mono ?_
 rintro e w6 ⟨r6, rfl, ⟨r60, r61⟩, hr6, hx6⟩
 have r61 := r61 (by omega)
 have hb6 := afterR hb5 hx6 (Nat.le_refl _)
 have k6 := k5.extR hx6 (by omega)
 clear hb5 k5 hr5 hx6
 have hRl6 := hr6.lt
 have hs6 := k6.lt
 by_cases hk : r1 = 0
 ·have hk' : (r1 == 0) = true := by simp [hk]
  have Hk := Lib.hid hk
  clear hk
  have x7 := Keep.new w6 (.cells (Bx.arr ⟨0, r1, 0, 0, r2, r3, r4, r5, r6⟩) 39)
  go_wp2_with (fail)
  refine (one_any (l := [10, 30, 50, 0, 100, 7]) _ ((hr6.ext (Below.of_alloc _ _)).ext (Below.of_alloc _ _)) (by omega) (heapAt _ (by simp)) (by omega) (by simp) (by simp)).mono ?_
  rintro e w7 ⟨r7, rfl, hm7, hr7, hx7⟩
  have q7 : 0 ≤ r7 ∧ r7 ≤ 100 := by simp at hm7; omega
  have hb7 := afterR (bel_alloc (bel_alloc hb6 (Nat.le_refl _) _) (Nat.le_refl _) _) hx7 (Nat.le_refl _)
  have k7 := ((k6.alloc _).alloc _).extR hx7 (by omega)
  have x8 := (x7.alloc _).extR hx7 (by omega)
  have x9 := x8.store 2 (.int .i64 r7)
  have c2 : w7.cell? ⟨w6.heap.size, 2, none⟩ = some (.int .i64 0) := x8.cell 2
  have f2 : w7.frozen? ⟨w6.heap.size, 2, none⟩ = false := x8.frozen 2
  have hr8 := hr7.setCell (p := ⟨w6.heap.size, 2, none⟩) hRl6 (.int .i64 r7)
  have hb8 := bel_setCell hb7 (p := ⟨w6.heap.size, 2, none⟩) (by have := hb6.size; exact this) (.int .i64 r7)
  have k8 := k7.setOther (p := ⟨w6.heap.size, 2, none⟩) (Nat.ne_of_lt hs6) (.int .i64 r7)
  clear hb7 k7 x8 hr7 hm7 hx7 x7
  go_wp2_with (fail)
  refine (one_any (l := [10, 20, 0, 40, 100, 3]) _ (hr8.ext (Below.of_alloc _ _)) (by omega) (heapAt _ (by simp [World.setCell])) (by have := hr8.lt; simp [World.setCell] at this; omega) (by simp) (by simp)).mono ?_
  rintro e w9 ⟨r9, rfl, hm9, hr9, hx9⟩
  have q9 : 0 ≤ r9 ∧ r9 ≤ 100 := by simp at hm9; omega
  have hb9 := afterR (bel_alloc hb8 (Nat.le_refl _) _) hx9 (Nat.le_refl _)
  have k9 := (k8.alloc _).extR hx9 (by omega)
  have y9 := (x9.alloc _).extR hx9 (by omega)
  have z9 := y9.store 3 (.int .i64 r9)
  have c3 : w9.cell? ⟨w6.heap.size, 3, none⟩ = some (.int .i64 0) := y9.cell 3
  have f3 : w9.frozen? ⟨w6.heap.size, 3, none⟩ = false := y9.frozen 3
  have hrA := hr9.setCell (p := ⟨w6.heap.size, 3, none⟩) hRl6 (.int .i64 r9)
  have hbA := bel_setCell hb9 (p := ⟨w6.heap.size, 3, none⟩) (by have := hb6.size; exact this) (.int .i64 r9)
  have kA := k9.setOther (p := ⟨w6.heap.size, 3, none⟩) (Nat.ne_of_lt hs6) (.int .i64 r9)
  have d0 : w9.cell? ⟨w6.heap.size, 0, none⟩ = some (.int .i64 0) := y9.cell 0
  have d1 : w9.cell? ⟨w6.heap.size, 1, none⟩ = some (.int .i64 r1) := y9.cell 1
  have d2 : w9.cell? ⟨w6.heap.size, 2, none⟩ = some (.int .i64 r7) := y9.cell 2
  have d4 : w9.cell? ⟨w6.heap.size, 4, none⟩ = some (.int .i64 r2) := y9.cell 4
  have d5 : w9.cell? ⟨w6.heap.size, 5, none⟩ = some (.int .i64 r3) := y9.cell 5
  have d6 : w9.cell? ⟨w6.heap.size, 6, none⟩ = some (.int .i64 r4) := y9.cell 6
  have d7 : w9.cell? ⟨w6.heap.size, 7, none⟩ = some (.int .i64 r5) := y9.cell 7
  have d8 : w9.cell? ⟨w6.heap.size, 8, none⟩ = some (.int .i64 r6) := y9.cell 8
  have g0 : w9.cell? ⟨w.heap.size, 0, none⟩ = some (.int .i64 0) := k9.cell 0
  have z0 : w9.frozen? ⟨w.heap.size, 0, none⟩ = false := k9.frozen 0
  have g1 : w9.cell? ⟨w.heap.size, 1, none⟩ = some (.int .i64 0) := k9.cell 1
  have z1 : w9.frozen? ⟨w.heap.size, 1, none⟩ = false := k9.frozen 1
  have g2 : w9.cell? ⟨w.heap.size, 2, none⟩ = some (.int .i64 0) := k9.cell 2
  have z2 : w9.frozen? ⟨w.heap.size, 2, none⟩ = false := k9.frozen 2
  have g3 : w9.cell? ⟨w.heap.size, 3, none⟩ = some (.int .i64 0) := k9.cell 3
  have z3 : w9.frozen? ⟨w.heap.size, 3, none⟩ = false := k9.frozen 3
  have g4 : w9.cell? ⟨w.heap.size, 4, none⟩ = some (.int .i64 0) := k9.cell 4
  have z4 : w9.frozen? ⟨w.heap.size, 4, none⟩ = false := k9.frozen 4
  have g5 : w9.cell? ⟨w.heap.size, 5, none⟩ = some (.int .i64 0) := k9.cell 5
  have z5 : w9.frozen? ⟨w.heap.size, 5, none⟩ = false := k9.frozen 5
  have g6 : w9.cell? ⟨w.heap.size, 6, none⟩ = some (.int .i64 0) := k9.cell 6
  have z6 : w9.frozen? ⟨w.heap.size, 6, none⟩ = false := k9.frozen 6
  have g7 : w9.cell? ⟨w.heap.size, 7, none⟩ = some (.int .i64 0) := k9.cell 7
  have z7 : w9.frozen? ⟨w.heap.size, 7, none⟩ = false := k9.frozen 7
  have g8 : w9.cell? ⟨w.heap.size, 8, none⟩ = some (.int .i64 0) := k9.cell 8
  have z8 : w9.frozen? ⟨w.heap.size, 8, none⟩ = false := k9.frozen 8
  have hfin : Hid (okB ⟨0, r1, r7, r9, r2, r3, r4, r5, r6⟩ = true) := by
   show _ = _
   rw [okB_eq]
   simp only [Bool.and_eq_true, inR_iff, Bool.or_eq_true, beq_iff_eq]
   refine ⟨⟨⟨⟨⟨⟨⟨⟨?_, ?_⟩, ?_⟩, ?_⟩, ?_⟩, ?_⟩, ?_⟩, ?_⟩, .inl Hk.out⟩ <;> omega
  clear hb9 k9 y9 hr9 hm9 hx9 x9 c2 f2 hb8 k8 hr8 z9 kA
  have HR : Hid (Rdr R (w9.setCell ⟨w6.heap.size, 3, none⟩ (.int .i64 r9)) (m + 8)) := hrA.mono (by omega)
  have HB : Hid (Bel R w.heap.size w (w9.setCell ⟨w6.heap.size, 3, none⟩ (.int .i64 r9))) := hbA
  clear hrA hbA
  go_wp2
  refine bodyPost_ret (v := Bx.agg ⟨0, r1, r7, r9, r2, r3, r4, r5, r6⟩) ?_ rfl ⟨⟨0, r1, r7, r9, r2, r3, r4, r5, r6⟩, rfl, hfin.out, ?_, ?_⟩
  ·simp [results, Tryz.results20, go_sem, Bx.agg, g0, g1, g2, g3, g4, g5, g6, g7, g8]
  ·show Rdr R (setBx (w9.setCell ⟨w6.heap.size, 3, none⟩ (.int .i64 r9)) w.heap.size 0 ⟨0, r1, r7, r9, r2, r3, r4, r5, r6⟩) (m + 8)
   exact HR.out.setBx (by omega) 0 _
  ·show Bel R w.heap.size w (setBx (w9.setCell ⟨w6.heap.size, 3, none⟩ (.int .i64 r9)) w.heap.size 0 ⟨0, r1, r7, r9, r2, r3, r4, r5, r6⟩)
   exact HB.out.trans (bel_of (setBx_below _ _ (Nat.le_refl _)))
 ·have hk' : (r1 == 0) = false := by simp [hk]
  have Hk := Lib.hid hk
  clear hk
  have x7 := Keep.new w6 (.cells (Bx.arr ⟨0, r1, 0, 0, r2, r3, r4, r5, r6⟩) 39)
  have k7 := k6.alloc (.cells (Bx.arr ⟨0, r1, 0, 0, r2, r3, r4, r5, r6⟩) 39)
  have g0 : w6.cell? ⟨w.heap.size, 0, none⟩ = some (.int .i64 0) := k6.cell 0
  have z0 : w6.frozen? ⟨w.heap.size, 0, none⟩ = false := k6.frozen 0
  have g1 : w6.cell? ⟨w.heap.size, 1, none⟩ = some (.int .i64 0) := k6.cell 1
  have z1 : w6.frozen? ⟨w.heap.size, 1, none⟩ = false := k6.frozen 1
  have g2 : w6.cell? ⟨w.heap.size, 2, none⟩ = some (.int .i64 0) := k6.cell 2
  have z2 : w6.frozen? ⟨w.heap.size, 2, none⟩ = false := k6.frozen 2
  have g3 : w6.cell? ⟨w.heap.size, 3, none⟩ = some (.int .i64 0) := k6.cell 3
  have z3 : w6.frozen? ⟨w.heap.size, 3, none⟩ = false := k6.frozen 3
  have g4 : w6.cell? ⟨w.heap.size, 4, none⟩ = some (.int .i64 0) := k6.cell 4
  have z4 : w6.frozen? ⟨w.heap.size, 4, none⟩ = false := k6.frozen 4
  have g5 : w6.cell? ⟨w.heap.size, 5, none⟩ = some (.int .i64 0) := k6.cell 5
  have z5 : w6.frozen? ⟨w.heap.size, 5, none⟩ = false := k6.frozen 5
  have g6 : w6.cell? ⟨w.heap.size, 6, none⟩ = some (.int .i64 0) := k6.cell 6
  have z6 : w6.frozen? ⟨w.heap.size, 6, none⟩ = false := k6.frozen 6
  have g7 : w6.cell? ⟨w.heap.size, 7, none⟩ = some (.int .i64 0) := k6.cell 7
  have z7 : w6.frozen? ⟨w.heap.size, 7, none⟩ = false := k6.frozen 7
  have g8 : w6.cell? ⟨w.heap.size, 8, none⟩ = some (.int .i64 0) := k6.cell 8
  have z8 : w6.frozen? ⟨w.heap.size, 8, none⟩ = false := k6.frozen 8
  have hfin : Hid (okB ⟨0, r1, 0, 0, r2, r3, r4, r5, r6⟩ = true) := by
   show _ = _
   rw [okB_eq]
   simp only [Bool.and_eq_true, inR_iff, Bool.or_eq_true, beq_iff_eq]
   refine ⟨⟨⟨⟨⟨⟨⟨⟨?_, ?_⟩, ?_⟩, ?_⟩, ?_⟩, ?_⟩, ?_⟩, ?_⟩, .inr (by simp)⟩ <;> omega
  have HR : Hid (Rdr R w6 (m + 8)) := hr6.mono (by omega)
  have HB : Hid (Bel R w.heap.size w w6) := hb6
  clear hr6 hb6 k6 x7 k7
  go_wp2
  refine bodyPost_ret (v := Bx.agg ⟨0, r1, 0, 0, r2, r3, r4, r5, r6⟩) ?_ rfl ⟨⟨0, r1, 0, 0, r2, r3, r4, r5, r6⟩, rfl, hfin.out, ?_, ?_⟩
  ·simp [results, Tryz.results20, go_sem, Bx.agg, hs6, g0, g1, g2, g3, g4, g5, g6, g7, g8]
  ·show Rdr R ((setBx w6 w.heap.size 0 ⟨0, r1, 0, 0, r2, r3, r4, r5, r6⟩).alloc _) (m + 8)
   exact (HR.out.setBx (by omega) 0 _).ext (Below.of_alloc _ _)
  ·show Bel R w.heap.size w ((setBx w6 w.heap.size 0 ⟨0, r1, 0, 0, r2, r3, r4, r5, r6⟩).alloc _)
   exact bel_alloc (HB.out.trans (bel_of (setBx_below _ _ (Nat.le_refl _)))) (Nat.le_refl _) _
end Go.Proofs.YthkkgleoikpfgaaGreatDoor
