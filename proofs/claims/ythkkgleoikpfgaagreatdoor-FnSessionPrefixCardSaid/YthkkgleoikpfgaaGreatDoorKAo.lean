/-
  Parts of the proof: Ren Rem Add.
-/
import Derived.Test.YthkkgleoikpfgaaGreatDoorKAn
import Derived.Lib.AppendZerosOnto
import Derived.Test.YthkkgleoikpfgaaGreatDoorKAl
namespace Go.Proofs.YthkkgleoikpfgaaGreatDoor
open Go Go.RowKit
/-- a parent that is greater by a number, from a number on -/
def bmpI (f b : Int) (y : Bx) : Bx := if f ≤ y.parent then y.at (y.parent + b) else y
/-- the first k boxes renumbered -/
def renTo (l : List Bx) (f b : Int) (k : Nat) : List Bx := (l.take k).map (bmpI f b) ++ l.drop k
theorem renTo_length (l : List Bx) (f b : Int) (k : Nat) : (renTo l f b k).length = l.length := by
 unfold renTo
 rw [List.length_append, List.length_map, List.length_take, List.length_drop]
 omega
theorem renTo_zero (l : List Bx) (f b : Int) : renTo l f b 0 = l := by simp [renTo]
theorem renTo_full (l : List Bx) (f b : Int) : renTo l f b l.length = l.map (bmpI f b) := by simp [renTo]
theorem renTo_get {l : List Bx} {f b : Int} {k j : Nat} : (renTo l f b k)[j]? = if j < k then (l[j]?).map (bmpI f b) else l[j]? := by
 unfold renTo
 rw [List.getElem?_append, List.length_map, List.length_take, List.getElem?_map, List.getElem?_take, List.getElem?_drop]
 by_cases h : j < k
 ·by_cases h2 : j < l.length
  ·rw [if_pos (by omega), if_pos h, if_pos h]
  ·rw [if_neg (by omega), if_pos h, List.getElem?_eq_none (by omega), List.getElem?_eq_none (by omega)]
   rfl
 ·rw [if_neg (by omega), if_neg h]
  by_cases h2 : k ≤ l.length
  ·rw [show k + (j - min k l.length) = j by omega]
  ·rw [List.getElem?_eq_none (by omega), List.getElem?_eq_none (by omega)]
theorem renTo_bx {l : List Bx} {f b : Int} {k : Nat} (hk : k < l.length) : bx (renTo l f b k) k = bx l k :=
 bx_of (by rw [renTo_get, if_neg (Nat.lt_irrefl k)]; exact bx_get hk)
theorem renTo_succ {l : List Bx} {f b : Int} {k : Nat} (hk : k < l.length) : (renTo l f b k).set k (bmpI f b (bx l k)) = renTo l f b (k + 1) := by
 apply List.ext_getElem?
 intro j
 rw [List.getElem?_set, renTo_get, renTo_get, renTo_length]
 by_cases h : k = j
 ·subst h
  rw [if_pos rfl, if_pos hk, if_pos (by omega), bx_get hk]
  rfl
 ·rw [if_neg h]
  by_cases h2 : j < k
  ·rw [if_pos h2, if_pos (by omega)]
  ·rw [if_neg h2, if_neg (by omega)]
theorem renTo_same {l : List Bx} {f b : Int} {k : Nat} (hk : k < l.length) (h : ¬ f ≤ (bx l k).parent) : renTo l f b k = renTo l f b (k + 1) := by
 rw [← renTo_succ hk]
 apply List.ext_getElem?
 intro j
 rw [List.getElem?_set]
 by_cases hj : k = j
 ·subst hj
  rw [if_pos rfl, if_pos (by rw [renTo_length]; exact hk), renTo_get, if_neg (Nat.lt_irrefl k), bx_get hk]
  unfold bmpI
  rw [if_neg h]
 ·rw [if_neg hj]
set_option maxRecDepth 100000 in
set_option maxHeartbeats 1000000 in
theorem renumbered_any {v : Value} {l : List Bx} (f b : Int) (w : World) (hv : Rd w 9 v (Bs l)) (hl : l.length ≤ 1048577) (hp : ∀ k, k < l.length → -100 ≤ (bx l k).parent ∧ (bx l k).parent ≤ 100) (hb1 : -100 ≤ b) (hb2 : b ≤ 100) :
 Calls Tryz.prog 54 #[v, .int .i64 f, .int .i64 b] w fun e w' => ∃ v', e = .returned v' ∧ Own w' w.heap.size 9 v' (Bs (l.map (bmpI f b))) ∧ Ext w w' := by
 have HP := Lib.hid hp
 have HL := Lib.hid hl
 clear hp
 go_enter Tryz.func54, Tryz.ntmps54
 go_wp2_with (fail)
 refine (CloneB_any (l := l) _ hv hl).mono ?_
 rintro e w1 ⟨v1, rfl, ho, hb⟩
 by_cases hz : l = []
 ·subst hz
  obtain ⟨a1, c1, rfl, hn1, hc1, _⟩ := ho.rd.boxes
  simp only [List.length_nil] at hn1
  have hc1' : c1 ≤ maxLen := hc1
  unfold maxLen at hc1'
  clear hc1
  have HO := Lib.hid ho
  clear ho
  go_wp2
  go_loopw [13] (fun n wr => n = .int .i64 0 ∧ Own wr w.heap.size 9 (.slice a1 0 c1) (Bs []) ∧ Below w.heap.size w wr) (fun _ _ => 0)
  case atStart => exact ⟨rfl, HO.out, hb⟩
  case round =>
   obtain ⟨rfl, ho, hb⟩ := hrel
   go_wp2
   go_ret
   exact ⟨_, rfl, ho, hb⟩
 ·have hlen : 0 < l.length := List.length_pos_iff.2 hz
  obtain ⟨b3, off3, n3, c3, rfl, hn3, hbk3, hbb3, hbs3, _, _, _⟩ := ho.cells (by
   intro e
   have := congrArg List.length e
   rw [Bs_length, List.length_nil] at this
   omega)
  rw [Bs_length] at hn3
  obtain rfl : n3 = l.length := by omega
  have hz2 : Hid (renTo l f b 0 = l) := renTo_zero l f b
  have hz3 : Hid (renTo l f b l.length = l.map (bmpI f b)) := renTo_full l f b
  rw [← hz2.out] at ho
  clear hv hz
  go_wp2
  go_loopw [13] (fun n wr => ∃ k : Nat, n = .int .i64 k ∧ k ≤ l.length ∧ Own wr w.heap.size 9 (.slice (some ⟨b3, off3, none⟩) l.length c3) (Bs (renTo l f b k)) ∧ Below w.heap.size w wr) (fun n _ => l.length - (intOf n).toNat)
  case atStart => exact ⟨0, rfl, Nat.zero_le _, ho, hb⟩
  case round =>
   clear ho hb
   obtain ⟨k, rfl, hk, ho, hb⟩ := hrel
   by_cases hlt : k < l.length
   ·obtain ⟨hC, hF⟩ := ho.cellF (i := k) (by rw [renTo_length]; exact hlt)
    have hbx := renTo_bx (f := f) (b := b) hlt
    have c0 := hC.c0
    rw [hbx] at c0
    have f0 := hF 0
    simp only [Nat.add_zero] at f0
    obtain ⟨hp1, hp2⟩ := HP.out k hlt
    have hlti : (k : Int) < l.length := by omega
    by_cases hge : f ≤ (bx l k).parent
    ·have hset := ho.set1 rfl (i := k) (f := 0) (by rw [renTo_length]; exact hlt) (by omega) (u := .int .i64 ((bx l k).parent + b)) (y := bmpI f b (bx l k)) (by
      rw [hbx]
      unfold bmpI
      rw [if_pos hge]
      rfl)
     rw [renTo_succ hlt, Nat.add_zero] at hset
     have hb2 := hb.setCell (p := ⟨b3, off3 + k * 9, none⟩) hbb3 (.int .i64 ((bx l k).parent + b))
     have hge' : decide (f ≤ (bx l k).parent) = true := by simp [hge]
     clear hC hF hbx ho hb
     generalize (bx l k).parent = p at *
     go_wp2
     go_roundw
     case rel => exact ⟨k + 1, by go_num, by omega, hset, hb2⟩
     case measure => simp [intOf]; omega
    ·have hge' : decide (f ≤ (bx l k).parent) = false := by simp; omega
     have hsame := renTo_same (b := b) hlt hge
     rw [hsame] at ho
     have hge2 : (bx l k).parent < f := by omega
     clear hC hF hbx hge hsame
     generalize (bx l k).parent = p at *
     go_wp2
     go_roundw
     case rel => exact ⟨k + 1, by go_num, by omega, ho, hb⟩
     case measure => simp [intOf]; omega
   ·obtain rfl : k = l.length := by omega
    rw [hz3.out] at ho
    go_wp2
    go_ret
    exact ⟨_, rfl, ho, hb⟩
set_option maxRecDepth 100000 in
set_option maxHeartbeats 1000000 in
theorem GrowB_any (n : Nat) (w : World) (hn : n ≤ 1048577) :
 Calls Tryz.prog 77 #[.slice none 0 0, .int .i64 n] w fun e w' => ∃ v', e = .returned v' ∧ Own w' w.heap.size 9 v' [] ∧ Ext w w' := by
 by_cases hz : n = 0
 ·subst hz
  go_enter Tryz.func77, Tryz.ntmps77
  go_wp2
  go_ret
  exact ⟨_, rfl, Own.nil _ _ _, Below.refl _ _⟩
 ·obtain ⟨i, hi, hz0, hsz, hby⟩ := el_box.info
  have hrz : ∀ ty, (Builtin.append_ #[43, 3] ty #[.slice none 0 0, .int .i64 (n : Int)]).run Tryz.prog w =
   .ok (.slice (some ⟨w.heap.size, 0, none⟩) n (grownCap w n 0 39)) (w.drew.alloc (.cells ((#[] : Array Value) ++ Builtin.zeroCells zb.agg.cells n ++ Builtin.zeroCells zb.agg.cells (grownCap w n 0 39 - n)) 39)) := fun ty => by
   have h := Lib.run_append_grow_zeros (P := Tryz.prog) w 43 3 ty 39 i _ .i64 .i64 el_box.und (by kernel_rfl) hi hz0 none 0 0 [] (by exact run_firstCells_none w.drew i.size 0 0 0) n (by omega) (by omega) (by omega) (by omega)
    (by rw [hby]; omega) (growslice_fits (by omega) (by rw [hby]; omega))
   simp only [Nat.zero_add] at h
   exact h
  have hG1 := grownCap_ge w n 0 39
  have hG2 : grownCap w n 0 39 ≤ 9223372036854775807 := by
   have := grownCap_le_maxLen w n 0 39 (by unfold maxLen; omega)
   unfold maxLen at this
   omega
  generalize grownCap w n 0 39 = G at *
  have hown : Own (w.drew.alloc (.cells ((#[] : Array Value) ++ Builtin.zeroCells zb.agg.cells n ++ Builtin.zeroCells zb.agg.cells (G - n)) 39)) w.heap.size 9 (.slice (some ⟨w.heap.size, 0, none⟩) 0 G) [] := by
   have h := Own.made w.drew ((#[] : Array Value) ++ Builtin.zeroCells zb.agg.cells n ++ Builtin.zeroCells zb.agg.cells (G - n)) 39 w.heap.size 9 0 G (Nat.le_refl _) (Nat.zero_le _) (by unfold maxLen; omega) (by
    have hzs : zb.agg.cells.size = 9 := rfl
    simp only [Array.size_append, size_zeroCells, hzs, List.size_toArray, List.length_nil]
    omega)
   simpa using h
  have hbel : Below w.heap.size w (w.drew.alloc (.cells ((#[] : Array Value) ++ Builtin.zeroCells zb.agg.cells n ++ Builtin.zeroCells zb.agg.cells (G - n)) 39)) := ((Below.refl w.heap.size w).drew).alloc (Nat.le_refl _) _
  generalize w.drew.alloc (.cells ((#[] : Array Value) ++ Builtin.zeroCells zb.agg.cells n ++ Builtin.zeroCells zb.agg.cells (G - n)) 39) = W1 at *
  have HR := Lib.hid hrz
  have HO := Lib.hid hown
  have HB := Lib.hid hbel
  clear hrz hi hz0 hsz hby hown hbel
  go_enter Tryz.func77, Tryz.ntmps77
  go_wp2_with (at_builtin; refine Lib.wpList_append_run _ rfl _ _ _ _ rfl _ _ rfl rfl _ _ (HR.out _) ?_)
  go_ret
  exact ⟨_, rfl, HO.out, HB.out⟩
theorem take_flat {ls : List (List Bx)} {k : Nat} {l : List Bx} (h : ls[k]? = some l) : (ls.take (k + 1)).flatten = (ls.take k).flatten ++ l := by
 rw [List.take_add_one, h]
 simp
theorem take_flat_le (ls : List (List Bx)) (k : Nat) : (ls.take k).flatten.length ≤ ls.flatten.length := by
 have h := congrArg (fun x => (List.flatten x).length) (List.take_append_drop k ls)
 simp only [List.flatten_append, List.length_append] at h
 omega
/-- how many boxes the first k lists have -/
def flen (ls : List (List Bx)) (k : Nat) : Nat := (ls.take k).flatten.length
theorem flen_succ {ls : List (List Bx)} {k : Nat} {l : List Bx} (h : ls[k]? = some l) : flen ls (k + 1) = flen ls k + l.length := by
 unfold flen
 rw [take_flat h, List.length_append]
set_option maxRecDepth 100000 in
set_option maxHeartbeats 1000000 in
theorem ConcatB_any {g n : Nat} {vs : List Value} {ls : List (List Bx)} (w : World) (hcell : ∀ (j : Nat) (x : Value), vs[j]? = some x → w.cell? ⟨g, j, none⟩ = some x) (hn : vs.length = n) (hn2 : ls.length = n) (hn3 : n ≤ 100)
 (hr : ∀ (j : Nat) (x : Value) (l : List Bx), vs[j]? = some x → ls[j]? = some l → Rd w 9 x (Bs l)) (htot : ls.flatten.length ≤ 1048576) :
 Calls Tryz.prog 53 #[.slice (some ⟨g, 0, none⟩) n n] w fun e w' => ∃ v', e = .returned v' ∧ Own w' w.heap.size 9 v' (Bs ls.flatten) ∧ Ext w w' := by
 have HC := Lib.hid hcell
 have HR := Lib.hid hr
 have HT : Hid (∀ k, flen ls k ≤ ls.flatten.length) := Lib.hid (fun k => take_flat_le ls k)
 have hfull : Hid ((ls.take n).flatten = ls.flatten) := by
  show _ = _
  rw [List.take_of_length_le (by omega)]
 have hfull2 : flen ls n ≤ 1048576 := Nat.le_trans (HT.out n) htot
 have HT2 := Lib.hid htot
 clear htot
 have Hn1 := Lib.hid hn
 have Hn2 := Lib.hid hn2
 clear hcell hr hn hn2
 go_enter Tryz.func53, Tryz.ntmps53
 go_wp2
 go_loop [3, 11] (fun s i => ∃ k : Nat, i = .int .i64 k ∧ k ≤ n ∧ s = .int .i64 (flen ls k : Nat)) (fun _ i => n - (intOf i).toNat)
 case atStart => exact ⟨0, rfl, Nat.zero_le _, rfl⟩
 case round =>
  obtain ⟨k, rfl, hk, rfl⟩ := hrel
  by_cases hlt : k < n
  ·obtain ⟨x, hx⟩ : ∃ x, vs[k]? = some x := ⟨_, List.getElem?_eq_getElem (by have := Hn1.out; omega)⟩
   obtain ⟨l, hl⟩ : ∃ l, ls[k]? = some l := ⟨_, List.getElem?_eq_getElem (by have := Hn2.out; omega)⟩
   have hc := HC.out k x hx
   have hR := HR.out k x l hx hl
   obtain ⟨a, c, rfl, hn1, hc1, _⟩ := hR.boxes
   have hc1' : c ≤ maxLen := hc1
   unfold maxLen at hc1'
   have hs := flen_succ hl
   have ht := HT.out (k + 1)
   have ht2 := HT2.out
   have hlti : (k : Int) < n := by omega
   have HS := Lib.hid hs
   clear hR hx hl hc1
   have hAl : flen ls k + l.length ≤ 1048576 := by omega
   clear hs ht ht2
   go_wp2
   go_round
   case rel =>
    refine ⟨k + 1, ?_, by omega, ?_⟩
    ·go_num
    ·rw [HS.out]
     go_num
   case measure => simp [intOf]; omega
  ·obtain rfl : k = n := by omega
   go_wp2_with (fail)
   refine (GrowB_any (flen ls k) _ (by omega)).mono ?_
   rintro e w1 ⟨v1, rfl, ho, hb⟩
   go_wp2
   go_loopw [6, 27] (fun s i wr => ∃ j : Nat, i = .int .i64 j ∧ j ≤ k ∧ Own wr w.heap.size 9 s (Bs (ls.take j).flatten) ∧ Below w.heap.size w wr) (fun _ i _ => k - (intOf i).toNat)
   case atStart => exact ⟨0, rfl, Nat.zero_le _, ho, hb⟩
   case round =>
    clear ho hb
    obtain ⟨j, rfl, hj, ho, hb⟩ := hrel
    by_cases hlt : j < k
    ·obtain ⟨x, hx⟩ : ∃ x, vs[j]? = some x := ⟨_, List.getElem?_eq_getElem (by have := Hn1.out; omega)⟩
     obtain ⟨l, hl⟩ : ∃ l, ls[j]? = some l := ⟨_, List.getElem?_eq_getElem (by have := Hn2.out; omega)⟩
     have hc := HC.out j x hx
     have hc2 : wr.cell? ⟨g, j, none⟩ = some x := by
      rw [hb.cell (World.block_lt_of_cell? _ _ hc)]
      exact hc
     have hR := (HR.out j x l hx hl).below hb (Nat.le_refl _)
     have hflat := take_flat hl
     have HF := Lib.hid hflat
     clear hflat hc hx hl
     go_wp2_with (at_builtin; refine wpList_app rfl _ _ _ rfl el_box rfl ho rfl hR (Bs_one l) ?hl ?hb ?hK)
     case hl =>
      have := HT2.out
      have := HT.out (j + 1)
      rw [Bs_length, Bs_length]
      unfold flen at this
      rw [HF.out, List.length_append] at this
      omega
     case hb => exact hb.size
     intro v2 w2 ho2 hg2 hf2
     have hb2 := below_app hb ho hg2 hb.size (Nat.le_refl _)
     rw [← Bs_append, ← HF.out] at ho2
     go_wp2
     go_roundw
     case rel => exact ⟨j + 1, by go_num, by omega, ho2, hb2⟩
     case measure => simp [intOf]; omega
    ·obtain rfl : j = k := by omega
     rw [hfull.out] at ho
     go_wp2
     go_ret
     exact ⟨_, rfl, ho, hb⟩
theorem Rd.take {w : World} {b off n c : Nat} {l : List Bx} (h : Rd w 9 (.slice (some ⟨b, off, none⟩) n c) (Bs l)) {m : Nat} (hm : m ≤ l.length) :
 Rd w 9 (.slice (some ⟨b, off, none⟩) m c) (Bs (l.take m)) := by
 have := h.sub (i := 0) (m := m) (by omega)
 rw [Nat.zero_mul, Nat.add_zero, Nat.sub_zero, List.drop_zero] at this
 exact this
/-- what RemoveBox of the reference has built behind box k -/
def remTo (l : List Bx) (a k : Nat) : List Bx := l.take a ++ ((l.take k).drop (a + cntS l a)).map (drp a (cntS l a))
theorem remTo_start (l : List Bx) (a : Nat) : remTo l a (a + cntS l a) = l.take a := by
 unfold remTo
 rw [List.drop_eq_nil_of_le (by rw [List.length_take]; omega)]
 simp
theorem remTo_full (l : List Bx) (a : Nat) : remTo l a l.length = remL l a := by
 unfold remTo remL
 rw [List.take_of_length_le (Nat.le_refl _)]
theorem remTo_succ {l : List Bx} {a k : Nat} {y : Bx} (hk : a + cntS l a ≤ k) (hy : l[k]? = some y) : remTo l a (k + 1) = remTo l a k ++ [drp a (cntS l a) y] := by
 have hkl := (List.getElem?_eq_some_iff.1 hy).1
 unfold remTo
 rw [List.take_add_one, hy, List.drop_append_of_le_length (by rw [List.length_take]; omega)]
 simp
theorem remTo_length (l : List Bx) (a k : Nat) : (remTo l a k).length ≤ l.length + l.length := by
 unfold remTo
 simp only [List.length_append, List.length_take, List.length_map, List.length_drop]
 omega
/-- a valid tree and a number of one of its boxes other than the first -/
def remB (l : List Bx) (i : Int) : Bool := vldB l && inR i 1 ((l.length : Int) - 1)
theorem remB_iff {l : List Bx} {i : Int} : remB l i = true ↔ Valid l ∧ 0 < i ∧ i < l.length := by
 unfold remB
 rw [Bool.and_eq_true, vldB_iff, inR_iff]
 constructor
 ·rintro ⟨h, h1, h2⟩; exact ⟨h, by omega, by omega⟩
 ·rintro ⟨h, h1, h2⟩; exact ⟨h, by omega, by omega⟩
theorem Rd.dropIf {w : World} {b off n c : Nat} {l : List Bx} (h : Rd w 9 (.slice (some ⟨b, off, none⟩) n c) (Bs l)) {e : Nat} (he : e ≤ l.length) :
 Rd w 9 (.slice (if c = e then some ⟨b, off, none⟩ else some ⟨b, off + e * 9, none⟩) (l.length - e) (c - e)) (Bs (l.drop e)) := by
 have hs := h.sub (i := e) (m := l.length - e) (by omega)
 rw [List.take_of_length_le (by rw [List.length_drop]; omega)] at hs
 obtain ⟨a', n', c', e', hl, hn, hc, _⟩ := h
 cases e'
 rw [Bs_length] at hl
 split
 ·have h1 : l.length - e = 0 := by omega
  rw [List.drop_eq_nil_of_le (by omega), h1]
  exact Rd.empty _ _ _ _ (by omega)
 ·exact hs
theorem drp_bmpI (a n : Nat) : drp a n = bmpI (a : Int) (-(n : Int)) := by
 funext y
 unfold drp bmpI
 split
 ·rfl
 ·rw [Int.sub_zero]
  rfl
set_option maxRecDepth 100000 in
set_option maxHeartbeats 2000000 in
theorem without_any {v : Value} {l : List Bx} {i : Nat} (hval : Valid l) (w : World) (hi0 : 0 < i) (hi : i < l.length) (hv : Rd w 9 v (Bs l)) :
 Calls Tryz.prog 100 #[v, .int .i64 i] w fun e w' => ∃ v', e = .returned v' ∧ Own w' w.heap.size 9 v' (Bs (remL l i)) ∧ Ext w w' := by
 have hrd := hv
 obtain ⟨a, c, rfl, hn, hc, hcell⟩ := hv.boxes
 unfold maxLen at hc
 have HC := Lib.hid hcell
 obtain ⟨b, off, rfl, hbl, _⟩ := HC.out i _ (bx_get hi)
 have hcl := cntS_le l i
 have hpos := cntS_pos hval hi
 have hci : i + cntS l i ≤ l.length := by omega
 have hll := hval.hi
 have Hv := Lib.hid hval
 have hic : (i : Int) ≤ c := by omega
 clear hval hcell hv
 go_enter Tryz.func100, Tryz.ntmps100
 go_wp2_with (fail)
 refine (scount_any (l := l) (a := (i : Int)) _ (by omega) (by omega) hrd Hv.out).mono ?_
 rintro e w2 ⟨rfl, rfl⟩
 rw [Int.toNat_natCast]
 have hsub := (hrd.alloc (.cells #[] 39)).take (m := i) (by omega)
 go_wp2_with (at_builtin; (refine wpList_app rfl _ _ _ rfl el_box rfl (Own.empty _ w.heap.size 9 _) rfl hsub (Bs_one _) ?hl1 ?hb1 ?hK1))
 case hl1 => rw [Bs_length, List.length_take]; simp; omega
 case hb1 => simp
 intro v3 w3 ho hg3 hf3
 have hb : Below w.heap.size w w3 := after (Below.of_alloc w (.cells #[] 39)) (ext_app0 hg3) (Nat.le_refl _)
 try rw [List.nil_append] at ho
 rw [← remTo_start] at ho
 clear hsub hg3 hf3
 go_wp2
 go_loopw [6, 7] (fun s9 n w' => ∃ k : Nat, n = .int .i64 k ∧ i + cntS l i ≤ k ∧ k ≤ l.length ∧ Own w' w.heap.size 9 s9 (Bs (remTo l i k)) ∧ Below w.heap.size w w') (fun _ n _ => l.length - (intOf n).toNat)
 case atStart => exact ⟨i + cntS l i, by simp, Nat.le_refl _, hci, ho, hb⟩
 case round =>
  clear ho hb
  obtain ⟨k, rfl, hk0, hk, hok, hbk⟩ := hrel
  by_cases hlt : k < l.length
  ·obtain ⟨b', off', e', _, hC⟩ := HC.out i _ (bx_get hi)
   cases e'
   obtain ⟨c0, c1, c2, c3, c4, c5, c6, c7, c8⟩ := (hC k _ (bx_get hlt)).below hbk hbl
   clear hC
   have hlti : (k : Int) < l.length := by omega
   have hszk := hbk.size
   go_upto_region 7 with fail
   have hKW : Keep wr.heap.size (.cells (bx l k).arr 39) (wr.alloc (.cells (bx l k).arr 39)) := Keep.new _ _
   have hoW := hok.alloc (.cells (bx l k).arr 39)
   have hbW := hbk.alloc hszk (.cells (bx l k).arr 39)
   have hbl9 : blk u6 ≠ some wr.heap.size := fun e => by have := (hok.lt _ e).2; omega
   generalize hW9 : wr.alloc (.cells (bx l k).arr 39) = W9 at *
   change wr.alloc _ = W9 at hW9
   unfold Bx.arr at hW9
   have p0 : W9.drew.cell? ⟨wr.heap.size, 0, none⟩ = some (.int .i64 (bx l k).parent) := hKW.cell 0
   rw [hW9]
   clear hW9
   obtain ⟨t, ht, ht0, ht1⟩ : ∃ t : Int, (if decide ((i : Int) ≤ (bx l k).parent) = true then (1 : Int) else 0) = t ∧ 0 ≤ t ∧ t ≤ 1 := ⟨_, rfl, by split <;> omega, by split <;> omega⟩
   obtain ⟨m, hm, hm0, hm1⟩ : ∃ m : Int, (cntS l i : Int) * t = m ∧ 0 ≤ m ∧ m ≤ cntS l i := by
    have : t = 0 ∨ t = 1 := by omega
    rcases this with rfl | rfl
    ·exact ⟨0, by omega, by omega, by omega⟩
    ·exact ⟨_, rfl, by omega, by omega⟩
   have hpk := Hv.out.parLt hlt
   have hwm : IntKind.i64.wrap m = m := by rw [IntKind.wrap_i64]; omega
   have hwp : IntKind.i64.wrap ((bx l k).parent - m) = (bx l k).parent - m := by rw [IntKind.wrap_i64]; omega
   go_still_tail 11, (by kernel_rfl)
   still_call ((toInt_any _ _).mono (by rintro e w' ⟨he, rfl⟩; rw [ht] at he; exact ⟨he, rfl⟩))
   repeat still_step
   try refine wpStill_nil ?_
   change wpList _ _ _ _ _ W9.drew
   have hK8 : Keep wr.heap.size (.cells (bx l k).arr 39) W9.drew := hKW
   have ho8 := hoW.drew
   have hb8 := hbW.drew
   clear hKW hoW hbW p0
   generalize W9.drew = W8 at *
   have hB8 : Hid (drp i (cntS l i) (bx l k) = (bx l k).at ((bx l k).parent - m)) := by
    show _ = _
    unfold drp
    rw [← hm, ← ht]
    by_cases hge : (i : Int) ≤ (bx l k).parent
    ·simp [hge]
    ·simp [hge]
   have hl8 := hK8.lt
   have q0 : W8.cell? ⟨wr.heap.size, 0, none⟩ = some (.int .i64 (bx l k).parent) := hK8.cell 0
   have q1 : W8.cell? ⟨wr.heap.size, 1, none⟩ = some (.int .i64 (bx l k).kind) := hK8.cell 1
   have q2 : W8.cell? ⟨wr.heap.size, 2, none⟩ = some (.int .i64 (bx l k).w) := hK8.cell 2
   have q3 : W8.cell? ⟨wr.heap.size, 3, none⟩ = some (.int .i64 (bx l k).h) := hK8.cell 3
   have q4 : W8.cell? ⟨wr.heap.size, 4, none⟩ = some (.int .i64 (bx l k).pad) := hK8.cell 4
   have q5 : W8.cell? ⟨wr.heap.size, 5, none⟩ = some (.int .i64 (bx l k).gap) := hK8.cell 5
   have q6 : W8.cell? ⟨wr.heap.size, 6, none⟩ = some (.int .i64 (bx l k).grow) := hK8.cell 6
   have q7 : W8.cell? ⟨wr.heap.size, 7, none⟩ = some (.int .i64 (bx l k).shrink) := hK8.cell 7
   have q8 : W8.cell? ⟨wr.heap.size, 8, none⟩ = some (.int .i64 (bx l k).justify) := hK8.cell 8
   have f0 : W8.frozen? ⟨wr.heap.size, 0, none⟩ = false := hK8.frozen 0
   have ho7 := ho8.setOther (p := ⟨wr.heap.size, 0, none⟩) hbl9 (.int .i64 ((bx l k).parent - m))
   have hb7 := hb8.setCell (p := ⟨wr.heap.size, 0, none⟩) (by show w.heap.size ≤ wr.heap.size; omega) (.int .i64 ((bx l k).parent - m))
   have hs7 : wr.heap.size < (W8.setCell ⟨wr.heap.size, 0, none⟩ (.int .i64 ((bx l k).parent - m))).heap.size := by simpa [World.setCell] using hl8
   have hll2 := hll
   clear c0 c1 c2 c3 c4 c5 c6 c7 c8 ho8 hb8 hK8 ht hm
   go_wp2_with (at_builtin; refine wpList_app rfl _ _ _ rfl el_box rfl (ho7.alloc _) rfl (Rd.oneAt ((bx l k).at ((bx l k).parent - m)).arr 39 (by simp [World.setCell])) (Bx.vals_one _) ?hlA ?hbA ?hKA)
   case hlA => have := remTo_length l i k; simp only [Bs_length]; simp [Bx.arr]; omega
   case hbA => simp; omega
   intro v' w1 ho1 hg1 hf1
   have hb1 := below_app (hb7.alloc (by omega) _) (ho7.alloc _) hg1 (by simp; omega) (by omega)
   go_wp2
   go_roundw
   case rel => exact ⟨k + 1, by go_num, by omega, by omega, by rw [remTo_succ hk0 (bx_get hlt), Bs_append, hB8.out]; exact ho1, hb1⟩
   case measure => simp [intOf]; omega
  ·obtain rfl : k = l.length := by omega
   rw [remTo_full] at hok
   go_wp2
   go_ret
   exact ⟨_, rfl, hok, hbk⟩
set_option maxRecDepth 100000 in
set_option maxHeartbeats 2000000 in
theorem sRemoveBox_any {v : Value} {l : List Bx} (i : Int) (w : World) (hv : Rd w 9 v (Bs l)) (hl : l.length ≤ 1048576) :
 Calls Tryz.prog 70 #[v, .int .i64 i] w fun e w' => ∃ v', e = .returned (.tuple #[v', .bool (remB l i)]) ∧ Own w' w.heap.size 9 v' (Bs (orNo (remB l i) (remL l i.toNat))) ∧ Ext w w' := by
 have hrd := hv
 obtain ⟨a, c, rfl, hn, hc, hcell⟩ := hv.boxes
 unfold maxLen at hc
 by_cases hvb : vldB l = true
 ·by_cases hin : inR i 1 ((l.length : Int) - 1) = true
  ·have h : remB l i = true := by unfold remB; rw [hvb, hin]; rfl
   obtain ⟨hval, h0, hi⟩ := remB_iff.1 h
   obtain ⟨i, rfl⟩ := Int.eq_ofNat_of_zero_le (Int.le_of_lt h0)
   have Hv := Lib.hid hval
   have H := Lib.hid h
   clear hcell hv h hval
   go_enter Tryz.func70, Tryz.ntmps70
   go_wp2_with (fail)
   refine (validTree_any (l := l) _ hrd (by omega)).mono ?_
   rintro e w1 ⟨he, hb⟩
   rw [hvb] at he
   subst he
   clear hvb
   replace hrd := hrd.below hb (Nat.le_refl _)
   go_wp2_with (fail)
   refine (inRange_any _ _ _ _).mono ?_
   rintro e w2 ⟨he, rfl⟩
   rw [hin] at he
   subst he
   clear hin
   go_wp2_with (fail)
   refine (without_any (l := l) (i := i) Hv.out _ (by omega) (by omega) hrd).mono ?_
   rintro e w2 ⟨v2, rfl, ho, hx⟩
   go_wp2
   go_ret2
   exact ⟨_, by rw [H.out]; rfl, by rw [H.out, orNo_t, Int.toNat_natCast]; exact ho.weak hb.size, after hb hx (Nat.le_refl _)⟩
  ·have hin' : inR i 1 ((l.length : Int) - 1) = false := by simpa using hin
   have H : Hid (remB l i = false) := by
    show _ = _
    unfold remB
    rw [hvb, hin']
    rfl
   clear hin
   go_enter Tryz.func70, Tryz.ntmps70
   go_wp2_with (fail)
   refine (validTree_any (l := l) _ hrd (by omega)).mono ?_
   rintro e w1 ⟨he, hb⟩
   rw [hvb] at he
   subst he
   go_wp2_with (fail)
   refine (inRange_any _ _ _ _).mono ?_
   rintro e w2 ⟨he, rfl⟩
   rw [hin'] at he
   subst he
   go_wp2
   go_ret2
   exact ⟨_, by rw [H.out]; rfl, by rw [H.out]; exact Own.nil _ _ _, hb⟩
 ·have hvb' : vldB l = false := by simpa using hvb
  have H : Hid (remB l i = false) := by
   show _ = _
   unfold remB
   rw [hvb']
   rfl
  clear hvb
  go_enter Tryz.func70, Tryz.ntmps70
  go_wp2_with (fail)
  refine (validTree_any (l := l) _ hrd (by omega)).mono ?_
  rintro e w1 ⟨he, hb⟩
  rw [hvb'] at he
  subst he
  go_wp2
  go_ret2
  exact ⟨_, by rw [H.out]; rfl, by rw [H.out]; exact Own.nil _ _ _, hb⟩
set_option maxRecDepth 100000 in
set_option maxHeartbeats 2000000 in
theorem RemoveBox_any {v : Value} {l : List Bx} (i : Int) (w : World) (hv : Rd w 9 v (Bs l)) :
 Calls Tryz.prog 59 #[v, .int .i64 i] w fun e w' => ∃ v', e = .returned (.tuple #[v', .bool (remB l i)]) ∧ Own w' w.heap.size 9 v' (Bs (orNo (remB l i) (remL l i.toNat))) ∧ Ext w w' := by
 have hrd := hv
 obtain ⟨a, c, rfl, hn, hc, hcell⟩ := hv.boxes
 unfold maxLen at hc
 by_cases h : inB l i = true
 ·obtain ⟨hval, h0, hi⟩ := inB_iff.1 h
  by_cases hz : i = 0
  ·subst hz
   have H : Hid (remB l 0 = false) := by
    show _ = _
    rw [Bool.eq_false_iff]
    intro h
    have := (remB_iff.1 h).2.1
    omega
   clear hval hcell
   go_enter Tryz.func59, Tryz.ntmps59
   go_wp2_with (fail)
   refine (boxIn_any (l := l) 0 _ hrd).mono ?_
   rintro e w1 ⟨he, hb⟩
   rw [h] at he
   subst he
   clear h
   go_wp2
   go_ret2
   exact ⟨_, by rw [H.out]; rfl, by rw [H.out]; exact Own.nil _ _ _, hb⟩
  ·have hi0 : 0 < i := by omega
   obtain ⟨i, rfl⟩ := Int.eq_ofNat_of_zero_le h0
   have hin : i < l.length := by omega
   have H : Hid (remB l (i : Int) = true) := remB_iff.2 ⟨hval, hi0, hi⟩
   have Hv := Lib.hid hval
   have hz' : ((i : Int) == 0) = false := by simp; omega
   have hcl := cntS_le l i
   have hpos := cntS_pos hval hin
   have hll := hval.hi
   obtain ⟨b, off, rfl, hbl, _⟩ := hcell i _ (bx_get hin)
   have hvr : vldB (remL l i) = true := vldB_iff.2 (rem_valid hval hin (by omega))
   have HVR := Lib.hid hvr
   clear hval hcell hz hvr
   go_enter Tryz.func59, Tryz.ntmps59
   go_wp2_with (fail)
   refine (boxIn_any (l := l) (i : Int) _ hrd).mono ?_
   rintro e w1 ⟨he, hb⟩
   rw [h] at he
   subst he
   clear h
   replace hrd := hrd.below hb (Nat.le_refl _)
   go_wp2_with (fail)
   refine (count_any (l := l) (a := (i : Int)) Hv.out _ (by omega) hi hrd).mono ?_
   rintro e w2 ⟨rfl, hx⟩
   rw [Int.toNat_natCast]
   replace hb := after hb hx (Nat.le_refl _)
   replace hrd := hrd.below hx (Nat.le_refl _)
   clear hx
   have hci : (i : Int) + (cntS l i : Nat) ≤ c := by omega
   have hcl2 : (i : Int) + (cntS l i : Nat) ≤ l.length := by omega
   have hic : (i : Int) ≤ c := by omega
   have hwr : IntKind.i64.wrap ((i : Int) + (cntS l i : Nat)) = (i : Int) + (cntS l i : Nat) := by rw [IntKind.wrap_i64]; omega
   have hwn : IntKind.i64.wrap (-((cntS l i : Nat) : Int)) = -((cntS l i : Nat) : Int) := by rw [IntKind.wrap_i64]; omega
   have hi00 : (0 : Int) ≤ (i : Int) := by omega
   have hic0 : (0 : Int) ≤ (i : Int) + (cntS l i : Nat) := by omega
   have htn : ((i : Int) + (cntS l i : Nat)).toNat = i + cntS l i := by omega
   go_upto_region 4 with fail
   refine wp_region_held_drew (S := fun w' => Below w2.heap.size w2 w') (by kernel_rfl) (Below.refl _ _).drew (fun hS => ?_)
   refine hTk hS 0 18 rfl (v := ?_) ?_ ?_
   rotate_left
   ·intro _ _; go_simp; first | done | with_reducible rfl
   simp only [Act.put, lsA, ls0, ls1]
   refine hTk hS 1 19 rfl (v := ?_) ?_ ?_
   rotate_left
   ·intro _ _; go_simp; first | done | with_reducible rfl
   simp only [Act.put, lsA, ls0, ls1]
   refine hTk hS 2 20 rfl (v := ?_) ?_ ?_
   rotate_left
   ·intro _ _; go_simp; first | done | with_reducible rfl
   simp only [Act.put, lsA, ls0, ls1]
   refine hTk hS 3 21 rfl (v := ?_) ?_ ?_
   rotate_left
   ·intro _ _; go_simp; first | done | with_reducible rfl
   simp only [Act.put, lsA, ls0, ls1]
   refine hTk hS 4 22 rfl (v := ?_) ?_ ?_
   rotate_left
   ·intro _ _; go_simp; first | done | with_reducible rfl
   simp only [Act.put, lsA, ls0, ls1]
   refine hTk hS 5 23 rfl (v := ?_) ?_ ?_
   rotate_left
   ·intro _ _; go_simp; first | done | with_reducible rfl
   simp only [Act.put, lsA, ls0, ls1]
   refine hTk hS 6 24 rfl (v := ?_) ?_ ?_
   rotate_left
   ·intro _ _; go_simp; first | done | with_reducible rfl
   simp only [Act.put, lsA, ls0, ls1]
   refine hTk hS 7 25 rfl (v := ?_) ?_ ?_
   rotate_left
   ·intro _ _; go_simp; first | done | with_reducible rfl
   simp only [Act.put, lsA, ls0, ls1]
   refine hTk hS 8 26 rfl (v := ?_) ?_ ?_
   rotate_left
   ·intro _ _; go_simp; first | done | with_reducible rfl
   simp only [Act.put, lsA, ls0, ls1]
   refine hTk hS 9 27 rfl (v := ?_) ?_ ?_
   rotate_left
   ·intro _ _; go_simp; first | done | with_reducible rfl
   simp only [Act.put, lsA, ls0, ls1]
   refine hTk hS 10 28 rfl (v := ?_) ?_ ?_
   rotate_left
   ·intro _ _; go_simp; first | done | with_reducible rfl
   simp only [Act.put, lsA, ls0, ls1]
   have hdrop := hrd.dropIf (e := i + cntS l i) (by omega)
   have htake := hrd.take (m := i) (by omega)
   have HPB : Hid (∀ k, k < (l.drop (i + cntS l i)).length → -100 ≤ (bx (l.drop (i + cntS l i)) k).parent ∧ (bx (l.drop (i + cntS l i)) k).parent ≤ 100) := fun k hk => by
    rw [List.length_drop] at hk
    have := Hv.out.parLt (k := i + cntS l i + k) (by omega)
    have e : bx (l.drop (i + cntS l i)) k = bx l (i + cntS l i + k) := bx_of (by rw [List.getElem?_drop]; exact bx_get (by omega))
    rw [e]
    omega
   clear hwr hwn hic0 htn
   generalize (if c = i + cntS l i then some (⟨b, off, none⟩ : Addr) else some ⟨b, off + (i + cntS l i) * 9, none⟩) = av at *
   refine wpAnyH_ready (rs := [11]) (by kernel_rfl) (by simp) ?_
   refine AllReadyH.cons (o := _) rfl (fun K9 hK9 => ?_) AllReadyH.nil
   go_simp
   refine (renumbered_any (l := l.drop (i + cntS l i)) (i : Int) (-(cntS l i : Int)) _ (hdrop.below hS (Nat.le_refl _)) (by rw [List.length_drop]; omega) HPB.out (by omega) (by omega)).mono ?_
   rintro e w3 ⟨v3, rfl, ho3, hx3⟩
   rw [← drp_bmpI] at ho3
   obtain ⟨a3, c3, rfl, _, _, _⟩ := ho3.rd.boxes
   generalize ((l.drop (i + cntS l i)).map (drp i (cntS l i))).length = n3 at *
   try go_wp2_with fail
   refine hK9.out _ _ (after hS hx3 (Nat.le_refl _)) (fun hS => ?_)
   clear hK9 K9
   try simp only [Act.put, lsA, ls0, ls1]
   refine wpAnyH_ready (rs := [12]) (by kernel_rfl) (by simp) ?_
   refine AllReadyH.cons (o := _) rfl (fun K9 hK9 => ?_) AllReadyH.nil
   go_simp
   refine hK9.out _ _ (hS.alloc hS.size _) (fun hS => ?_)
   clear hK9 K9
   try simp only [Act.put, lsA, ls0, ls1]
   refine wpAnyH_ready (rs := [13]) (by kernel_rfl) (by simp) ?_
   refine AllReadyH.cons (o := _) rfl (fun K9 hK9 => ?_) AllReadyH.nil
   have hg0 : ∀ (j : Nat) (x : Value), [Value.slice (some ⟨b, off, none⟩) i c, .slice a3 n3 c3][j]? = some x → (w3.alloc (.cells #[.slice (some ⟨b, off, none⟩) i c, .slice a3 n3 c3] 43)).cell? ⟨w3.heap.size, j, none⟩ = some x := fun j x hj => by
    rw [cell_of_heap (heap_alloc_new w3 _)]
    simpa using hj
   have hg1 : ∀ (j : Nat) (x : Value) (m : List Bx), [Value.slice (some ⟨b, off, none⟩) i c, .slice a3 n3 c3][j]? = some x → [l.take i, (l.drop (i + cntS l i)).map (drp i (cntS l i))][j]? = some m → Rd (w3.alloc (.cells #[.slice (some ⟨b, off, none⟩) i c, .slice a3 n3 c3] 43)) 9 x (Bs m) := fun j x m hj hm => by
    match j, hj, hm with
    | 0, hj, hm => cases hj; cases hm; exact htake.below hS (Nat.le_refl _)
    | 1, hj, hm => cases hj; cases hm; exact (ho3.alloc _).rd
    | j + 2, hj, hm => cases hj
   go_simp
   refine (ConcatB_any (g := w3.heap.size) (vs := [Value.slice (some ⟨b, off, none⟩) i c, .slice a3 n3 c3]) (ls := [l.take i, (l.drop (i + cntS l i)).map (drp i (cntS l i))]) _ hg0 rfl rfl (by simp) hg1 ?htot).mono ?_
   case htot =>
    simp only [List.flatten_cons, List.flatten_nil, List.append_nil, List.length_append, List.length_map, List.length_take, List.length_drop]
    omega
   rintro e w4 ⟨v4, rfl, ho4, hx4⟩
   rw [List.flatten_cons, List.flatten_cons, List.flatten_nil, List.append_nil] at ho4
   change Own w4 _ 9 v4 (Bs (remL l i)) at ho4
   clear hg0 hg1
   try go_wp2_with fail
   refine hK9.out _ _ (after hS hx4 (Nat.le_refl _)) (fun hS => ?_)
   clear hK9 K9
   try simp only [Act.put, lsA, ls0, ls1]
   refine wpAnyH_ready (rs := [14]) (by kernel_rfl) (by simp) ?_
   refine AllReadyH.cons (o := _) rfl (fun K9 hK9 => ?_) AllReadyH.nil
   go_simp
   refine (made_any (l := remL l i) (base := w.heap.size) _ (ho4.weak (by have h1 := hb.size; have h2 : w2.heap.size ≤ w3.heap.size := hx3.size; simp; omega)) (by have := hb.size; have := hS.size; omega)).mono ?_
   rintro e w5 ⟨v5, he, ho5, hx5⟩
   rw [HVR.out] at he ho5
   subst he
   try go_wp2_with fail
   refine hK9.out _ _ (after hS hx5 (Nat.le_refl _)) (fun hS => ?_)
   clear hK9 K9
   try simp only [Act.put, lsA, ls0, ls1]
   refine hTk hS 15 33 rfl (v := ?_) ?_ ?_
   rotate_left
   ·intro _ _; go_simp; first | done | with_reducible rfl
   simp only [Act.put, lsA, ls0, ls1]
   refine hTk hS 16 34 rfl (v := ?_) ?_ ?_
   rotate_left
   ·intro _ _; go_simp; first | done | with_reducible rfl
   simp only [Act.put, lsA, ls0, ls1]
   refine wpAnyH_ready (rs := [17]) (by kernel_rfl) (by simp) ?_
   refine AllReadyH.cons (o := _) rfl (fun K9 hK9 => ?_) AllReadyH.nil
   go_simp
   refine hK9.out _ _ hS (fun hS => ?_)
   clear hK9 K9
   try simp only [Act.put, lsA, ls0, ls1]
   refine wpAnyH_ready (rs := [18]) (by kernel_rfl) (by simp) ?_
   refine AllReadyH.cons (o := _) rfl (fun K9 hK9 => ?_) AllReadyH.nil
   go_simp
   refine hK9.out _ _ hS (fun hS => ?_)
   clear hK9 K9
   try simp only [Act.put, lsA, ls0, ls1]
   refine wpAnyH_done (by kernel_rfl) ?_ _
   have HB : Hid (Below w.heap.size w w5) := after hb hS (Nat.le_refl _)
   have HO : Hid (Own w5 w.heap.size 9 v5 (Bs (remL l i))) := ho5
   clear ho3 ho4 ho5 hx3 hx4 hx5 hS hdrop htake hrd hv hb
   go_wp2
   go_ret2
   exact ⟨_, by rw [H.out]; rfl, by rw [H.out, orNo_t, Int.toNat_natCast]; exact HO.out, HB.out⟩
 ·have h' : inB l i = false := by simpa using h
  have H : Hid (remB l i = false) := by
   show _ = _
   rw [Bool.eq_false_iff]
   intro h2
   obtain ⟨h3, h4, h5⟩ := remB_iff.1 h2
   exact h (inB_iff.2 ⟨h3, by omega, h5⟩)
  clear h
  go_enter Tryz.func59, Tryz.ntmps59
  go_wp2_with (fail)
  refine (boxIn_any (l := l) i _ hv).mono ?_
  rintro e w1 ⟨he, hb⟩
  rw [h'] at he
  subst he
  clear h'
  go_wp2
  go_ret2
  exact ⟨_, by rw [H.out]; rfl, by rw [H.out]; exact Own.nil _ _ _, hb⟩
theorem bump_bmpI (e : Nat) : bump e = bmpI (e : Int) 1 := by
 funext y
 unfold bump bmpI
 split
 ·rfl
 ·rw [Int.add_zero]
  rfl
/-- what every world of the region keeps: old memory, and the local box -/
def S2 (w : World) (B : Nat) (o : Obj) (W : World) (w' : World) : Prop := Below w.heap.size w w' ∧ W.heap.size ≤ w'.heap.size ∧ Keep B o w'
theorem S2.ext {w W w1 w2 : World} {B : Nat} {o : Obj} (h : S2 w B o W w1) (hx : Ext w1 w2) : S2 w B o W w2 :=
 ⟨after h.1 hx (Nat.le_refl _), Nat.le_trans h.2.1 hx.size, by unfold Keep; rw [hx.block _ h.2.2.lt]; exact h.2.2⟩
theorem S2.alloc {w W w1 : World} {B : Nat} {o : Obj} (h : S2 w B o W w1) (o' : Obj) : S2 w B o W (w1.alloc o') := h.ext (Below.of_alloc _ _)
set_option maxRecDepth 100000 in
set_option maxHeartbeats 2000000 in
theorem AddBox_any {v : Value} {l : List Bx} (i : Int) (x : Bx) (w : World) (hv : Rd w 9 v (Bs l)) :
 Calls Tryz.prog 29 #[v, .int .i64 i, x.agg] w fun e w' => ∃ v', e = .returned (.tuple #[v', .bool (addOk l i x)]) ∧ Own w' w.heap.size 9 v' (Bs (orNo (addOk l i x) (addL l i.toNat x))) ∧ Ext w w' := by
 have hrd := hv
 obtain ⟨a, c, rfl, hn, hc, hcell⟩ := hv.boxes
 unfold maxLen at hc
 unfold Bx.agg
 by_cases h : inB l i = true
 ·obtain ⟨hval, h0, hi⟩ := inB_iff.1 h
  obtain ⟨i, rfl⟩ := Int.eq_ofNat_of_zero_le h0
  have hin : i < l.length := by omega
  have hst : Hid (addOk l (i : Int) x = vldB (addL l i x)) := by
   show _ = _
   unfold addOk
   rw [h, Int.toNat_natCast]
   rfl
  have Hv := Lib.hid hval
  have hcl := cntS_le l i
  have hpos := cntS_pos hval hin
  have hll := hval.hi
  obtain ⟨b, off, rfl, hbl, _⟩ := hcell i _ (bx_get hin)
  clear hval hcell
  go_enter Tryz.func29, Tryz.ntmps29
  go_wp2_with (fail)
  refine (boxIn_any (l := l) (i : Int) _ (hrd.alloc _)).mono ?_
  rintro e w1 ⟨he, hx1⟩
  rw [h] at he
  subst he
  clear h
  have hb1 := after (Below.of_alloc w _) hx1 (Nat.le_refl _)
  have hB : Keep w.heap.size (.cells x.arr 39) w1 := by
   show w1.heap[w.heap.size]? = _
   rw [hx1.block _ (by simp)]
   exact heap_alloc_new w _
  clear hx1
  have f0 : w1.frozen? ⟨w.heap.size, 0, none⟩ = false := hB.frozen 0
  have p0 : w1.cell? ⟨w.heap.size, 0, none⟩ = some (.int .i64 x.parent) := hB.cell 0
  have hB2 : Keep w.heap.size (.cells (x.at i).arr 39) (w1.setCell ⟨w.heap.size, 0, none⟩ (.int .i64 (i : Int))) := hB.store 0 (.int .i64 (i : Int))
  have hb2 := hb1.setCell (p := ⟨w.heap.size, 0, none⟩) (Nat.le_refl _) (.int .i64 (i : Int))
  clear hB
  go_wp2_with (fail)
  change Calls _ _ _ (w1.setCell ⟨w.heap.size, 0, none⟩ (.int .i64 (i : Int))) _
  clear f0 p0
  generalize w1.setCell ⟨w.heap.size, 0, none⟩ (.int .i64 (i : Int)) = W2 at *
  replace hrd := hrd.below hb2 (Nat.le_refl _)
  refine (count_any (l := l) (a := (i : Int)) Hv.out _ (by omega) hi hrd).mono ?_
  rintro e w2 ⟨rfl, hx⟩
  rw [Int.toNat_natCast]
  have hb := after hb2 hx (Nat.le_refl _)
  replace hrd := hrd.below hx (Nat.le_refl _)
  have hK : Keep w.heap.size (.cells (x.at i).arr 39) w2 := by
   unfold Keep
   rw [hx.block _ hB2.lt]
   exact hB2
  clear hx hb2 hb1 hB2
  have hs2 := hb.size
  have hci : (i : Int) + (cntS l i : Nat) ≤ c := by omega
  have hcl2 : (i : Int) + (cntS l i : Nat) ≤ l.length := by omega
  have hwr : IntKind.i64.wrap ((i : Int) + (cntS l i : Nat)) = (i : Int) + (cntS l i : Nat) := by rw [IntKind.wrap_i64]; omega
  have hic0 : (0 : Int) ≤ (i : Int) + (cntS l i : Nat) := by omega
  have htn : ((i : Int) + (cntS l i : Nat)).toNat = i + cntS l i := by omega
  go_upto_region 5 with fail
  refine wp_region_held_drew (S := S2 w2 w.heap.size (.cells (x.at i).arr 39) w2) (by kernel_rfl) ⟨(Below.refl _ _).drew, Nat.le_refl _, hK⟩ (fun hS => ?_)
  refine hTk hS 0 20 rfl (v := ?_) ?_ ?_
  rotate_left
  ·intro _ _; go_simp; first | done | with_reducible rfl
  simp only [Act.put, lsA, ls0, ls1]
  refine hTk hS 1 21 rfl (v := ?_) ?_ ?_
  rotate_left
  ·intro _ _; go_simp; first | done | with_reducible rfl
  simp only [Act.put, lsA, ls0, ls1]
  refine hTk hS 2 22 rfl (v := ?_) ?_ ?_
  rotate_left
  ·intro _ _; go_simp; first | done | with_reducible rfl
  simp only [Act.put, lsA, ls0, ls1]
  refine hTk hS 3 23 rfl (v := ?_) ?_ ?_
  rotate_left
  ·intro w9 hS9; obtain ⟨d0, d1, d2, d3, d4, d5, d6, d7, d8⟩ := Keep.c9 (x := x.at i) hS9.2.2; go_simp; first | done | with_reducible rfl
  simp only [Act.put, lsA, ls0, ls1]
  refine hTk hS 5 25 rfl (v := ?_) ?_ ?_
  rotate_left
  ·intro _ _; go_simp; first | done | with_reducible rfl
  simp only [Act.put, lsA, ls0, ls1]
  refine hTk hS 6 26 rfl (v := ?_) ?_ ?_
  rotate_left
  ·intro _ _; go_simp; first | done | with_reducible rfl
  simp only [Act.put, lsA, ls0, ls1]
  refine hTk hS 7 27 rfl (v := ?_) ?_ ?_
  rotate_left
  ·intro _ _; go_simp; first | done | with_reducible rfl
  simp only [Act.put, lsA, ls0, ls1]
  refine hTk hS 8 28 rfl (v := ?_) ?_ ?_
  rotate_left
  ·intro _ _; go_simp; first | done | with_reducible rfl
  simp only [Act.put, lsA, ls0, ls1]
  have hdrop := hrd.dropIf (e := i + cntS l i) (by omega)
  have htake := hrd.take (m := i + cntS l i) (by omega)
  have HPB : Hid (∀ k, k < (l.drop (i + cntS l i)).length → -100 ≤ (bx (l.drop (i + cntS l i)) k).parent ∧ (bx (l.drop (i + cntS l i)) k).parent ≤ 100) := fun k hk => by
   rw [List.length_drop] at hk
   have := Hv.out.parLt (k := i + cntS l i + k) (by omega)
   have e : bx (l.drop (i + cntS l i)) k = bx l (i + cntS l i + k) := bx_of (by rw [List.getElem?_drop]; exact bx_get (by omega))
   rw [e]
   omega
  clear hwr hic0 htn
  generalize (if c = i + cntS l i then some (⟨b, off, none⟩ : Addr) else some ⟨b, off + (i + cntS l i) * 9, none⟩) = av at *
  have hlm : ((l.drop (i + cntS l i)).map (bump (i + cntS l i))).length ≤ 16 := by rw [List.length_map, List.length_drop]; omega
  refine wpAnyH_ready (rs := [4, 9]) (by kernel_rfl) (by simp) ?_
  refine AllReadyH.cons (o := _) rfl (fun K9 hK9 => ?_) (AllReadyH.cons (o := _) rfl (fun K9 hK9 => ?_) AllReadyH.nil)
  ·have hr4 : Rd (w2.drew.alloc (.cells (x.at i).arr 39)) 9 (.slice (some ⟨w2.heap.size, 0, none⟩) 1 1) (Bs [x.at i]) := by
    have := Rd.oneAt (w := w2.drew) (g := w2.heap.size) (x.at i).arr 39 rfl
    exact this
   go_simp
   refine hK9.out _ _ (hS.alloc _) (fun hS => ?_)
   clear hK9 K9
   try simp only [Act.put, lsA, ls0, ls1]
   change S2 _ _ _ _ (w2.drew.alloc (.cells (x.at i).arr 39)) at hS
   change wpAnyH _ _ _ _ _ _ _ _ (w2.drew.alloc (.cells (x.at i).arr 39))
   have hW4 : w2.heap.size ≤ (w2.drew.alloc (.cells (x.at i).arr 39)).heap.size := hS.2.1
   generalize hg4 : w2.heap.size = g4 at hr4 ⊢
   clear hg4
   generalize w2.drew.alloc (.cells (x.at i).arr 39) = W4 at *
   refine wpAnyH_ready (rs := [9]) (by kernel_rfl) (by simp) ?_
   refine AllReadyH.cons (o := _) rfl (fun K9 hK9 => ?_) AllReadyH.nil
   go_simp
   refine (renumbered_any (l := l.drop (i + cntS l i)) ((i : Int) + (cntS l i : Nat)) 1 _ (hdrop.below hS.1 (Nat.le_refl _)) (by rw [List.length_drop]; omega) HPB.out (by omega) (by omega)).mono ?_
   rintro e w3 ⟨v3, rfl, ho3, hx3⟩
   rw [show (i : Int) + (cntS l i : Nat) = ((i + cntS l i : Nat) : Int) by omega, ← bump_bmpI] at ho3
   obtain ⟨a3, c3, rfl, _, _, _⟩ := ho3.rd.boxes
   generalize hM : (l.drop (i + cntS l i)).map (bump (i + cntS l i)) = M at *
   generalize hn3 : M.length = n3 at ho3 ⊢
   try go_wp2_with fail
   refine hK9.out _ _ (hS.ext hx3) (fun hS => ?_)
   clear hK9 K9
   try simp only [Act.put, lsA, ls0, ls1]
   have hr3 := ho3.rd
   replace hr4 := hr4.below hx3 (Nat.le_refl _)
   have hW5 : w2.heap.size ≤ w3.heap.size := Nat.le_trans hW4 hx3.size
   clear hx3 hW4 ho3
   refine wpAnyH_ready (rs := [10]) (by kernel_rfl) (by simp) ?_
   refine AllReadyH.cons (o := _) rfl (fun K9 hK9 => ?_) AllReadyH.nil
   have hg0 : ∀ (j : Nat) (y : Value), [Value.slice (some ⟨b, off, none⟩) (i + cntS l i) c, .slice (some ⟨g4, 0, none⟩) 1 1, .slice a3 n3 c3][j]? = some y → (w3.alloc (.cells #[.slice (some ⟨b, off, none⟩) (i + cntS l i) c, .slice (some ⟨g4, 0, none⟩) 1 1, .slice a3 n3 c3] 43)).cell? ⟨w3.heap.size, j, none⟩ = some y := fun j y hj => by
    rw [cell_of_heap (heap_alloc_new w3 _)]
    simpa using hj
   have hg1 : ∀ (j : Nat) (y : Value) (m : List Bx), [Value.slice (some ⟨b, off, none⟩) (i + cntS l i) c, .slice (some ⟨g4, 0, none⟩) 1 1, .slice a3 n3 c3][j]? = some y → [l.take (i + cntS l i), [x.at i], M][j]? = some m → Rd (w3.alloc (.cells #[.slice (some ⟨b, off, none⟩) (i + cntS l i) c, .slice (some ⟨g4, 0, none⟩) 1 1, .slice a3 n3 c3] 43)) 9 y (Bs m) := fun j y m hj hm => by
    match j, hj, hm with
    | 0, hj, hm => cases hj; cases hm; exact htake.below (hS.alloc _).1 (Nat.le_refl _)
    | 1, hj, hm => cases hj; cases hm; exact hr4.alloc _
    | 2, hj, hm => cases hj; cases hm; exact hr3.alloc _
    | j + 3, hj, hm => cases hj
   go_simp
   refine hK9.out _ _ (hS.alloc _) (fun hS => ?_)
   clear hK9 K9
   try simp only [Act.put, lsA, ls0, ls1]
   refine wpAnyH_ready (rs := [11]) (by kernel_rfl) (by simp) ?_
   refine AllReadyH.cons (o := _) rfl (fun K9 hK9 => ?_) AllReadyH.nil
   go_simp
   refine (ConcatB_any (g := w3.heap.size) (vs := [Value.slice (some ⟨b, off, none⟩) (i + cntS l i) c, .slice (some ⟨g4, 0, none⟩) 1 1, .slice a3 n3 c3]) (ls := [l.take (i + cntS l i), [x.at i], M]) _ hg0 rfl rfl (by simp) hg1 (by
    simp only [List.flatten_cons, List.flatten_nil, List.append_nil, List.length_append, List.length_take, List.length_singleton]
    omega)).mono ?_
   rintro e w6 ⟨v6, rfl, ho6, hx6⟩
   rw [List.flatten_cons, List.flatten_cons, List.flatten_cons, List.flatten_nil, List.append_nil, ← List.append_assoc, ← hM] at ho6
   change Own w6 _ 9 v6 (Bs (addL l i x)) at ho6
   clear hg0 hg1
   try go_wp2_with fail
   refine hK9.out _ _ (hS.ext hx6) (fun hS => ?_)
   clear hK9 K9
   try simp only [Act.put, lsA, ls0, ls1]
   refine wpAnyH_ready (rs := [12]) (by kernel_rfl) (by simp) ?_
   refine AllReadyH.cons (o := _) rfl (fun K9 hK9 => ?_) AllReadyH.nil
   go_simp
   refine (made_any (l := addL l i x) (base := w.heap.size) _ (ho6.weak (by have h1 := hb.size; have h2 : w2.heap.size ≤ w3.heap.size := hW5; simp; omega)) (by have := hb.size; have := hS.1.size; omega)).mono ?_
   rintro e w7 ⟨v7, rfl, ho7, hx7⟩
   try go_wp2_with fail
   refine hK9.out _ _ (hS.ext hx7) (fun hS => ?_)
   clear hK9 K9
   try simp only [Act.put, lsA, ls0, ls1]
   refine hTk hS 13 33 rfl (v := ?_) ?_ ?_
   rotate_left
   ·intro _ _; go_simp; first | done | with_reducible rfl
   simp only [Act.put, lsA, ls0, ls1]
   refine hTk hS 14 34 rfl (v := ?_) ?_ ?_
   rotate_left
   ·intro _ _; go_simp; first | done | with_reducible rfl
   simp only [Act.put, lsA, ls0, ls1]
   refine wpAnyH_ready (rs := [15]) (by kernel_rfl) (by simp) ?_
   refine AllReadyH.cons (o := _) rfl (fun K9 hK9 => ?_) AllReadyH.nil
   go_simp
   refine hK9.out _ _ hS (fun hS => ?_)
   clear hK9 K9
   try simp only [Act.put, lsA, ls0, ls1]
   refine wpAnyH_ready (rs := [16]) (by kernel_rfl) (by simp) ?_
   refine AllReadyH.cons (o := _) rfl (fun K9 hK9 => ?_) AllReadyH.nil
   go_simp
   refine hK9.out _ _ hS (fun hS => ?_)
   clear hK9 K9
   try simp only [Act.put, lsA, ls0, ls1]
   refine wpAnyH_done (by kernel_rfl) ?_ _
   have HB : Hid (Below w.heap.size w w7) := after hb hS.1 (Nat.le_refl _)
   have HO : Hid (Own w7 w.heap.size 9 v7 (Bs (orNo (vldB (addL l i x)) (addL l i x)))) := ho7
   clear ho6 ho7 hx6 hx7 hS hdrop htake hrd hv hb hr3 hr4
   go_wp2
   go_ret2
   exact ⟨_, by rw [hst.out]; rfl, by rw [hst.out, Int.toNat_natCast]; exact HO.out, HB.out⟩
  ·
   go_simp
   refine (renumbered_any (l := l.drop (i + cntS l i)) ((i : Int) + (cntS l i : Nat)) 1 _ (hdrop.below hS.1 (Nat.le_refl _)) (by rw [List.length_drop]; omega) HPB.out (by omega) (by omega)).mono ?_
   rintro e w3 ⟨v3, rfl, ho3, hx3⟩
   rw [show (i : Int) + (cntS l i : Nat) = ((i + cntS l i : Nat) : Int) by omega, ← bump_bmpI] at ho3
   obtain ⟨a3, c3, rfl, _, _, _⟩ := ho3.rd.boxes
   generalize hM : (l.drop (i + cntS l i)).map (bump (i + cntS l i)) = M at *
   generalize hn3 : M.length = n3 at ho3 ⊢
   try go_wp2_with fail
   refine hK9.out _ _ (hS.ext hx3) (fun hS => ?_)
   clear hK9 K9
   try simp only [Act.put, lsA, ls0, ls1]
   refine wpAnyH_ready (rs := [4]) (by kernel_rfl) (by simp) ?_
   refine AllReadyH.cons (o := _) rfl (fun K9 hK9 => ?_) AllReadyH.nil
   have hr4 : Rd (w3.alloc (.cells (x.at i).arr 39)) 9 (.slice (some ⟨w3.heap.size, 0, none⟩) 1 1) (Bs [x.at i]) := by
    have := Rd.oneAt (w := w3) (g := w3.heap.size) (x.at i).arr 39 rfl
    exact this
   have hr3 := (ho3.alloc (.cells (x.at i).arr 39)).rd
   have hW5 : w2.heap.size ≤ (w3.alloc (.cells (x.at i).arr 39)).heap.size := Nat.le_trans hx3.size (Below.of_alloc w3 _).size
   go_simp
   refine hK9.out _ _ (hS.alloc (.cells (x.at i).arr 39)) (fun hS => ?_)
   clear hK9 K9
   try simp only [Act.put, lsA, ls0, ls1]
   change S2 _ _ _ _ (w3.alloc (.cells (x.at i).arr 39)) at hS
   change wpAnyH _ _ _ _ _ _ _ _ (w3.alloc (.cells (x.at i).arr 39))
   clear hx3 ho3
   generalize hg4 : w3.heap.size = g4 at hr4 ⊢
   clear hg4
   generalize w3.alloc (.cells (x.at i).arr 39) = W5 at *
   refine wpAnyH_ready (rs := [10]) (by kernel_rfl) (by simp) ?_
   refine AllReadyH.cons (o := _) rfl (fun K9 hK9 => ?_) AllReadyH.nil
   have hg0 : ∀ (j : Nat) (y : Value), [Value.slice (some ⟨b, off, none⟩) (i + cntS l i) c, .slice (some ⟨g4, 0, none⟩) 1 1, .slice a3 n3 c3][j]? = some y → (W5.alloc (.cells #[.slice (some ⟨b, off, none⟩) (i + cntS l i) c, .slice (some ⟨g4, 0, none⟩) 1 1, .slice a3 n3 c3] 43)).cell? ⟨W5.heap.size, j, none⟩ = some y := fun j y hj => by
    rw [cell_of_heap (heap_alloc_new W5 _)]
    simpa using hj
   have hg1 : ∀ (j : Nat) (y : Value) (m : List Bx), [Value.slice (some ⟨b, off, none⟩) (i + cntS l i) c, .slice (some ⟨g4, 0, none⟩) 1 1, .slice a3 n3 c3][j]? = some y → [l.take (i + cntS l i), [x.at i], M][j]? = some m → Rd (W5.alloc (.cells #[.slice (some ⟨b, off, none⟩) (i + cntS l i) c, .slice (some ⟨g4, 0, none⟩) 1 1, .slice a3 n3 c3] 43)) 9 y (Bs m) := fun j y m hj hm => by
    match j, hj, hm with
    | 0, hj, hm => cases hj; cases hm; exact htake.below (hS.alloc _).1 (Nat.le_refl _)
    | 1, hj, hm => cases hj; cases hm; exact hr4.alloc _
    | 2, hj, hm => cases hj; cases hm; exact hr3.alloc _
    | j + 3, hj, hm => cases hj
   go_simp
   refine hK9.out _ _ (hS.alloc _) (fun hS => ?_)
   clear hK9 K9
   try simp only [Act.put, lsA, ls0, ls1]
   refine wpAnyH_ready (rs := [11]) (by kernel_rfl) (by simp) ?_
   refine AllReadyH.cons (o := _) rfl (fun K9 hK9 => ?_) AllReadyH.nil
   go_simp
   refine (ConcatB_any (g := W5.heap.size) (vs := [Value.slice (some ⟨b, off, none⟩) (i + cntS l i) c, .slice (some ⟨g4, 0, none⟩) 1 1, .slice a3 n3 c3]) (ls := [l.take (i + cntS l i), [x.at i], M]) _ hg0 rfl rfl (by simp) hg1 (by
    simp only [List.flatten_cons, List.flatten_nil, List.append_nil, List.length_append, List.length_take, List.length_singleton]
    omega)).mono ?_
   rintro e w6 ⟨v6, rfl, ho6, hx6⟩
   rw [List.flatten_cons, List.flatten_cons, List.flatten_cons, List.flatten_nil, List.append_nil, ← List.append_assoc, ← hM] at ho6
   change Own w6 _ 9 v6 (Bs (addL l i x)) at ho6
   clear hg0 hg1
   try go_wp2_with fail
   refine hK9.out _ _ (hS.ext hx6) (fun hS => ?_)
   clear hK9 K9
   try simp only [Act.put, lsA, ls0, ls1]
   refine wpAnyH_ready (rs := [12]) (by kernel_rfl) (by simp) ?_
   refine AllReadyH.cons (o := _) rfl (fun K9 hK9 => ?_) AllReadyH.nil
   go_simp
   refine (made_any (l := addL l i x) (base := w.heap.size) _ (ho6.weak (by have h1 := hb.size; have h2 : w2.heap.size ≤ W5.heap.size := hW5; simp; omega)) (by have := hb.size; have := hS.1.size; omega)).mono ?_
   rintro e w7 ⟨v7, rfl, ho7, hx7⟩
   try go_wp2_with fail
   refine hK9.out _ _ (hS.ext hx7) (fun hS => ?_)
   clear hK9 K9
   try simp only [Act.put, lsA, ls0, ls1]
   refine hTk hS 13 33 rfl (v := ?_) ?_ ?_
   rotate_left
   ·intro _ _; go_simp; first | done | with_reducible rfl
   simp only [Act.put, lsA, ls0, ls1]
   refine hTk hS 14 34 rfl (v := ?_) ?_ ?_
   rotate_left
   ·intro _ _; go_simp; first | done | with_reducible rfl
   simp only [Act.put, lsA, ls0, ls1]
   refine wpAnyH_ready (rs := [15]) (by kernel_rfl) (by simp) ?_
   refine AllReadyH.cons (o := _) rfl (fun K9 hK9 => ?_) AllReadyH.nil
   go_simp
   refine hK9.out _ _ hS (fun hS => ?_)
   clear hK9 K9
   try simp only [Act.put, lsA, ls0, ls1]
   refine wpAnyH_ready (rs := [16]) (by kernel_rfl) (by simp) ?_
   refine AllReadyH.cons (o := _) rfl (fun K9 hK9 => ?_) AllReadyH.nil
   go_simp
   refine hK9.out _ _ hS (fun hS => ?_)
   clear hK9 K9
   try simp only [Act.put, lsA, ls0, ls1]
   refine wpAnyH_done (by kernel_rfl) ?_ _
   have HB : Hid (Below w.heap.size w w7) := after hb hS.1 (Nat.le_refl _)
   have HO : Hid (Own w7 w.heap.size 9 v7 (Bs (orNo (vldB (addL l i x)) (addL l i x)))) := ho7
   clear ho6 ho7 hx6 hx7 hS hdrop htake hrd hv hb hr3 hr4
   go_wp2
   go_ret2
   exact ⟨_, by rw [hst.out]; rfl, by rw [hst.out, Int.toNat_natCast]; exact HO.out, HB.out⟩
 ·have h' : inB l i = false := by simpa using h
  have hst : Hid (addOk l i x = false) := by
   show _ = _
   unfold addOk
   rw [h']
   rfl
  clear h hcell
  go_enter Tryz.func29, Tryz.ntmps29
  go_wp2_with (fail)
  refine (boxIn_any (l := l) i _ (hrd.alloc _)).mono ?_
  rintro e w1 ⟨he, hx⟩
  rw [h'] at he
  subst he
  go_wp2
  go_ret2
  refine ⟨_, by rw [hst.out]; rfl, ?_, after (Below.of_alloc w _) hx (Nat.le_refl _)⟩
  rw [hst.out]
  exact Own.nil _ _ _
end Go.Proofs.YthkkgleoikpfgaaGreatDoor
