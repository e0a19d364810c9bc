/-
  Parts of the proof: Eq Ints Fun Sum Sort Fun3.
-/
import Derived.Test.YthkkgleoikpfgaaGreatDoorKAd
import Derived.Deep.QuietTactic
import Derived.BigQuiet
import Derived.Test.YthkkgleoikpfgaaGreatDoorKAa
namespace Go.Proofs.YthkkgleoikpfgaaGreatDoor
open Go Go.RowKit
theorem below_drewN {B : Nat} {w w' : World} (h : Below B w w') (n : Nat) : Below B w (w'.drewN n) := ⟨h.os, h.tape, h.output, h.size, h.block⟩
theorem rd_drewN {w : World} {size : Nat} {v : Value} {xs : List Value} (h : Rd w size v xs) (n : Nat) : Rd (w.drewN n) size v xs := h
theorem cell_below {w w' : World} {p : Addr} {x : Value} (hb : Below w.heap.size w w') (h : w.cell? p = some x) : w'.cell? p = some x := by
 rw [hb.cell (World.block_lt_of_cell? _ _ h)]
 exact h
theorem any_not_all (l : List Int) (p : Int → Bool) : (!l.any fun m => !p m) = l.all p := by
 induction l with
 | nil => rfl
 | cons x r ih =>
  rw [List.any_cons, List.all_cons, Bool.not_or, Bool.not_not, ih]
theorem any_take_succ {l : List Int} {p : Int → Bool} {k : Nat} {y : Int} (hy : l[k]? = some y) (hx : (l.take k).any p = false) (hp : p y = false) : (l.take (k + 1)).any p = false := by
 rw [List.take_add_one, hy, List.any_append, hx]
 simp [hp]
set_option maxRecDepth 100000 in
set_option maxHeartbeats 400000 in
theorem IndexFunc_any {v c1 c2 : Value} {l : List Int} {N : Nat} (hN : ∀ args w', (callFunc N args).run Tryz.prog w' = .ok (.enter N args) w') (p : Int → Bool) (w : World) (hv : Rd w 1 v (Is l))
 (hf : ∀ x, x ∈ l → ∀ w', Below w.heap.size w w' → Calls Tryz.prog N #[.int .i64 x, c1, c2] w' fun e w'' => e = .returned (.bool (p x)) ∧ Ext w' w'') :
 Calls Tryz.prog 112 #[v, .func (.func N) #[] #[c1, c2]] w fun e w' => ∃ r : Int, e = .returned (.int .i64 r) ∧ decide (0 ≤ r) = l.any p ∧ Ext w w' := by
 obtain ⟨a, c, rfl, hn, hc, hcell⟩ := hv.ints
 clear hv
 unfold maxLen at hc
 have HF := Lib.hid hf
 clear hf
 go_enter Tryz.func112, Tryz.ntmps112
 go_wp2
 go_loopw [8] (fun i wr => ∃ k : Nat, k ≤ l.length ∧ i = .int .i64 k ∧ (l.take k).any p = false ∧ Below w.heap.size w wr) (fun i _ => l.length - (intOf i).toNat)
 case atStart => exact ⟨0, Nat.zero_le _, rfl, by simp, Below.refl _ _⟩
 case round =>
  obtain ⟨k, hk, rfl, hx, hb⟩ := hrel
  have Hx := Lib.hid hx
  clear hx
  by_cases hlt : k < l.length
  ·obtain ⟨y, hy⟩ : ∃ y, l[k]? = some y := ⟨_, List.getElem?_eq_getElem hlt⟩
   obtain ⟨b, off, rfl, hC⟩ := hcell k y hy
   have hck := cell_below hb (hC k y hy)
   have Hy := Lib.hid hy
   clear hcell hC hy
   have hlti : (k : Int) < l.length := by omega
   by_cases hp : p y = true
   ·have HP := Lib.hid hp
    clear hp
    go_wp2_with (fail)
    refine (HF.out y (List.mem_of_getElem? Hy.out) _ hb).mono ?_
    rintro e w2 ⟨he, hx⟩
    rw [HP.out] at he
    subst he
    go_wp2
    go_ret
    refine ⟨k, rfl, ?_, after hb hx (Nat.le_refl _)⟩
    have : l.any p = true := List.any_eq_true.2 ⟨y, List.mem_of_getElem? Hy.out, HP.out⟩
    simp [this]
   ·have HP : Hid (p y = false) := by
     show _ = _
     simpa using hp
    clear hp
    go_wp2_with (fail)
    refine (HF.out y (List.mem_of_getElem? Hy.out) _ hb).mono ?_
    rintro e w2 ⟨he, hx⟩
    rw [HP.out] at he
    subst he
    go_wp2
    go_roundw
    case rel => exact ⟨k + 1, by omega, by go_num, any_take_succ Hy.out Hx.out HP.out, after hb hx (Nat.le_refl _)⟩
    case measure => simp [intOf]; omega
  ·go_wp2
   go_ret
   refine ⟨-1, rfl, ?_, hb⟩
   have := Hx.out
   rw [List.take_of_length_le (by omega)] at this
   simp [this]
set_option maxHeartbeats 400000 in
theorem ContainsFunc_any {v c1 c2 : Value} {l : List Int} {N : Nat} (hN : ∀ args w', (callFunc N args).run Tryz.prog w' = .ok (.enter N args) w') (p : Int → Bool) (w : World) (hv : Rd w 1 v (Is l))
 (hf : ∀ x, x ∈ l → ∀ w', Below w.heap.size w w' → Calls Tryz.prog N #[.int .i64 x, c1, c2] w' fun e w'' => e = .returned (.bool (p x)) ∧ Ext w' w'') :
 Calls Tryz.prog 87 #[v, .func (.func N) #[] #[c1, c2]] w fun e w' => e = .returned (.bool (l.any p)) ∧ Ext w w' := by
 go_enter Tryz.func87, Tryz.ntmps87
 go_wp2_with (fail)
 refine (IndexFunc_any (l := l) hN p _ hv hf).mono ?_
 rintro e w1 ⟨r, rfl, hr, hx⟩
 have HR := Lib.hid hr
 clear hr
 go_wp2
 go_ret
 exact ⟨by rw [← HR.out]; rfl, hx⟩
theorem allInEnter (args : Array Value) (w : World) : (callFunc 88 args).run Tryz.prog w = .ok (.enter 88 args) w := by
 kernel_rfl
set_option maxHeartbeats 400000 in
theorem allInF_any (x lo hi : Int) (g1 g2 : Nat) (w : World) (h1 : w.cell? ⟨g1, 0, none⟩ = some (.int .i64 lo)) (h2 : w.cell? ⟨g2, 0, none⟩ = some (.int .i64 hi)) :
 Calls Tryz.prog 88 #[.int .i64 x, .pointer (some ⟨g1, 0, none⟩), .pointer (some ⟨g2, 0, none⟩)] w fun e w' => e = .returned (.bool (!inR x lo hi)) ∧ Ext w w' := by
 go_enter Tryz.func88, Tryz.ntmps88
 go_wp2_with (fail)
 refine (within_any _ _ _ _).mono ?_
 rintro e w2 ⟨rfl, rfl⟩
 go_wp2
 go_ret
 exact ⟨rfl, Below.refl _ _⟩
set_option maxHeartbeats 400000 in
theorem allIn_any {v : Value} {l : List Int} (lo hi : Int) (w : World) (hv : Rd w 1 v (Is l)) :
 Calls Tryz.prog 60 #[v, .int .i64 lo, .int .i64 hi] w fun e w' => e = .returned (.bool (l.all fun m => inR m lo hi)) ∧ Ext w w' := by
 have hrd := hv
 obtain ⟨a, c, rfl, hn, hc, _⟩ := hv.ints
 unfold maxLen at hc
 have HA := Lib.hid (any_not_all l fun m => inR m lo hi)
 go_enter Tryz.func60, Tryz.ntmps60
 go_wp2_with (fail)
 change Calls _ _ _ ((w.alloc (.cells #[.int .i64 lo] 3)).alloc (.cells #[.int .i64 hi] 3)) _
 have hb : Below w.heap.size w ((w.alloc (.cells #[.int .i64 lo] 3)).alloc (.cells #[.int .i64 hi] 3)) := (Below.of_alloc _ _).alloc (by simp) _
 have k1 : ((w.alloc (.cells #[.int .i64 lo] 3)).alloc (.cells #[.int .i64 hi] 3)).cell? ⟨w.heap.size, 0, none⟩ = some (.int .i64 lo) := cell_below (Below.of_alloc _ _) (by rw [cell_of_heap (heap_alloc_new w _)]; rfl)
 have k2 : ((w.alloc (.cells #[.int .i64 lo] 3)).alloc (.cells #[.int .i64 hi] 3)).cell? ⟨w.heap.size + 1, 0, none⟩ = some (.int .i64 hi) := by
  have := heap_alloc_new (w.alloc (.cells #[.int .i64 lo] 3)) (.cells #[.int .i64 hi] 3)
  rw [show (w.alloc (.cells #[.int .i64 lo] 3)).heap.size = w.heap.size + 1 by simp] at this
  rw [cell_of_heap this]
  rfl
 generalize (w.alloc (.cells #[.int .i64 lo] 3)).alloc (.cells #[.int .i64 hi] 3) = W at *
 refine (ContainsFunc_any (l := l) allInEnter (fun m => !inR m lo hi) _ (hrd.below hb (Nat.le_refl _)) (fun x _ w' hw' => allInF_any x lo hi _ _ w' (cell_below hw' k1) (cell_below hw' k2))).mono ?_
 rintro e w2 ⟨rfl, hx⟩
 go_wp2
 go_ret
 exact ⟨by rw [← HA.out]; rfl, after hb hx (Nat.le_refl _)⟩
theorem isum_take_bound {l : List Int} (hm : ∀ x, x ∈ l → 0 ≤ x ∧ x ≤ 1000000000) : ∀ k : Nat, k ≤ l.length → 0 ≤ isum (l.take k) ∧ isum (l.take k) ≤ 1000000000 * (k : Int) := by
 intro k hk
 have h1 := isum_pos (l.take k) fun x hx => (hm x (List.mem_of_mem_take hx)).1
 have h2 := isum_le (l.take k) 1000000000 fun x hx => (hm x (List.mem_of_mem_take hx)).2
 rw [List.length_take, Nat.min_eq_left hk] at h2
 omega
set_option maxHeartbeats 400000 in
theorem total_any {v : Value} {l : List Int} (w : World) (hv : Rd w 1 v (Is l)) (hm : ∀ x, x ∈ l → 0 ≤ x ∧ x ≤ 1000000000) (hl : l.length ≤ 1000) :
 Calls Tryz.prog 153 #[v] w fun e w' => e = .returned (.int .i64 (isum l)) ∧ w' = w := by
 obtain ⟨a, c, rfl, hn, hc, hcell⟩ := hv.ints
 clear hv
 unfold maxLen at hc
 have HM := Lib.hid (isum_take_bound hm)
 clear hm
 go_enter Tryz.func153, Tryz.ntmps153
 go_wp2
 go_loop [3, 8] (fun s i => ∃ k : Nat, k ≤ l.length ∧ i = .int .i64 k ∧ s = .int .i64 (isum (l.take k))) (fun _ i => l.length - (intOf i).toNat)
 case atStart => exact ⟨0, Nat.zero_le _, rfl, rfl⟩
 case round =>
  obtain ⟨k, hk, rfl, rfl⟩ := hrel
  by_cases hlt : k < l.length
  ·obtain ⟨y, hy⟩ : ∃ y, l[k]? = some y := ⟨_, List.getElem?_eq_getElem hlt⟩
   obtain ⟨b, off, rfl, hC⟩ := hcell k y hy
   have hck := hC k y hy
   have hlti : (k : Int) < l.length := by omega
   have e1 := isum_take hy
   have b1 := HM.out k (by omega)
   have b2 := HM.out (k + 1) (by omega)
   have E1 := Lib.hid e1
   rw [e1] at b2
   clear hcell hC hy e1
   go_wp2
   go_round
   case rel => exact ⟨k + 1, by omega, by go_num, by rw [E1.out]⟩
   case measure => simp [intOf]; omega
  ·obtain rfl : k = l.length := by omega
   have b1 := HM.out l.length (Nat.le_refl _)
   have E1 := Lib.hid (show isum (l.take l.length) = isum l by rw [List.take_length])
   go_wp2
   go_ret
   exact ⟨by rw [← E1.out]; rfl, rfl⟩
set_option maxHeartbeats 400000 in
theorem sum_any {v : Value} {l : List Int} (w : World) (hv : Rd w 1 v (Is l)) (hm : ∀ x, x ∈ l → 0 ≤ x ∧ x ≤ 1000000000) (hl : l.length ≤ 1000) :
 Calls Tryz.prog 164 #[v] w fun e w' => e = .returned (.int .i64 (isum l)) ∧ w' = w := by
 obtain ⟨a, c, rfl, hn, hc, hcell⟩ := hv.ints
 clear hv
 unfold maxLen at hc
 have HM := Lib.hid (isum_take_bound hm)
 clear hm
 go_enter Tryz.func164, Tryz.ntmps164
 go_wp2
 go_loop [3, 4] (fun s i => ∃ k : Nat, k ≤ l.length ∧ i = .int .i64 k ∧ s = .int .i64 (isum (l.take k))) (fun _ i => l.length - (intOf i).toNat)
 case atStart => exact ⟨0, Nat.zero_le _, rfl, rfl⟩
 case round =>
  obtain ⟨k, hk, rfl, rfl⟩ := hrel
  by_cases hlt : k < l.length
  ·obtain ⟨y, hy⟩ : ∃ y, l[k]? = some y := ⟨_, List.getElem?_eq_getElem hlt⟩
   obtain ⟨b, off, rfl, hC⟩ := hcell k y hy
   have hck := hC k y hy
   have hlti : (k : Int) < l.length := by omega
   have e1 := isum_take hy
   have b1 := HM.out k (by omega)
   have b2 := HM.out (k + 1) (by omega)
   have E1 := Lib.hid e1
   rw [e1] at b2
   clear hcell hC hy e1
   go_wp2
   go_round
   case rel => exact ⟨k + 1, by omega, by go_num, by rw [E1.out]⟩
   case measure => simp [intOf]; omega
  ·obtain rfl : k = l.length := by omega
   have b1 := HM.out l.length (Nat.le_refl _)
   have E1 := Lib.hid (show isum (l.take l.length) = isum l by rw [List.take_length])
   go_wp2
   go_ret
   exact ⟨by rw [← E1.out]; rfl, rfl⟩
set_option maxHeartbeats 400000 in
theorem isNaN_any (x : Int) (w : World) : Calls Tryz.prog 183 #[.int .i64 x] w fun e w' => e = .returned (.bool false) ∧ w' = w := by
 have h : (x != x) = false := by simp
 go_enter Tryz.func183, Tryz.ntmps183
 go_wp2
 go_ret
 exact ⟨rfl, rfl⟩
def cmpI (x y : Int) : Int := if x < y then -1 else if y < x then 1 else 0
set_option maxHeartbeats 400000 in
theorem Compare_any (x y : Int) (w : World) : Calls Tryz.prog 173 #[.int .i64 x, .int .i64 y] w fun e w' => e = .returned (.int .i64 (cmpI x y)) ∧ w' = w := by
 go_enter Tryz.func173, Tryz.ntmps173
 go_wp2_with (fail)
 refine (isNaN_any _ _).mono ?_
 rintro e w2 ⟨rfl, rfl⟩
 go_wp2_with (fail)
 refine (isNaN_any _ _).mono ?_
 rintro e w2 ⟨rfl, rfl⟩
 by_cases h1 : x < y
 ·have H : Hid (cmpI x y = -1) := by show _ = _; unfold cmpI; rw [if_pos h1]
  go_wp2
  go_ret
  exact ⟨by rw [H.out]; rfl, rfl⟩
 ·by_cases h2 : y < x
  ·have H : Hid (cmpI x y = 1) := by show _ = _; unfold cmpI; rw [if_neg h1, if_pos h2]
   go_wp2
   go_ret
   exact ⟨by rw [H.out]; rfl, rfl⟩
  ·have H : Hid (cmpI x y = 0) := by show _ = _; unfold cmpI; rw [if_neg h1, if_neg h2]
   go_wp2
   go_ret
   exact ⟨by rw [H.out]; rfl, rfl⟩
theorem shareEnter (args : Array Value) (w : World) : (callFunc 172 args).run Tryz.prog w = .ok (.enter 172 args) w := by
 kernel_rfl
set_option maxHeartbeats 400000 in
theorem shareF_any {v : Value} {s : Int} {ws : List Int} {i k : Nat} {g1 g2 g3 : Nat} (w : World) (hv : Rd w 1 v (Is ws)) (h1 : w.cell? ⟨g1, 0, none⟩ = some (.int .i64 s)) (h2 : w.cell? ⟨g2, 0, none⟩ = some v) (h3 : w.cell? ⟨g3, 0, none⟩ = some (.int .i64 (isum ws)))
 (hs : 0 ≤ s ∧ s ≤ 1000000) (hw : ∀ x, x ∈ ws → 0 ≤ x ∧ x ≤ 1000000) (hS : 0 < isum ws) (hi : i < ws.length) (hk : k < ws.length) :
 Calls Tryz.prog 172 #[.int .i64 (i : Int), .int .i64 (k : Int), .pointer (some ⟨g1, 0, none⟩), .pointer (some ⟨g2, 0, none⟩), .pointer (some ⟨g3, 0, none⟩)] w fun e w' => e = .returned (.int .i64 (cmpI (rst s ws k) (rst s ws i))) ∧ ∃ m, w' = w.drewN m := by
 obtain ⟨a, c, rfl, hn, hc, hcell⟩ := hv.ints
 unfold maxLen at hc
 obtain ⟨x, hx⟩ : ∃ x, ws[i]? = some x := ⟨_, List.getElem?_eq_getElem hi⟩
 obtain ⟨y, hy⟩ : ∃ y, ws[k]? = some y := ⟨_, List.getElem?_eq_getElem hk⟩
 obtain ⟨b, off, rfl, hC⟩ := hcell i x hx
 have ci := hC i x hx
 have ck := hC k y hy
 have bx0 := hw x (List.mem_of_getElem? hx)
 have by0 := hw y (List.mem_of_getElem? hy)
 have px0 := Int.mul_nonneg hs.1 bx0.1
 have py0 := Int.mul_nonneg hs.1 by0.1
 have px1 : s * x ≤ 1000000 * 1000000 := Int.mul_le_mul hs.2 bx0.2 bx0.1 (by omega)
 have py1 : s * y ≤ 1000000 * 1000000 := Int.mul_le_mul hs.2 by0.2 by0.1 (by omega)
 have RX : Hid (rst s ws i = s * x % isum ws) := by show _ = _; unfold rst; rw [List.getD_eq_getElem?_getD, hx]; rfl
 have RY : Hid (rst s ws k = s * y % isum ws) := by show _ = _; unfold rst; rw [List.getD_eq_getElem?_getD, hy]; rfl
 have hS0 : (isum ws == 0) = false := by simp; omega
 have hii : (i : Int) < ws.length := by omega
 have hki : (k : Int) < ws.length := by omega
 clear hcell hC hv hw hx hy
 go_enter Tryz.func172, Tryz.ntmps172
 go_wp2
 go_quiet (refine Calls.quiet_of_same (Compare_any _ _ _))
 go_wp2
 go_ret
 exact ⟨by rw [RX.out, RY.out]; rfl, _, rfl⟩
theorem own_drewN {w : World} {base size : Nat} {v : Value} {xs : List Value} (h : Own w base size v xs) (n : Nat) : Own (w.drewN n) base size v xs := h
/-! ### the insertion sort -/
def midL (r : Nat → Int) (n i j : Nat) : List Nat := (ordR r i).take j ++ i :: ((ordR r i).drop j ++ (List.range n).drop (i + 1))
theorem range_drop {n i : Nat} (hi : i < n) : (List.range n).drop i = i :: (List.range n).drop (i + 1) := by
 rw [List.drop_eq_getElem_cons (by simpa using hi)]
 simp
theorem midL_start {r : Nat → Int} {n i : Nat} (hi : i < n) : midL r n i i = ordR r i ++ (List.range n).drop i := by
 unfold midL
 rw [List.take_of_length_le (by rw [ordR_length]; exact Nat.le_refl _), List.drop_eq_nil_of_le (by rw [ordR_length]; exact Nat.le_refl _), List.nil_append, range_drop hi]
theorem midL_length {r : Nat → Int} {n i j : Nat} (hi : i < n) (hj : j ≤ i) : (midL r n i j).length = n := by
 unfold midL
 rw [List.length_append, List.length_cons, List.length_append, List.length_take, List.length_drop, List.length_drop, ordR_length, List.length_range]
 omega
theorem midL_at {r : Nat → Int} {n i j : Nat} (hj : j ≤ i) : (midL r n i j)[j]? = some i := by
 unfold midL
 rw [List.getElem?_append_right (by rw [List.length_take]; omega), List.length_take, ordR_length, Nat.min_eq_left hj, Nat.sub_self]
 rfl
theorem midL_bef {r : Nat → Int} {n i j : Nat} (hj : j < i) : (midL r n i (j + 1))[j]? = (ordR r i)[j]? := by
 unfold midL
 rw [List.getElem?_append_left (by rw [List.length_take, ordR_length]; omega), List.getElem?_take, if_pos (by omega)]
theorem midL_swap {r : Nat → Int} {n i j y : Nat} (hj : j < i) (hy : (ordR r i)[j]? = some y) : ((midL r n i (j + 1)).set (j + 1) y).set j i = midL r n i j := by
 obtain ⟨h1, h2⟩ := List.getElem?_eq_some_iff.1 hy
 have e1 : (ordR r i).take (j + 1) = (ordR r i).take j ++ [y] := by rw [List.take_add_one, hy]; rfl
 have e2 : (ordR r i).drop j = y :: (ordR r i).drop (j + 1) := by rw [List.drop_eq_getElem_cons h1, h2]
 have hl : ((ordR r i).take j).length = j := by rw [List.length_take, ordR_length]; omega
 unfold midL
 rw [e1, e2]
 generalize (ordR r i).drop (j + 1) = B at *
 generalize (ordR r i).take j = A at *
 subst hl
 simp
theorem midL_done {r : Nat → Int} {n i j : Nat} (hj : j ≤ i) (hd : ∀ y, y ∈ (ordR r i).drop j → r y < r i) (h0 : j = 0 ∨ ∃ y, (ordR r i)[j - 1]? = some y ∧ r i ≤ r y) : midL r n i j = ordR r (i + 1) ++ (List.range n).drop (i + 1) := by
 have h := insR_at (r := r) (x := i) (j := j) (l := ordR r i) (ordR_sorted r i) (by rw [ordR_length]; exact hj) hd h0
 unfold midL
 conv => rhs; unfold ordR
 rw [h, List.append_assoc]
 rfl
theorem ni_get {l : List Nat} {j x : Nat} (h : l[j]? = some x) : (ni l)[j]? = some (x : Int) := by simp [ni, h]
theorem Is_ni_set (l : List Nat) (j x : Nat) : (Is (ni l)).set j (.int .i64 (x : Int)) = Is (ni (l.set j x)) := by
 simp [Is, ni, List.map_set]
theorem cmpI_neg {x y : Int} : cmpI x y < 0 ↔ x < y := by
 unfold cmpI
 split
 ·omega
 ·split <;> omega
set_option maxRecDepth 100000 in
set_option maxHeartbeats 1600000 in
theorem insSort_any {base n : Nat} {v c1 c2 c3 : Value} {N : Nat} (hN : ∀ args w', (callFunc N args).run Tryz.prog w' = .ok (.enter N args) w') (r : Nat → Int) (w : World) (ho : Own w base 1 v (Is (ni (List.range n)))) (hn : n ≤ 8)
 (hf : ∀ i j : Nat, i < n → j < n → ∀ w', Below base w w' → Calls Tryz.prog N #[.int .i64 (i : Int), .int .i64 (j : Int), c1, c2, c3] w' fun e w'' => e = .returned (.int .i64 (cmpI (r j) (r i))) ∧ ∃ m, w'' = w'.drewN m) :
 Calls Tryz.prog 188 #[v, .int .i64 0, .int .i64 (n : Int), .func (.func N) #[] #[c1, c2, c3]] w fun e w' => e = .returned (.tuple #[]) ∧ Own w' base 1 v (Is (ni (ordR r n))) ∧ Below base w w' ∧ (∀ q, blk v = some q → ∀ k, k ≠ q → w'.heap[k]? = w.heap[k]?) := by
 obtain ⟨a, c, rfl, hnc, hc, _⟩ := ho.rd.ints
 simp only [ni_length, List.length_range] at *
 unfold maxLen at hc
 have HF := Lib.hid hf
 clear hf
 by_cases hn0 : n = 0
 ·subst hn0
  go_enter Tryz.func188, Tryz.ntmps188
  go_wp2
  go_loopw [8] (fun i wr => i = .int .i64 1 ∧ wr = w) (fun _ _ => 0)
  case atStart => exact ⟨by go_num, rfl⟩
  case round =>
   obtain ⟨rfl, rfl⟩ := hrel
   go_wp2
   go_end0
   exact ⟨rfl, ho, Below.refl _ _, fun _ _ _ _ => rfl⟩
 go_enter Tryz.func188, Tryz.ntmps188
 go_wp2
 go_loopw [8] (fun i wr => ∃ k : Nat, 1 ≤ k ∧ k ≤ n ∧ i = .int .i64 k ∧ Own wr base 1 (.slice a n c) (Is (ni (ordR r k ++ (List.range n).drop k))) ∧ Below base w wr ∧ (∀ q, blk (.slice a n c) = some q → ∀ k, k ≠ q → wr.heap[k]? = w.heap[k]?)) (fun i _ => n - (intOf i).toNat)
 case atStart =>
  refine ⟨1, Nat.le_refl _, by omega, by go_num, ?_, Below.refl _ _, fun _ _ _ _ => rfl⟩
  have e : ordR r 1 ++ (List.range n).drop 1 = List.range n := by
   have := range_drop (n := n) (i := 0) (by omega)
   rw [List.drop_zero] at this
   rw [this]
   rfl
  rw [e]
  exact ho
 case round =>
  obtain ⟨k, hk1, hkn, rfl, hok, hb, hfr⟩ := hrel
  by_cases hlt : k < n
  ·rw [← midL_start hlt] at hok
   have hlt' : (k : Int) < n := by omega
   go_wp2
   go_loopw [9] (fun j wr => ∃ j' : Nat, j' ≤ k ∧ j = .int .i64 j' ∧ Own wr base 1 (.slice a n c) (Is (ni (midL r n k j'))) ∧ Below base w wr ∧ (∀ q, blk (.slice a n c) = some q → ∀ k, k ≠ q → wr.heap[k]? = w.heap[k]?) ∧ Hid (∀ y, y ∈ (ordR r k).drop j' → r y < r k)) (fun j _ => (intOf j).toNat)
   case atStart => exact ⟨k, Nat.le_refl _, rfl, hok, hb, hfr, fun y hy => by rw [List.drop_eq_nil_of_le (by rw [ordR_length]; exact Nat.le_refl _)] at hy; cases hy⟩
   case round =>
    clear hok hb hfr
    obtain ⟨j, hjk, rfl, hok, hb, hfr, hd⟩ := hrel
    by_cases hj0 : j = 0
    ·subst hj0
     have Hdone := Lib.hid (midL_done (n := n) (Nat.zero_le _) hd.out (.inl rfl))
     go_wp2
     go_quiet (fail)
     go_wp2
     go_roundw
     case rel => exact ⟨k + 1, by omega, by omega, by go_num, by rw [← Hdone.out]; exact own_drewN hok _, below_drewN hb _, fun q hq p hp => hfr q hq p hp⟩
     case measure => simp [intOf]; omega
    ·obtain ⟨j, rfl⟩ : ∃ m, j = m + 1 := ⟨j - 1, by omega⟩
     obtain ⟨y, hy⟩ : ∃ y, (ordR r k)[j]? = some y := ⟨_, List.getElem?_eq_getElem (by rw [ordR_length]; omega)⟩
     have hyk : y < k := ordR_mem.1 (List.mem_of_getElem? hy)
     have hmy : (midL r n k (j + 1))[j]? = some y := by rw [midL_bef (by omega)]; exact hy
     have hmk := midL_at (r := r) (n := n) hjk
     have hml := midL_length (r := r) hlt hjk
     have hswap := Lib.hid (midL_swap (n := n) (by omega) hy)
     obtain ⟨b, off, n', c', e, _, hbk, hbb, hbs, hcell, hfz, hset⟩ := hok.cells (by
      intro h
      have := congrArg List.length h
      rw [Is_length, ni_length, hml, List.length_nil] at this
      omega)
     simp only [Value.slice.injEq] at e
     obtain ⟨rfl, rfl, rfl⟩ := e
     have c1' := hcell (j + 1) _ (Is_get (ni_get hmk))
     have c2' := hcell j _ (Is_get (ni_get hmy))
     have HC := fun m => HF.out k y hlt (by omega) (wr.drewN m) (below_drewN hb m)
     have jw : IntKind.i64.wrap (j : Int) = (j : Int) := by rw [IntKind.wrap_i64]; omega
     have jz : (j : Int) + 1 < n := by omega
     have jz1 : (j : Int) < n := by omega
     have e0 : ((j : Int) + 1).toNat = j + 1 := by omega
     have Hy := Lib.hid hy
     clear hy
     by_cases hr : r y < r k
     ·have hlt0 : cmpI (r y) (r k) < 0 := cmpI_neg.2 hr
      go_wp2
      go_quiet (refine Calls.quiet_of (HC _))
      have c1q : (wr.drewN nq).cell? ⟨b, off + (j + 1), none⟩ = some (.int .i64 (k : Int)) := c1'
      have c2q : (wr.drewN nq).cell? ⟨b, off + j, none⟩ = some (.int .i64 (y : Int)) := c2'
      have hokq := own_drewN hok nq
      have hbq := below_drewN hb nq
      have hfrq : ∀ q, blk (.slice (some ⟨b, off, none⟩) n c) = some q → ∀ k, k ≠ q → (wr.drewN nq).heap[k]? = w.heap[k]? := hfr
      have hbsq : b < (wr.drewN nq).heap.size := hbs
      have f1 : (wr.drewN nq).frozen? ⟨b, off + (j + 1), none⟩ = false := hfz (j + 1)
      have f2 : (wr.drewN nq).frozen? ⟨b, off + j, none⟩ = false := hfz j
      clear c1' c2' hok hb hfr hbs hfz hcell hset HC hlt0
      generalize wr.drewN nq = wq at *
      obtain ⟨b', off', n', c', e', _, _, _, _, _, _, hset⟩ := hokq.cells (by
       intro h
       have := congrArg List.length h
       rw [Is_length, ni_length, hml, List.length_nil] at this
       omega)
      simp only [Value.slice.injEq, Option.some.injEq, Addr.mk.injEq] at e'
      obtain ⟨⟨rfl, rfl, _⟩, rfl, rfl⟩ := e'
      have s1 := hset (j + 1) (.int .i64 (y : Int)) (by rw [Is_length, ni_length, hml]; omega)
      obtain ⟨b', off', n'', c'', e', _, _, _, _, _, _, hset2⟩ := s1.cells (by
       intro h
       have := congrArg List.length h
       rw [List.length_set, Is_length, ni_length, hml, List.length_nil] at this
       omega)
      simp only [Value.slice.injEq, Option.some.injEq, Addr.mk.injEq] at e'
      obtain ⟨⟨rfl, rfl, _⟩, rfl, rfl⟩ := e'
      have s2 := hset2 j (.int .i64 (k : Int)) (by rw [List.length_set, Is_length, ni_length, hml]; omega)
      rw [Is_ni_set, Is_ni_set, hswap.out] at s2
      clear hset hset2 s1 hmy hmk
      go_wp2
      go_region
      go_wp2
      go_roundw
      case rel =>
       refine ⟨j, by omega, by go_num, s2, ((hbq.setCell (p := ⟨b, off + (j + 1), none⟩) hbb _).setCell (p := ⟨b, off + j, none⟩) hbb _).drew, ?_, ?_⟩
       ·intro q hq p hp
        have hpb : p ≠ b := by
         intro e
         subst e
         rw [hbk] at hq
         cases hq
         exact hp rfl
        show ((wq.setCell _ _).setCell _ _).heap[p]? = _
        rw [Below.heap_setCell _ _ _ _ hpb, Below.heap_setCell _ _ _ _ hpb]
        exact hfrq q hq p hp
       ·intro z hz
        have e2 : (ordR r k).drop j = y :: (ordR r k).drop (j + 1) := by
         obtain ⟨h1, h2⟩ := List.getElem?_eq_some_iff.1 Hy.out
         rw [List.drop_eq_getElem_cons h1, h2]
        rw [e2] at hz
        rcases List.mem_cons.1 hz with rfl | hz
        ·exact hr
        ·exact hd.out z hz
      case measure => simp [intOf]
     ·have hlt0 : ¬ cmpI (r y) (r k) < 0 := fun h => hr (cmpI_neg.1 h)
      have Hdone := Lib.hid (midL_done (n := n) hjk hd.out (.inr ⟨y, by simpa using Hy.out, by omega⟩))
      clear hr
      go_wp2
      go_quiet (refine Calls.quiet_of (HC _))
      go_wp2
      go_roundw
      case rel => exact ⟨k + 1, by omega, by omega, by go_num, by rw [← Hdone.out]; exact own_drewN hok _, below_drewN hb _, fun q hq p hp => hfr q hq p hp⟩
      case measure => simp [intOf]; omega
  ·obtain rfl : k = n := by omega
   go_wp2
   go_end0
   rw [List.drop_eq_nil_of_le (by simp), List.append_nil] at hok
   exact ⟨rfl, hok, hb, hfr⟩
set_option maxHeartbeats 1600000 in
theorem stable_any {base n : Nat} {v c1 c2 c3 : Value} {N : Nat} (hN : ∀ args w', (callFunc N args).run Tryz.prog w' = .ok (.enter N args) w') (r : Nat → Int) (w : World) (ho : Own w base 1 v (Is (ni (List.range n)))) (hn : n ≤ 8)
 (hf : ∀ i j : Nat, i < n → j < n → ∀ w', Below base w w' → Calls Tryz.prog N #[.int .i64 (i : Int), .int .i64 (j : Int), c1, c2, c3] w' fun e w'' => e = .returned (.int .i64 (cmpI (r j) (r i))) ∧ ∃ m, w'' = w'.drewN m) :
 Calls Tryz.prog 182 #[v, .int .i64 (n : Int), .func (.func N) #[] #[c1, c2, c3]] w fun e w' => e = .returned (.tuple #[]) ∧ Own w' base 1 v (Is (ni (ordR r n))) ∧ Below base w w' ∧ (∀ q, blk v = some q → ∀ k, k ≠ q → w'.heap[k]? = w.heap[k]?) := by
 have h20 : ¬ (20 : Int) ≤ n := by omega
 have h20' : ¬ (20 : Int) < n := by omega
 go_enter Tryz.func182, Tryz.ntmps182
 go_wp2
 go_loopw [7, 8] (fun a b wr => a = .int .i64 0 ∧ b = .int .i64 20 ∧ wr = w) (fun _ _ _ => 0)
 case atStart => exact ⟨rfl, rfl, rfl⟩
 case round =>
  obtain ⟨rfl, rfl, rfl⟩ := hrel
  go_wp2_with (fail)
  refine (insSort_any hN r _ ho hn hf).mono ?_
  rintro e w2 ⟨rfl, ho2, hb2, hf2⟩
  go_wp2
  go_loopw [6] (fun a wr => a = .int .i64 20 ∧ wr = w2) (fun _ _ => 0)
  case atStart => exact ⟨rfl, rfl⟩
  case round =>
   obtain ⟨rfl, rfl⟩ := hrel
   go_wp2
   go_end0
   exact ⟨rfl, ho2, hb2, hf2⟩
set_option maxHeartbeats 400000 in
theorem SortStableFunc_any {base n : Nat} {v c1 c2 c3 : Value} {N : Nat} (hN : ∀ args w', (callFunc N args).run Tryz.prog w' = .ok (.enter N args) w') (r : Nat → Int) (w : World) (ho : Own w base 1 v (Is (ni (List.range n)))) (hn : n ≤ 8)
 (hf : ∀ i j : Nat, i < n → j < n → ∀ w', Below base w w' → Calls Tryz.prog N #[.int .i64 (i : Int), .int .i64 (j : Int), c1, c2, c3] w' fun e w'' => e = .returned (.int .i64 (cmpI (r j) (r i))) ∧ ∃ m, w'' = w'.drewN m) :
 Calls Tryz.prog 171 #[v, .func (.func N) #[] #[c1, c2, c3]] w fun e w' => e = .returned (.tuple #[]) ∧ Own w' base 1 v (Is (ni (ordR r n))) ∧ Below base w w' ∧ (∀ q, blk v = some q → ∀ k, k ≠ q → w'.heap[k]? = w.heap[k]?) := by
 obtain ⟨a, c, rfl, hnc, hc, _⟩ := ho.rd.ints
 simp only [ni_length, List.length_range] at *
 unfold maxLen at hc
 go_enter Tryz.func171, Tryz.ntmps171
 go_wp2_with (fail)
 refine (stable_any hN r _ ho hn hf).mono ?_
 rintro e w2 ⟨rfl, ho2, hb2, hf2⟩
 go_wp2
 go_end0
 exact ⟨rfl, ho2, hb2, hf2⟩
set_option maxRecDepth 100000 in
set_option maxHeartbeats 400000 in
theorem IndexFunc3_any {v c1 c2 c3 : Value} {l : List Int} {N : Nat} (hN : ∀ args w', (callFunc N args).run Tryz.prog w' = .ok (.enter N args) w') (p : Int → Bool) (w : World) (hv : Rd w 1 v (Is l))
 (hf : ∀ x, x ∈ l → ∀ w', Below w.heap.size w w' → Calls Tryz.prog N #[.int .i64 x, c1, c2, c3] w' fun e w'' => e = .returned (.bool (p x)) ∧ Ext w' w'') :
 Calls Tryz.prog 112 #[v, .func (.func N) #[] #[c1, c2, c3]] w fun e w' => ∃ r : Int, e = .returned (.int .i64 r) ∧ decide (0 ≤ r) = l.any p ∧ Ext w w' := by
 obtain ⟨a, c, rfl, hn, hc, hcell⟩ := hv.ints
 clear hv
 unfold maxLen at hc
 have HF := Lib.hid hf
 clear hf
 go_enter Tryz.func112, Tryz.ntmps112
 go_wp2
 go_loopw [8] (fun i wr => ∃ k : Nat, k ≤ l.length ∧ i = .int .i64 k ∧ (l.take k).any p = false ∧ Below w.heap.size w wr) (fun i _ => l.length - (intOf i).toNat)
 case atStart => exact ⟨0, Nat.zero_le _, rfl, by simp, Below.refl _ _⟩
 case round =>
  obtain ⟨k, hk, rfl, hx, hb⟩ := hrel
  have Hx := Lib.hid hx
  clear hx
  by_cases hlt : k < l.length
  ·obtain ⟨y, hy⟩ : ∃ y, l[k]? = some y := ⟨_, List.getElem?_eq_getElem hlt⟩
   obtain ⟨b, off, rfl, hC⟩ := hcell k y hy
   have hck := cell_below hb (hC k y hy)
   have Hy := Lib.hid hy
   clear hcell hC hy
   have hlti : (k : Int) < l.length := by omega
   by_cases hp : p y = true
   ·have HP := Lib.hid hp
    clear hp
    go_wp2_with (fail)
    refine (HF.out y (List.mem_of_getElem? Hy.out) _ hb).mono ?_
    rintro e w2 ⟨he, hx⟩
    rw [HP.out] at he
    subst he
    go_wp2
    go_ret
    refine ⟨k, rfl, ?_, after hb hx (Nat.le_refl _)⟩
    have : l.any p = true := List.any_eq_true.2 ⟨y, List.mem_of_getElem? Hy.out, HP.out⟩
    simp [this]
   ·have HP : Hid (p y = false) := by
     show _ = _
     simpa using hp
    clear hp
    go_wp2_with (fail)
    refine (HF.out y (List.mem_of_getElem? Hy.out) _ hb).mono ?_
    rintro e w2 ⟨he, hx⟩
    rw [HP.out] at he
    subst he
    go_wp2
    go_roundw
    case rel => exact ⟨k + 1, by omega, by go_num, any_take_succ Hy.out Hx.out HP.out, after hb hx (Nat.le_refl _)⟩
    case measure => simp [intOf]; omega
  ·go_wp2
   go_ret
   refine ⟨-1, rfl, ?_, hb⟩
   have := Hx.out
   rw [List.take_of_length_le (by omega)] at this
   simp [this]
set_option maxHeartbeats 400000 in
theorem ContainsFunc3_any {v c1 c2 c3 : Value} {l : List Int} {N : Nat} (hN : ∀ args w', (callFunc N args).run Tryz.prog w' = .ok (.enter N args) w') (p : Int → Bool) (w : World) (hv : Rd w 1 v (Is l))
 (hf : ∀ x, x ∈ l → ∀ w', Below w.heap.size w w' → Calls Tryz.prog N #[.int .i64 x, c1, c2, c3] w' fun e w'' => e = .returned (.bool (p x)) ∧ Ext w' w'') :
 Calls Tryz.prog 87 #[v, .func (.func N) #[] #[c1, c2, c3]] w fun e w' => e = .returned (.bool (l.any p)) ∧ Ext w w' := by
 go_enter Tryz.func87, Tryz.ntmps87
 go_wp2_with (fail)
 refine (IndexFunc3_any (l := l) hN p _ hv hf).mono ?_
 rintro e w1 ⟨r, rfl, hr, hx⟩
 have HR := Lib.hid hr
 clear hr
 go_wp2
 go_ret
 exact ⟨by rw [← HR.out]; rfl, hx⟩
end Go.Proofs.YthkkgleoikpfgaaGreatDoor
