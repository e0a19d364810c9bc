/-
  What the functions of package slices do that this program calls, at lists of ints and of boxes.
-/
import Derived.Test.YtbkhbmcoococmaaAa
import Derived.RegionTactic
namespace Go.Proofs.Ytbkhbmcoococmaa
open Go Go.RowKit
theorem el_int : EL Try.prog 31 3 (.int .i64 0) 1 8 :=
  ⟨by kernel_rfl, info_parts (by kernel_rfl), rfl, by decide, by decide⟩
set_option maxHeartbeats 400000 in
theorem Index_any {v : Value} {l : List Int} (x : Int) (w : World) (hv : Rd w 1 v (Is l)) :
    Calls Try.prog 120 #[v, .int .i64 x] w fun e w' => ∃ r : Int, e = .returned (.int .i64 r) ∧ decide (0 ≤ r) = decide (x ∈ l) ∧ w = w' := by
  obtain ⟨a, c, rfl, hn, hc, hcell⟩ := hv.ints
  clear hv
  unfold maxLen at hc
  go_enter Try.func120, Try.ntmps120
  go_wp2
  go_loop [5, 8] (fun _ i => ∃ k : Nat, k ≤ l.length ∧ i = .int .i64 k ∧ x ∉ l.take k) (fun _ i => l.length - (intOf i).toNat)
  case atStart => exact ⟨0, Nat.zero_le _, rfl, by simp⟩
  case round =>
    obtain ⟨k, hk, rfl, hx⟩ := hrel
    by_cases hlt : k < l.length
    · obtain ⟨y, hy⟩ : ∃ y, l[k]? = some y := ⟨_, List.getElem?_eq_getElem hlt⟩
      obtain ⟨b, off, rfl, hC⟩ := hcell k y hy
      have hck := hC k y hy
      have Hy := Lib.hid hy
      have Hx := Lib.hid hx
      clear hcell hC hy hx
      by_cases hxy : x = y
      · subst hxy
        go_wp2
        go_ret
        refine ⟨k, rfl, ?_, rfl⟩
        have : x ∈ l := List.mem_of_getElem? Hy.out
        simp [this]
      · have hb : (x == y) = false := by simp [hxy]
        go_wp2
        go_round
        case rel =>
          refine ⟨k + 1, by omega, by go_num, ?_⟩
          rw [List.take_add_one, Hy.out]
          simp [Hx.out, hxy]
        case measure => simp [intOf]; omega
    · go_wp2
      go_ret
      refine ⟨-1, rfl, ?_, rfl⟩
      rw [List.take_of_length_le (by omega)] at hx
      simp [hx]
set_option maxHeartbeats 400000 in
theorem Contains_any {v : Value} {l : List Int} (x : Int) (w : World) (hv : Rd w 1 v (Is l)) :
    Calls Try.prog 105 #[v, .int .i64 x] w fun e w' => e = .returned (.bool (decide (x ∈ l))) ∧ w = w' := by
  go_enter Try.func105, Try.ntmps105
  go_wp2_with (go_at_call 120; refine (Index_any x _ hv).mono ?_; rintro e w' ⟨r, rfl, hr, rfl⟩)
  go_ret
  exact ⟨rfl, rfl⟩
set_option maxHeartbeats 400000 in
theorem ClipI_x (a : Option Addr) (n c : Nat) (hn : n ≤ c) (_hc : c ≤ maxLen) (w : World) :
    Calls Try.prog 73 #[.slice a n c] w fun e w' => e = .returned (.slice a n n) ∧ w = w' := by
  unfold maxLen at _hc
  go_enter Try.func73, Try.ntmps73
  go_wp2
  go_ret
  exact ⟨rfl, rfl⟩
theorem ClipI_any {base : Nat} {v : Value} {xs : List Value} (w : World) (h : Own w base 1 v xs) :
    Calls Try.prog 73 #[v] w fun e w' => ∃ v', e = .returned v' ∧ Own w base 1 v' xs ∧ w = w' := by
  have h' := h
  obtain ⟨a, n, c, rfl, hl, hn, hc, _⟩ := h
  exact (ClipI_x a n c hn hc w).mono fun e w' ⟨he, hw⟩ => ⟨_, he, h'.clip, hw⟩
set_option maxHeartbeats 400000 in
theorem ClipB_x (a : Option Addr) (n c : Nat) (hn : n ≤ c) (_hc : c ≤ maxLen) (w : World) :
    Calls Try.prog 101 #[.slice a n c] w fun e w' => e = .returned (.slice a n n) ∧ w = w' := by
  unfold maxLen at _hc
  go_enter Try.func101, Try.ntmps101
  go_wp2
  go_ret
  exact ⟨rfl, rfl⟩
theorem ClipB_any {base : Nat} {v : Value} {xs : List Value} (w : World) (h : Own w base 9 v xs) :
    Calls Try.prog 101 #[v] w fun e w' => ∃ v', e = .returned v' ∧ Own w base 9 v' xs ∧ w = w' := by
  have h' := h
  obtain ⟨a, n, c, rfl, hl, hn, hc, _⟩ := h
  exact (ClipB_x a n c hn hc w).mono fun e w' ⟨he, hw⟩ => ⟨_, he, h'.clip, hw⟩
/-- the list behind k exchanges of slices.Reverse -/
def rv (l : List Int) (k : Nat) : List Int := (List.range l.length).map fun j => if j < k ∨ l.length - k ≤ j then l.getD (l.length - 1 - j) 0 else l.getD j 0
theorem rv_length (l : List Int) (k : Nat) : (rv l k).length = l.length := by simp [rv]
theorem rv_get (l : List Int) (k j : Nat) (h : j < l.length) : (rv l k)[j]? = some (if j < k ∨ l.length - k ≤ j then l.getD (l.length - 1 - j) 0 else l.getD j 0) := by
  simp [rv, h]
theorem rv_zero (l : List Int) : rv l 0 = l := by
  apply List.ext_getElem?
  intro j
  by_cases h : j < l.length
  · rw [rv_get l 0 j h, if_neg (by omega)]
    simp [h]
  · rw [List.getElem?_eq_none (by rw [rv_length]; omega), List.getElem?_eq_none (by omega)]
theorem rv_full (l : List Int) (k : Nat) (hk : l.length ≤ 2 * k + 1) : rv l k = l.reverse := by
  apply List.ext_getElem?
  intro j
  by_cases h : j < l.length
  · rw [rv_get l k j h, List.getElem?_reverse h]
    by_cases h2 : j < k ∨ l.length - k ≤ j
    · rw [if_pos h2]
      simp only [List.getD_eq_getElem?_getD]
      rw [List.getElem?_eq_getElem (by omega)]
      rfl
    · rw [if_neg h2]
      have : j = l.length - 1 - j := by omega
      rw [← this]
      simp only [List.getD_eq_getElem?_getD]
      rw [List.getElem?_eq_getElem h]
      rfl
  · rw [List.getElem?_eq_none (by rw [rv_length]; omega), List.getElem?_eq_none (by simp; omega)]
theorem rv_step (l : List Int) (k : Nat) (hk : 2 * k + 1 < l.length) :
    ((Is (rv l k)).set k (.int .i64 (l.getD (l.length - 1 - k) 0))).set (l.length - 1 - k) (.int .i64 (l.getD k 0)) = Is (rv l (k + 1)) := by
  apply List.ext_getElem?
  intro j
  simp only [List.getElem?_set, List.length_set, Is, List.length_map, rv_length, List.getElem?_map]
  by_cases h : j < l.length
  · rw [rv_get l k j h, rv_get l (k + 1) j h]
    by_cases h1 : l.length - 1 - k = j
    · subst h1
      rw [if_pos (by omega), if_pos (by omega), if_pos (by omega)]
      simp
      rw [show l.length - 1 - (l.length - 1 - k) = k from by omega]
    · rw [if_neg h1]
      by_cases h2 : k = j
      · subst h2
        rw [if_pos (by omega), if_pos (by omega), if_pos (by omega)]
        simp
      · rw [if_neg h2]
        by_cases h3 : j < k ∨ l.length - k ≤ j
        · rw [if_pos h3, if_pos (by omega)]
        · rw [if_neg h3, if_neg (by omega)]
  · rw [List.getElem?_eq_none (by rw [rv_length]; omega), List.getElem?_eq_none (by rw [rv_length]; omega)]
    rw [if_neg (by omega), if_neg (by omega)]
set_option maxHeartbeats 1000000 in
theorem Reverse_any {base : Nat} {v : Value} {l : List Int} (w : World) (hv : Own w base 1 v (Is l)) (hl : l.length ≤ 1048577) :
    Calls Try.prog 100 #[v] w fun e w' => e = .returned (.tuple #[]) ∧ Own w' base 1 v (Is l.reverse) ∧ Below base w w' ∧ (∀ r, blk v = some r → ∀ k, k ≠ r → w'.heap[k]? = w.heap[k]?) := by
  obtain ⟨a, c, rfl, hn, hc, hcell⟩ := hv.rd.ints
  clear hcell
  go_enter Try.func100, Try.ntmps100
  go_wp2
  go_loopw [2, 3] (fun i j wr => ∃ k : Nat, i = .int .i64 k ∧ j = .int .i64 ((l.length : Int) - 1 - k) ∧ 2 * k ≤ l.length ∧ Own wr base 1 (.slice a l.length c) (Is (rv l k)) ∧ Below base w wr ∧ (∀ r, blk (.slice a l.length c) = some r → ∀ k, k ≠ r → wr.heap[k]? = w.heap[k]?)) (fun i _ _ => l.length - (intOf i).toNat)
  case atStart => exact ⟨0, rfl, by simp, by omega, by rw [rv_zero]; exact hv, Below.refl _ _, fun _ _ _ _ => rfl⟩
  case round =>
    obtain ⟨k, rfl, rfl, hk, ho, hb, hfr⟩ := hrel
    by_cases hlt : 2 * k + 1 < l.length
    · have hne : Is (rv l k) ≠ [] := by
        intro h
        have := congrArg List.length h
        rw [Is_length, rv_length, List.length_nil] at this
        omega
      obtain ⟨b, off, n, c', e, hnl, hbk, hbb, hbs, hcell, hfz, hset⟩ := ho.cells hne
      simp only [Value.slice.injEq] at e
      obtain ⟨rfl, rfl, rfl⟩ := e
      have hc1 := hcell k _ (Is_get (rv_get l k k (by omega)))
      have hc2 := hcell (l.length - 1 - k) _ (Is_get (rv_get l k (l.length - 1 - k) (by omega)))
      rw [if_neg (by omega)] at hc1 hc2
      have hf1 := hfz k
      have hf2 := hfz (l.length - 1 - k)
      clear hcell hfz
      have e1 : ((l.length : Int) - 1 - k).toNat = l.length - 1 - k := by omega
      have b1 : (0 : Int) ≤ (l.length : Int) - 1 - k := by omega
      have b2 : (l.length : Int) - 1 - k < l.length := by omega
      have b3 : (k : Int) < l.length := by omega
      have s1 := hset k (.int .i64 (l.getD (l.length - 1 - k) 0)) (by rw [Is_length, rv_length]; omega)
      obtain ⟨b', off', n', c', e', _, _, _, _, _, _, hset2⟩ := s1.cells (by
        intro h
        have := congrArg List.length h
        rw [List.length_set, Is_length, rv_length, List.length_nil] at this
        omega)
      simp only [Value.slice.injEq, Option.some.injEq, Addr.mk.injEq] at e'
      obtain ⟨⟨rfl, rfl, _⟩, rfl, rfl⟩ := e'
      have s2 := hset2 (l.length - 1 - k) (.int .i64 (l.getD k 0)) (by rw [List.length_set, Is_length, rv_length]; omega)
      rw [rv_step l k hlt] at s2
      clear hset hset2 s1
      go_wp2
      go_region
      go_wp2
      go_roundw
      case rel =>
        refine ⟨k + 1, by go_num, ?_, by omega, s2, ((hb.setCell (p := ⟨b, off + k, none⟩) hbb _).setCell (p := ⟨b, off + (l.length - 1 - k), none⟩) hbb _).drew, ?_⟩
        · rw [show (l.length : Int) - 1 - k - 1 = (l.length : Int) - 1 - ((k + 1 : Nat) : Int) from by omega]
        · intro r hr j hj
          have hjb : j ≠ b := by
            intro e
            subst e
            rw [hbk] at hr
            cases hr
            exact hj rfl
          show ((wr.setCell _ _).setCell _ _).heap[j]? = _
          rw [Below.heap_setCell _ _ _ _ hjb, Below.heap_setCell _ _ _ _ hjb]
          exact hfr r hr j hj
      case measure => simp [intOf]; omega
    · go_wp2
      go_end0
      exact ⟨rfl, by rw [rv_full l k (by omega)] at ho; exact ho, hb, hfr⟩
end Go.Proofs.Ytbkhbmcoococmaa
namespace Go.Proofs.Ytbkhbmcoococmaa
open Go Go.RowKit
theorem up_length (l : List Bx) : ∀ (f i : Nat), (up l f i).length ≤ f
  | 0, _ => Nat.le_refl _
  | f + 1, i => by
    simp only [up, List.length_cons]
    split
    · have := up_length l f (par l i).toNat
      omega
    · simp
theorem anc_length (l : List Bx) (i : Nat) : (anc l i).length ≤ i + 1 := up_length l _ _
theorem bx_of {l : List Bx} {i : Nat} {x : Bx} (h : l[i]? = some x) : bx l i = x := by simp [bx, List.getD, h]
theorem bx_get {l : List Bx} {i : Nat} (h : i < l.length) : l[i]? = some (bx l i) := by
  rw [List.getElem?_eq_getElem h]
  simp [bx, List.getD, h]
set_option maxHeartbeats 1000000 in
theorem path_any {v : Value} {l : List Bx} {i : Nat} (w : World) (hv : Rd w 9 v (Bs l)) (hi : i < l.length) (hd : Down l i) (hl : l.length ≤ 1048577) :
    Calls Try.prog 63 #[v, .int .i64 (i : Int)] w fun e w' => ∃ v', e = .returned v' ∧ Own w' w.heap.size 1 v' (Is (ni (anc l i).reverse)) ∧ Ext w w' := by
  obtain ⟨a, c, rfl, hn, hc, hcell⟩ := hv.boxes
  obtain ⟨b, off, rfl, hbl, hC⟩ := hcell i _ (bx_get hi)
  clear hcell hv
  unfold maxLen at hc
  have hal := anc_length l i
  have HC := Lib.hid hC
  clear hC
  go_enter Try.func63, Try.ntmps63
  go_wp2
  go_loopw [1, 5] (fun a o wr => ∃ (k : Int) (done : List Nat), a = .int .i64 k ∧ k ≤ i ∧ Own wr w.heap.size 1 o (Is (ni done)) ∧ Hid (done ++ (if 0 ≤ k then anc l k.toNat else []) = anc l i) ∧ done.length ≤ i + 1 ∧ Below w.heap.size w wr) (fun a _ _ => (intOf a + 1).toNat)
  case atStart =>
    refine ⟨i, [], rfl, by omega, ?_, ?_, by simp, Below.of_alloc _ _⟩
    · exact Own.empty _ _ _ _
    · show _ = _
      simp
  case round =>
    obtain ⟨k, done, rfl, hk2, ho, hdone, hdl, hb⟩ := hrel
    by_cases hk0 : 0 ≤ k
    · obtain ⟨n, rfl⟩ := Int.eq_ofNat_of_zero_le hk0
      have hsz := hb.size
      have h1 := hd n (by omega)
      have hC1 : Cells9 wr b (off + n * 9) (bx l n) := (HC.out n _ (bx_get (by omega))).below hb hbl
      have hx := bx_get (l := l) (i := n) (by omega)
      go_wp2_with (at_builtin; refine wpList_app rfl _ _ _ rfl el_int rfl (ho.alloc _) rfl (Rd.oneAt _ _ (by simp)) (Is_one [(n : Int)]) ?hl ?hb ?hK)
      case hl => rw [Is_length, ni_length]; omega
      case hb => simp; omega
      intro v' w1 ho1 hg1 hf1
      have hb1 := below_app (hb.alloc (by omega) _) (ho.alloc _) hg1 (by simp; omega) (Nat.le_refl _)
      have hc0 := ((HC.out n _ hx).below hb1 hbl).c0
      clear ho hg1 hf1 hb hx hC1
      go_wp2
      go_roundw
      case rel =>
        have hlt := hd n (by omega)
        have hd1 := hdone.out
        rw [if_pos (by omega)] at hd1
        have hlen := congrArg List.length hd1
        rw [List.length_append] at hlen
        have hpos : 0 < (anc l n).length := by rw [anc_eq (hd.mono (by omega))]; simp
        simp only [Int.toNat_natCast] at hlen
        refine ⟨par l n, done ++ [n], rfl, by omega, ?_, ?_, ?_, hb1⟩
        · rw [ni_append, Is_append]
          exact ho1
        · show _ = _
          rw [← hd1]
          simp only [Int.toNat_natCast]
          rw [anc_eq (l := l) (i := n) (hd.mono (by omega)), List.append_assoc]
          rfl
        · rw [List.length_append, List.length_singleton]
          omega
      case measure =>
        have hlt := hd n (by omega)
        have : par l n = (bx l n).parent := rfl
        simp [intOf]
        omega
    · have hdd := hdone.out
      rw [if_neg hk0, List.append_nil] at hdd
      subst hdd
      go_wp2_with (fail)
      refine (Reverse_any _ ho (by rw [ni_length]; omega)).mono ?_
      rintro e w2 ⟨rfl, ho2, hb2, _⟩
      clear ho
      go_wp2_with (fail)
      refine (ClipI_any _ ho2).mono ?_
      rintro e w3 ⟨v3, rfl, ho3, rfl⟩
      go_wp2
      go_ret
      exact ⟨_, rfl, by rw [ni_reverse]; exact ho3, hb.trans hb2⟩
theorem path_int {v : Value} {l : List Bx} {i : Int} (w : World) (h0 : 0 ≤ i) (hi : i < l.length) (hv : Rd w 9 v (Bs l)) (hd : Down l i.toNat) (hl : l.length ≤ 1048577) :
    Calls Try.prog 63 #[v, .int .i64 i] w fun e w' => ∃ v', e = .returned v' ∧ Own w' w.heap.size 1 v' (Is (ni (anc l i.toNat).reverse)) ∧ Ext w w' := by
  obtain ⟨n, rfl⟩ := Int.eq_ofNat_of_zero_le h0
  exact path_any w hv (by omega) hd hl
set_option maxHeartbeats 1000000 in
theorem kids_any {v : Value} {l : List Bx} (i : Int) (w : World) (hv : Rd w 9 v (Bs l)) (hl : l.length ≤ 1048577) :
    Calls Try.prog 53 #[v, .int .i64 i] w fun e w' => ∃ v', e = .returned v' ∧ Own w' w.heap.size 1 v' (Is (ni (kid l i))) ∧ Ext w w' := by
  obtain ⟨a, c, rfl, hn, hc, hcell⟩ := hv.boxes
  unfold maxLen at hc
  have HC := Lib.hid hcell
  clear hcell hv
  go_enter Try.func53, Try.ntmps53
  go_wp2
  go_loopw [5, 11] (fun o i' wr => ∃ k : Nat, k ≤ l.length ∧ i' = .int .i64 k ∧ Own wr w.heap.size 1 o (Is (ni (kidTo l i k))) ∧ Below w.heap.size w wr) (fun _ i' _ => l.length - (intOf i').toNat)
  case atStart => exact ⟨0, by omega, rfl, Own.empty _ _ _ _, Below.of_alloc _ _⟩
  case round =>
    obtain ⟨k, hk, rfl, ho, hb⟩ := hrel
    by_cases hlt : k < l.length
    · obtain ⟨b, off, rfl, hbl, hC⟩ := HC.out k _ (bx_get hlt)
      obtain ⟨c0, c1, c2, c3, c4, c5, c6, c7, c8⟩ := (hC k _ (bx_get hlt)).below hb hbl
      clear hC
      have hsz := hb.size
      have hkl := kidTo_length l i k
      have Hs := Lib.hid (kidTo_succ l i k)
      by_cases hp : par l k = i
      · have hp' : ((bx l k).parent == i) = true := by simpa [par] using hp
        have Hp := Lib.hid hp
        clear hp
        go_wp2_with (at_builtin; refine wpList_app rfl _ _ _ rfl el_int rfl ((ho.alloc _).alloc _) rfl (Rd.oneAt _ _ (by simp)) (Is_one [(k : Int)]) ?hl ?hb ?hK)
        case hl => rw [Is_length, ni_length]; omega
        case hb => simp; omega
        intro v' w1 ho1 hg1 hf1
        have hb1 := below_app ((hb.alloc (by omega) _).alloc (by simp; omega) _) ((ho.alloc _).alloc _) hg1 (by simp; omega) (Nat.le_refl _)
        clear ho hg1 hf1 hb
        go_wp2
        go_roundw
        case rel =>
          refine ⟨k + 1, by omega, by go_num, ?_, hb1⟩
          rw [Hs.out, if_pos Hp.out, ni_append, Is_append]
          exact ho1
        case measure => simp [intOf]; omega
      · have hp' : ((bx l k).parent == i) = false := by simpa [par] using hp
        have Hp := Lib.hid hp
        clear hp
        go_wp2
        go_roundw
        case rel =>
          refine ⟨k + 1, by omega, by go_num, ?_, hb.alloc (by omega) _⟩
          rw [Hs.out, if_neg Hp.out, List.append_nil]
          exact ho.alloc _
        case measure => simp [intOf]; omega
    · obtain rfl : k = l.length := by omega
      go_wp2_with (fail)
      refine (ClipI_any _ ho).mono ?_
      rintro e w3 ⟨v3, rfl, ho3, rfl⟩
      go_wp2
      go_ret
      exact ⟨_, rfl, ho3, hb⟩
end Go.Proofs.Ytbkhbmcoococmaa
namespace Go.Proofs.Ytbkhbmcoococmaa
open Go Go.RowKit
theorem keepE {k : Nat} {o : Obj} {w w' : World} (h : Keep k o w) (hx : Ext w w') : Keep k o w' := by
  unfold Keep
  rw [hx.block _ h.lt]
  exact h
theorem cells_at {w : World} {b off c : Nat} {l : List Bx} {i : Nat} (hi : i < l.length) (h : Rd w 9 (.slice (some ⟨b, off, none⟩) l.length c) (Bs l)) : Cells9 w b (off + i * 9) (bx l i) := by
  obtain ⟨a', c', e', _, _, hC⟩ := h.boxes
  cases e'
  obtain ⟨b', off', e', _, hC⟩ := hC i _ (bx_get hi)
  cases e'
  exact hC i _ (bx_get hi)
theorem rd_addr {w : World} {v : Value} {l : List Bx} {i : Nat} (hi : i < l.length) (h : Rd w 9 v (Bs l)) : ∃ b off c, v = .slice (some ⟨b, off, none⟩) l.length c ∧ l.length ≤ c ∧ c ≤ 9223372036854775807 := by
  obtain ⟨a, c, rfl, hn, hc, hC⟩ := h.boxes
  unfold maxLen at hc
  obtain ⟨b, off, rfl, _⟩ := hC i _ (bx_get hi)
  exact ⟨b, off, c, rfl, hn, hc⟩
end Go.Proofs.Ytbkhbmcoococmaa
