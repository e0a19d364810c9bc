/-
  impl: renumbered; slices: Grow, Concat of boxes.
-/
import Derived.Test.YtckggmbmlpikhaaPart
import Derived.Lib.AppendZerosOnto
namespace Go.Proofs.Ytckggmbmlpikhaa
open Go Go.RowKit

/-- a parent that is greater by a number, from a number on -/
def bmpI (f b : Int) (y : Bx) : Bx := if f ≤ y.parent then y.at (y.parent + b) else y
/-- the first k boxes renumbered -/
def renTo (l : List Bx) (f b : Int) (k : Nat) : List Bx := (l.take k).map (bmpI f b) ++ l.drop k
theorem renTo_length (l : List Bx) (f b : Int) (k : Nat) : (renTo l f b k).length = l.length := by
  unfold renTo
  rw [List.length_append, List.length_map, List.length_take, List.length_drop]
  omega
theorem renTo_zero (l : List Bx) (f b : Int) : renTo l f b 0 = l := by simp [renTo]
theorem renTo_full (l : List Bx) (f b : Int) : renTo l f b l.length = l.map (bmpI f b) := by simp [renTo]
theorem renTo_get {l : List Bx} {f b : Int} {k j : Nat} : (renTo l f b k)[j]? = if j < k then (l[j]?).map (bmpI f b) else l[j]? := by
  unfold renTo
  rw [List.getElem?_append, List.length_map, List.length_take, List.getElem?_map, List.getElem?_take, List.getElem?_drop]
  by_cases h : j < k
  · by_cases h2 : j < l.length
    · rw [if_pos (by omega), if_pos h, if_pos h]
    · rw [if_neg (by omega), if_pos h, List.getElem?_eq_none (by omega), List.getElem?_eq_none (by omega)]
      rfl
  · rw [if_neg (by omega), if_neg h]
    by_cases h2 : k ≤ l.length
    · rw [show k + (j - min k l.length) = j by omega]
    · rw [List.getElem?_eq_none (by omega), List.getElem?_eq_none (by omega)]
theorem renTo_bx {l : List Bx} {f b : Int} {k : Nat} (hk : k < l.length) : bx (renTo l f b k) k = bx l k :=
  bx_of (by rw [renTo_get, if_neg (Nat.lt_irrefl k)]; exact bx_get hk)
theorem renTo_succ {l : List Bx} {f b : Int} {k : Nat} (hk : k < l.length) : (renTo l f b k).set k (bmpI f b (bx l k)) = renTo l f b (k + 1) := by
  apply List.ext_getElem?
  intro j
  rw [List.getElem?_set, renTo_get, renTo_get, renTo_length]
  by_cases h : k = j
  · subst h
    rw [if_pos rfl, if_pos hk, if_pos (by omega), bx_get hk]
    rfl
  · rw [if_neg h]
    by_cases h2 : j < k
    · rw [if_pos h2, if_pos (by omega)]
    · rw [if_neg h2, if_neg (by omega)]
theorem renTo_same {l : List Bx} {f b : Int} {k : Nat} (hk : k < l.length) (h : ¬ f ≤ (bx l k).parent) : renTo l f b k = renTo l f b (k + 1) := by
  rw [← renTo_succ hk]
  apply List.ext_getElem?
  intro j
  rw [List.getElem?_set]
  by_cases hj : k = j
  · subst hj
    rw [if_pos rfl, if_pos (by rw [renTo_length]; exact hk), renTo_get, if_neg (Nat.lt_irrefl k), bx_get hk]
    unfold bmpI
    rw [if_neg h]
  · rw [if_neg hj]

set_option maxRecDepth 100000 in
set_option maxHeartbeats 1000000 in
theorem renumbered_any {v : Value} {l : List Bx} (f b : Int) (w : World) (hv : Rd w 9 v (Bs l)) (hl : l.length ≤ 1048577) (hp : ∀ k, k < l.length → -100 ≤ (bx l k).parent ∧ (bx l k).parent ≤ 100) (hb1 : -100 ≤ b) (hb2 : b ≤ 100) :
    Calls Try.prog 58 #[v, .int .i64 f, .int .i64 b] w fun e w' => ∃ v', e = .returned v' ∧ Own w' w.heap.size 9 v' (Bs (l.map (bmpI f b))) ∧ Ext w w' := by
  have HP := Lib.hid hp
  have HL := Lib.hid hl
  clear hp
  go_enter Try.func58, Try.ntmps58
  go_wp2_with (fail)
  refine (CloneB_any (l := l) _ hv hl).mono ?_
  rintro e w1 ⟨v1, rfl, ho, hb⟩
  by_cases hz : l = []
  · subst hz
    obtain ⟨a1, c1, rfl, hn1, hc1, _⟩ := ho.rd.boxes
    simp only [List.length_nil] at hn1
    have hc1' : c1 ≤ maxLen := hc1
    unfold maxLen at hc1'
    clear hc1
    have HO := Lib.hid ho
    clear ho
    go_wp2
    go_loopw [13] (fun n wr => n = .int .i64 0 ∧ Own wr w.heap.size 9 (.slice a1 0 c1) (Bs []) ∧ Below w.heap.size w wr) (fun _ _ => 0)
    case atStart => exact ⟨rfl, HO.out, hb⟩
    case round =>
      obtain ⟨rfl, ho, hb⟩ := hrel
      go_wp2
      go_ret
      exact ⟨_, rfl, ho, hb⟩
  · have hlen : 0 < l.length := List.length_pos_iff.2 hz
    obtain ⟨b3, off3, n3, c3, rfl, hn3, hbk3, hbb3, hbs3, _, _, _⟩ := ho.cells (by
      intro e
      have := congrArg List.length e
      rw [Bs_length, List.length_nil] at this
      omega)
    rw [Bs_length] at hn3
    obtain rfl : n3 = l.length := by omega
    have hz2 : Hid (renTo l f b 0 = l) := renTo_zero l f b
    have hz3 : Hid (renTo l f b l.length = l.map (bmpI f b)) := renTo_full l f b
    rw [← hz2.out] at ho
    clear hv hz
    go_wp2
    go_loopw [13] (fun n wr => ∃ k : Nat, n = .int .i64 k ∧ k ≤ l.length ∧ Own wr w.heap.size 9 (.slice (some ⟨b3, off3, none⟩) l.length c3) (Bs (renTo l f b k)) ∧ Below w.heap.size w wr) (fun n _ => l.length - (intOf n).toNat)
    case atStart => exact ⟨0, rfl, Nat.zero_le _, ho, hb⟩
    case round =>
      clear ho hb
      obtain ⟨k, rfl, hk, ho, hb⟩ := hrel
      by_cases hlt : k < l.length
      · obtain ⟨hC, hF⟩ := ho.cellF (i := k) (by rw [renTo_length]; exact hlt)
        have hbx := renTo_bx (f := f) (b := b) hlt
        have c0 := hC.c0
        rw [hbx] at c0
        have f0 := hF 0
        simp only [Nat.add_zero] at f0
        obtain ⟨hp1, hp2⟩ := HP.out k hlt
        have hlti : (k : Int) < l.length := by omega
        by_cases hge : f ≤ (bx l k).parent
        · have hset := ho.set1 rfl (i := k) (f := 0) (by rw [renTo_length]; exact hlt) (by omega) (u := .int .i64 ((bx l k).parent + b)) (y := bmpI f b (bx l k)) (by
            rw [hbx]
            unfold bmpI
            rw [if_pos hge]
            rfl)
          rw [renTo_succ hlt, Nat.add_zero] at hset
          have hb2 := hb.setCell (p := ⟨b3, off3 + k * 9, none⟩) hbb3 (.int .i64 ((bx l k).parent + b))
          have hge' : decide (f ≤ (bx l k).parent) = true := by simp [hge]
          clear hC hF hbx ho hb
          generalize (bx l k).parent = p at *
          go_wp2
          go_roundw
          case rel => exact ⟨k + 1, by go_num, by omega, hset, hb2⟩
          case measure => simp [intOf]; omega
        · have hge' : decide (f ≤ (bx l k).parent) = false := by simp; omega
          have hsame := renTo_same (b := b) hlt hge
          rw [hsame] at ho
          have hge2 : (bx l k).parent < f := by omega
          clear hC hF hbx hge hsame
          generalize (bx l k).parent = p at *
          go_wp2
          go_roundw
          case rel => exact ⟨k + 1, by go_num, by omega, ho, hb⟩
          case measure => simp [intOf]; omega
      · obtain rfl : k = l.length := by omega
        rw [hz3.out] at ho
        go_wp2
        go_ret
        exact ⟨_, rfl, ho, hb⟩

set_option maxRecDepth 100000 in
set_option maxHeartbeats 1000000 in
theorem GrowB_any (n : Nat) (w : World) (hn : n ≤ 1048577) :
    Calls Try.prog 87 #[.slice none 0 0, .int .i64 n] w fun e w' => ∃ v', e = .returned v' ∧ Own w' w.heap.size 9 v' [] ∧ Ext w w' := by
  by_cases hz : n = 0
  · subst hz
    go_enter Try.func87, Try.ntmps87
    go_wp2
    go_ret
    exact ⟨_, rfl, Own.nil _ _ _, Below.refl _ _⟩
  · obtain ⟨i, hi, hz0, hsz, hby⟩ := el_box.info
    have hrz : ∀ ty, (Builtin.append_ #[24, 3] ty #[.slice none 0 0, .int .i64 (n : Int)]).run Try.prog w =
        .ok (.slice (some ⟨w.heap.size, 0, none⟩) n (grownCap w n 0 33)) (w.drew.alloc (.cells ((#[] : Array Value) ++ Builtin.zeroCells zb.agg.cells n ++ Builtin.zeroCells zb.agg.cells (grownCap w n 0 33 - n)) 33)) := fun ty => by
      have h := Lib.run_append_grow_zeros (P := Try.prog) w 24 3 ty 33 i _ .i64 .i64 el_box.und (by kernel_rfl) hi hz0 none 0 0 [] (by exact run_firstCells_none w.drew i.size 0 0 0) n (by omega) (by omega) (by omega) (by omega)
        (by rw [hby]; omega) (growslice_fits (by omega) (by rw [hby]; omega))
      simp only [Nat.zero_add] at h
      exact h
    have hG1 := grownCap_ge w n 0 33
    have hG2 : grownCap w n 0 33 ≤ 9223372036854775807 := by
      have := grownCap_le_maxLen w n 0 33 (by unfold maxLen; omega)
      unfold maxLen at this
      omega
    generalize grownCap w n 0 33 = G at *
    have hown : Own (w.drew.alloc (.cells ((#[] : Array Value) ++ Builtin.zeroCells zb.agg.cells n ++ Builtin.zeroCells zb.agg.cells (G - n)) 33)) w.heap.size 9 (.slice (some ⟨w.heap.size, 0, none⟩) 0 G) [] := by
      have h := Own.made w.drew ((#[] : Array Value) ++ Builtin.zeroCells zb.agg.cells n ++ Builtin.zeroCells zb.agg.cells (G - n)) 33 w.heap.size 9 0 G (Nat.le_refl _) (Nat.zero_le _) (by unfold maxLen; omega) (by
        have hzs : zb.agg.cells.size = 9 := rfl
        simp only [Array.size_append, size_zeroCells, hzs, List.size_toArray, List.length_nil]
        omega)
      simpa using h
    have hbel : Below w.heap.size w (w.drew.alloc (.cells ((#[] : Array Value) ++ Builtin.zeroCells zb.agg.cells n ++ Builtin.zeroCells zb.agg.cells (G - n)) 33)) := ((Below.refl w.heap.size w).drew).alloc (Nat.le_refl _) _
    generalize w.drew.alloc (.cells ((#[] : Array Value) ++ Builtin.zeroCells zb.agg.cells n ++ Builtin.zeroCells zb.agg.cells (G - n)) 33) = W1 at *
    have HR := Lib.hid hrz
    have HO := Lib.hid hown
    have HB := Lib.hid hbel
    clear hrz hi hz0 hsz hby hown hbel
    go_enter Try.func87, Try.ntmps87
    go_wp2_with (at_builtin; refine Lib.wpList_append_run _ rfl _ _ _ _ rfl _ _ rfl rfl _ _ (HR.out _) ?_)
    go_ret
    exact ⟨_, rfl, HO.out, HB.out⟩

theorem take_flat {ls : List (List Bx)} {k : Nat} {l : List Bx} (h : ls[k]? = some l) : (ls.take (k + 1)).flatten = (ls.take k).flatten ++ l := by
  rw [List.take_add_one, h]
  simp
theorem take_flat_le (ls : List (List Bx)) (k : Nat) : (ls.take k).flatten.length ≤ ls.flatten.length := by
  have h := congrArg (fun x => (List.flatten x).length) (List.take_append_drop k ls)
  simp only [List.flatten_append, List.length_append] at h
  omega

/-- how many boxes the first k lists have -/
def flen (ls : List (List Bx)) (k : Nat) : Nat := (ls.take k).flatten.length
theorem flen_succ {ls : List (List Bx)} {k : Nat} {l : List Bx} (h : ls[k]? = some l) : flen ls (k + 1) = flen ls k + l.length := by
  unfold flen
  rw [take_flat h, List.length_append]

set_option maxRecDepth 100000 in
set_option maxHeartbeats 1000000 in
theorem ConcatB_any {g n : Nat} {vs : List Value} {ls : List (List Bx)} (w : World) (hcell : ∀ (j : Nat) (x : Value), vs[j]? = some x → w.cell? ⟨g, j, none⟩ = some x) (hn : vs.length = n) (hn2 : ls.length = n) (hn3 : n ≤ 100)
    (hr : ∀ (j : Nat) (x : Value) (l : List Bx), vs[j]? = some x → ls[j]? = some l → Rd w 9 x (Bs l)) (htot : ls.flatten.length ≤ 1048576) :
    Calls Try.prog 57 #[.slice (some ⟨g, 0, none⟩) n n] w fun e w' => ∃ v', e = .returned v' ∧ Own w' w.heap.size 9 v' (Bs ls.flatten) ∧ Ext w w' := by
  have HC := Lib.hid hcell
  have HR := Lib.hid hr
  have HT : Hid (∀ k, flen ls k ≤ ls.flatten.length) := Lib.hid (fun k => take_flat_le ls k)
  have hfull : Hid ((ls.take n).flatten = ls.flatten) := by
    show _ = _
    rw [List.take_of_length_le (by omega)]
  have hfull2 : flen ls n ≤ 1048576 := Nat.le_trans (HT.out n) htot
  have HT2 := Lib.hid htot
  clear htot
  have Hn1 := Lib.hid hn
  have Hn2 := Lib.hid hn2
  clear hcell hr hn hn2
  go_enter Try.func57, Try.ntmps57
  go_wp2
  go_loop [3, 11] (fun s i => ∃ k : Nat, i = .int .i64 k ∧ k ≤ n ∧ s = .int .i64 (flen ls k : Nat)) (fun _ i => n - (intOf i).toNat)
  case atStart => exact ⟨0, rfl, Nat.zero_le _, rfl⟩
  case round =>
    obtain ⟨k, rfl, hk, rfl⟩ := hrel
    by_cases hlt : k < n
    · obtain ⟨x, hx⟩ : ∃ x, vs[k]? = some x := ⟨_, List.getElem?_eq_getElem (by have := Hn1.out; omega)⟩
      obtain ⟨l, hl⟩ : ∃ l, ls[k]? = some l := ⟨_, List.getElem?_eq_getElem (by have := Hn2.out; omega)⟩
      have hc := HC.out k x hx
      have hR := HR.out k x l hx hl
      obtain ⟨a, c, rfl, hn1, hc1, _⟩ := hR.boxes
      have hc1' : c ≤ maxLen := hc1
      unfold maxLen at hc1'
      have hs := flen_succ hl
      have ht := HT.out (k + 1)
      have ht2 := HT2.out
      have hlti : (k : Int) < n := by omega
      have HS := Lib.hid hs
      clear hR hx hl hc1
      have hAl : flen ls k + l.length ≤ 1048576 := by omega
      clear hs ht ht2
      go_wp2
      go_round
      case rel =>
        refine ⟨k + 1, ?_, by omega, ?_⟩
        · go_num
        · rw [HS.out]
          go_num
      case measure => simp [intOf]; omega
    · obtain rfl : k = n := by omega
      go_wp2_with (fail)
      refine (GrowB_any (flen ls k) _ (by omega)).mono ?_
      rintro e w1 ⟨v1, rfl, ho, hb⟩
      go_wp2
      go_loopw [6, 27] (fun s i wr => ∃ j : Nat, i = .int .i64 j ∧ j ≤ k ∧ Own wr w.heap.size 9 s (Bs (ls.take j).flatten) ∧ Below w.heap.size w wr) (fun _ i _ => k - (intOf i).toNat)
      case atStart => exact ⟨0, rfl, Nat.zero_le _, ho, hb⟩
      case round =>
        clear ho hb
        obtain ⟨j, rfl, hj, ho, hb⟩ := hrel
        by_cases hlt : j < k
        · obtain ⟨x, hx⟩ : ∃ x, vs[j]? = some x := ⟨_, List.getElem?_eq_getElem (by have := Hn1.out; omega)⟩
          obtain ⟨l, hl⟩ : ∃ l, ls[j]? = some l := ⟨_, List.getElem?_eq_getElem (by have := Hn2.out; omega)⟩
          have hc := HC.out j x hx
          have hc2 : wr.cell? ⟨g, j, none⟩ = some x := by
            rw [hb.cell (World.block_lt_of_cell? _ _ hc)]
            exact hc
          have hR := (HR.out j x l hx hl).below hb (Nat.le_refl _)
          have hflat := take_flat hl
          have HF := Lib.hid hflat
          clear hflat hc hx hl
          go_wp2_with (at_builtin; refine wpList_app rfl _ _ _ rfl el_box rfl ho rfl hR (Bs_one l) ?hl ?hb ?hK)
          case hl =>
            have := HT2.out
            have := HT.out (j + 1)
            rw [Bs_length, Bs_length]
            unfold flen at this
            rw [HF.out, List.length_append] at this
            omega
          case hb => exact hb.size
          intro v2 w2 ho2 hg2 hf2
          have hb2 := below_app hb ho hg2 hb.size (Nat.le_refl _)
          rw [← Bs_append, ← HF.out] at ho2
          go_wp2
          go_roundw
          case rel => exact ⟨j + 1, by go_num, by omega, ho2, hb2⟩
          case measure => simp [intOf]; omega
        · obtain rfl : j = k := by omega
          rw [hfull.out] at ho
          go_wp2
          go_ret
          exact ⟨_, rfl, ho, hb⟩
end Go.Proofs.Ytckggmbmlpikhaa
