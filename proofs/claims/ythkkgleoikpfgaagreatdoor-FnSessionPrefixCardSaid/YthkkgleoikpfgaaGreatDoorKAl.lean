/-
  Parts of the proof: SAdd.
-/
import Derived.Test.YthkkgleoikpfgaaGreatDoorKAe
import Derived.Test.YthkkgleoikpfgaaGreatDoorKAd
import Derived.Deep.DeepCutAuto
import Derived.StillTailTactics
import Derived.Deep.RegionLaw
namespace Go.Proofs.YthkkgleoikpfgaaGreatDoor
open Go Go.RowKit
def bump (e : Nat) (y : Bx) : Bx := y.at (y.parent + (if (e : Int) ≤ y.parent then 1 else 0))
def addL (l : List Bx) (a : Nat) (x : Bx) : List Bx := (l.take (a + cntS l a) ++ [x.at a]) ++ (l.drop (a + cntS l a)).map (bump (a + cntS l a))
def addTo (l : List Bx) (a : Nat) (x : Bx) (k : Nat) : List Bx := (l.take (a + cntS l a) ++ [x.at a]) ++ ((l.take k).drop (a + cntS l a)).map (bump (a + cntS l a))
theorem addTo_start (l : List Bx) (a : Nat) (x : Bx) : addTo l a x (a + cntS l a) = l.take (a + cntS l a) ++ [x.at a] := by
 unfold addTo
 rw [List.drop_eq_nil_of_le (by rw [List.length_take]; omega)]
 simp
theorem addTo_full (l : List Bx) (a : Nat) (x : Bx) : addTo l a x l.length = addL l a x := by
 unfold addTo addL
 rw [List.take_of_length_le (Nat.le_refl _)]
theorem addTo_succ {l : List Bx} {a k : Nat} {x y : Bx} (hk : a + cntS l a ≤ k) (hy : l[k]? = some y) : addTo l a x (k + 1) = addTo l a x k ++ [bump (a + cntS l a) y] := by
 have hkl := (List.getElem?_eq_some_iff.1 hy).1
 unfold addTo
 rw [List.take_add_one, hy, List.drop_append_of_le_length (by rw [List.length_take]; omega)]
 simp
theorem addTo_length (l : List Bx) (a k : Nat) (x : Bx) : (addTo l a x k).length ≤ l.length + 1 := by
 unfold addTo
 simp only [List.length_append, List.length_take, List.length_singleton, List.length_map, List.length_drop]
 omega
def addOk (l : List Bx) (i : Int) (x : Bx) : Bool := inB l i && vldB (addL l i.toNat x)
/-- what every world of the drawn region keeps -/
def S3 (w W : World) (y : Bx) (w' : World) : Prop := Below w.heap.size w w' ∧ W.heap.size ≤ w'.heap.size ∧ Cells9 w' w.heap.size 0 y
theorem S3.ext {w W w1 w2 : World} {y : Bx} (h : S3 w W y w1) (hlt : w.heap.size < W.heap.size) (hx : Ext w1 w2) : S3 w W y w2 :=
 ⟨after h.1 hx (Nat.le_refl _), Nat.le_trans h.2.1 hx.size, h.2.2.below hx (by have := h.2.1; omega)⟩
theorem S3.alloc {w W w1 : World} {y : Bx} (h : S3 w W y w1) (hlt : w.heap.size < W.heap.size) (o : Obj) : S3 w W y (w1.alloc o) := h.ext hlt (Below.of_alloc _ _)
/-- an append onto an empty slice turns no old block -/
theorem ext_app0 {w w' : World} {a : Option Addr} {n : Nat} (hg : w.grownBy w' (blk (.slice a n 0))) : Ext w w' := by
 have : blk (.slice a n 0) = none := by cases a <;> simp [blk]
 rw [this] at hg
 exact ⟨hg.os, hg.tape, hg.output, hg.size, fun k hk => hg.block k hk (by simp)⟩
theorem Valid.parLt {l : List Bx} (h : Valid l) {k : Nat} (hk : k < l.length) : -1 ≤ (bx l k).parent ∧ (bx l k).parent < 16 := by
 have h16 := h.hi
 rcases Nat.eq_zero_or_pos k with h0 | h0
 ·subst h0
  have h1 : (bx l 0).parent = -1 := h.root
  omega
 ·have h1 : 0 ≤ (bx l k).parent ∧ (bx l k).parent < k ∧ _ := h.par k h0 hk
  omega
theorem Cells9.kept {w w' : World} {b o : Nat} {x : Bx} (h : Cells9 w b o x) (hb : w'.heap[b]? = w.heap[b]?) : Cells9 w' b o x := by
 obtain ⟨h0, h1, h2, h3, h4, h5, h6, h7, h8⟩ := h
 constructor <;> (rw [World.cell?_of_block hb]; assumption)
theorem S3.app {w W w1 w2 : World} {y : Bx} {size : Nat} {v : Value} {xs : List Value} (h : S3 w W y w1) (hlt : w.heap.size < W.heap.size) (ho : Own w1 (w.heap.size + 1) size v xs) (hg : w1.grownBy w2 (blk v)) : S3 w W y w2 :=
 ⟨below_app h.1 ho hg h.1.size (by omega), Nat.le_trans h.2.1 hg.size, h.2.2.kept (hg.block _ (by have := h.2.1; omega) (fun e => by have := (ho.lt _ e.symm).1; omega))⟩
set_option maxRecDepth 100000 in
set_option maxHeartbeats 2000000 in
theorem sAddBox_any {v : Value} {l : List Bx} (i : Int) (x : Bx) (w : World) (hv : Rd w 9 v (Bs l)) (hl : l.length ≤ 1048576) :
 Calls Tryz.prog 67 #[v, .int .i64 i, x.agg] w fun e w' => ∃ v', e = .returned (.tuple #[v', .bool (addOk l i x)]) ∧ Own w' w.heap.size 9 v' (Bs (orNo (addOk l i x) (addL l i.toNat x))) ∧ Ext w w' := by
 have hrd := hv
 obtain ⟨a, c, rfl, hn, hc, hcell⟩ := hv.boxes
 unfold maxLen at hc
 unfold Bx.agg
 have HC := Lib.hid hcell
 clear hcell hv
 by_cases h : inB l i = true
 ·obtain ⟨hval, h0, hi⟩ := inB_iff.1 h
  have hvb : vldB l = true := vldB_iff.2 hval
  have hin : inR i 0 ((l.length : Int) - 1) = true := by rw [inR_iff]; omega
  obtain ⟨i, rfl⟩ := Int.eq_ofNat_of_zero_le h0
  have hcl := cntS_le l i
  have hci : i + cntS l i ≤ l.length := by omega
  have hi' : i < l.length := by omega
  have hll := hval.hi
  have Hv := Lib.hid hval
  have H := Lib.hid h
  obtain ⟨b, off, rfl, hbl, _⟩ := HC.out i _ (bx_get hi')
  have hcells : Hid (∀ (w' : World), Below w.heap.size w w' → Rd w' 9 (.slice (some ⟨b, off, none⟩) (i + cntS l i) c) (Bs (l.take (i + cntS l i)))) := fun w' hw' => by
   obtain ⟨a', n', c', e', hl', hn', hc', hx⟩ := hrd.below hw' (Nat.le_refl _)
   cases e'
   refine ⟨_, _, _, rfl, by rw [Bs_length, List.length_take]; rw [Nat.min_eq_left (by omega)], by omega, hc', ?_⟩
   right
   rcases hx with hx | ⟨b', off', e', hx⟩
   ·have := congrArg List.length hx
    rw [Bs_length, List.length_nil] at this
    omega
   ·cases e'
    refine ⟨b, off, rfl, fun j y hj => hx j y ?_⟩
    have : Bs l = Bs (l.take (i + cntS l i)) ++ Bs (l.drop (i + cntS l i)) := by rw [← Bs_append, List.take_append_drop]
    rw [this, List.getElem?_append_left (List.getElem?_eq_some_iff.1 hj).1]
    exact hj
  clear h hval
  go_enter Tryz.func67, Tryz.ntmps67
  go_wp2_with (fail)
  refine (validTree_any (l := l) _ (hrd.alloc _) (by omega)).mono ?_
  rintro e w1 ⟨he, hx1⟩
  rw [hvb] at he
  subst he
  have hb1 := after (Below.of_alloc w _) hx1 (Nat.le_refl _)
  have hB : Keep w.heap.size (.cells x.arr 39) w1 := by
   show w1.heap[w.heap.size]? = _
   rw [hx1.block _ (by simp)]
   exact heap_alloc_new w _
  clear hx1
  go_wp2_with (fail)
  refine (inRange_any _ _ _ _).mono ?_
  rintro e w2 ⟨he, rfl⟩
  rw [hin] at he
  subst he
  go_wp2_with (fail)
  refine (scount_any (l := l) (a := (i : Int)) _ (by omega) (by omega) (hrd.below hb1 (Nat.le_refl _)) Hv.out).mono ?_
  rintro e w2 ⟨rfl, rfl⟩
  simp only [Int.toNat_natCast] at *
  have p0 : w1.cell? ⟨w.heap.size, 0, none⟩ = some (.int .i64 x.parent) := hB.cell 0
  have f0 : w1.frozen? ⟨w.heap.size, 0, none⟩ = false := hB.frozen 0
  have hB2 := hB.store 0 (.int .i64 (i : Int))
  have hb2 := hb1.setCell (p := ⟨w.heap.size, 0, none⟩) (Nat.le_refl _) (.int .i64 (i : Int))
  have hsz := hb1.size
  have hK3 : Cells9 (w1.setCell ⟨w.heap.size, 0, none⟩ (.int .i64 (i : Int))) w.heap.size 0 (x.at i) := cells9_of hB2
  have hszW : w.heap.size < (w1.setCell ⟨w.heap.size, 0, none⟩ (.int .i64 (i : Int))).heap.size := by have := hB.lt; simpa [World.setCell] using this
  have hce : Hid ((i : Int) + cntS l i ≤ c) := by
   show (i : Int) + cntS l i ≤ c
   omega
  clear hB hB2
  go_upto_region 5 with fail
  clear p0 f0
  generalize hW : w1.setCell ⟨w.heap.size, 0, none⟩ (.int .i64 (i : Int)) = W at *
  clear hW
  go_cut [9] (fun s9 wx => Own wx (w.heap.size + 1) 9 s9 (Bs (addTo l i x (i + cntS l i))) ∧ Below w.heap.size w wx ∧ w.heap.size + 1 ≤ wx.heap.size)
  case first =>
   refine wp_region_held_drew (S := S3 w W (x.at i)) (by kernel_rfl) ?_ (fun hS => ?_)
   ·exact ⟨hb2.drew, Nat.le_refl _, ⟨hK3.c0, hK3.c1, hK3.c2, hK3.c3, hK3.c4, hK3.c5, hK3.c6, hK3.c7, hK3.c8⟩⟩
   have hci2 : (0 : Int) ≤ (i : Int) + cntS l i := by omega
   have hci4 : ((i : Int) + cntS l i).toNat = i + cntS l i := by omega
   have hci3 : (i : Int) + cntS l i ≤ (c : Int) := hce.out
   refine hTk hS 1 31 rfl (v := ?_) ?_ ?_
   rotate_left
   ·intro w9 hS9; obtain ⟨_, _, ⟨d0, d1, d2, d3, d4, d5, d6, d7, d8⟩⟩ := hS9; go_simp; first | done | with_reducible rfl
   simp only [Act.put, lsA, ls0, ls1]
   refine hTk hS 2 32 rfl (v := ?_) ?_ ?_
   rotate_left
   ·intro w9 hS9; obtain ⟨_, _, ⟨d0, d1, d2, d3, d4, d5, d6, d7, d8⟩⟩ := hS9; go_simp; first | done | with_reducible rfl
   simp only [Act.put, lsA, ls0, ls1]
   refine hTk hS 3 33 rfl (v := ?_) ?_ ?_
   rotate_left
   ·intro w9 hS9; obtain ⟨_, _, ⟨d0, d1, d2, d3, d4, d5, d6, d7, d8⟩⟩ := hS9; go_simp; first | done | with_reducible rfl
   simp only [Act.put, lsA, ls0, ls1]
   refine hTk hS 5 35 rfl (v := ?_) ?_ ?_
   rotate_left
   ·intro w9 hS9; obtain ⟨_, _, ⟨d0, d1, d2, d3, d4, d5, d6, d7, d8⟩⟩ := hS9; go_simp; first | done | with_reducible rfl
   simp only [Act.put, lsA, ls0, ls1]
   clear hci2 hci3 hci4
   refine wpAnyH_ready (rs := [0, 6]) (by kernel_rfl) (by simp) ?_
   refine AllReadyH.cons (o := _) rfl (fun K9 hK9 => ?_) ?_
   ·
    go_simp
    refine hK9.out _ _ (hS.alloc hszW _) (fun hS => ?_)
    clear hK9 K9
    try simp only [Act.put, lsA, ls0, ls1]
    refine wpAnyH_ready (rs := [4, 6]) (by kernel_rfl) (by simp) ?_
    refine AllReadyH.cons (o := _) rfl (fun K9 hK9 => ?_) ?_
    ·
     refine step_app rfl _ _ _ rfl el_box rfl (Own.empty _ (w.heap.size + 1) 9 _) rfl (hcells.out _ hS.1) (Bs_one _) ?hl2 ?hb2 ?hK2
     case hl2 => have := hl; rw [Bs_length, List.length_take]; simp; omega
     case hb2 => exact Nat.le_trans (Nat.succ_le_of_lt hszW) hS.2.1
     intro v1 w1 ho1 hg1 hf1
     have hx1 := ext_app0 hg1
     refine hK9.out _ _ (hS.ext hszW hx1) (fun hS => ?_)
     clear hx1 hg1 hf1
     clear hK9 K9
     try simp only [Act.put, List.setIfInBounds_toArray]
     refine wpAnyH_ready (rs := [6]) (by kernel_rfl) (by simp) ?_
     refine AllReadyH.cons (o := _) rfl (fun K9 hK9 => ?_) ?_
     ·
      have ho1 := ho1.alloc (.cells (x.at i).arr 39)
      have hr6 : Rd (w1.alloc (.cells (x.at i).arr 39)) _ _ _ := Rd.oneAt (w := w1) (g := w1.heap.size) (x.at i).arr 39 (by first | rfl | simp)
      go_simp
      refine hK9.out _ _ (hS.alloc hszW _) (fun hS => ?_)
      clear hK9 K9
      try simp only [Act.put, lsA, ls0, ls1]
      refine wpAnyH_ready (rs := [7]) (by kernel_rfl) (by simp) ?_
      refine AllReadyH.cons (o := _) rfl (fun K9 hK9 => ?_) ?_
      ·
       refine step_app rfl _ _ _ rfl el_box rfl ho1 rfl hr6 (Bx.vals_one _) ?hl4 ?hb4 ?hK4
       case hl4 => have := hl; simp only [List.nil_append, Bs_length, List.length_take]; simp [Bx.arr]; omega
       case hb4 => exact Nat.le_trans (Nat.succ_le_of_lt hszW) hS.2.1
       intro v2 w2 ho2 hg2 hf2
       have hS2 : S3 w W (x.at i) w2 := hS.app hszW ho1 hg2
       refine hK9.out _ _ hS2 (fun hS => ?_)
       clear hS2 hg2 hf2
       clear hK9 K9
       try simp only [Act.put, List.setIfInBounds_toArray]
       refine wpAnyH_ready (rs := [8]) (by kernel_rfl) (by simp) ?_
       refine AllReadyH.cons (o := _) rfl (fun K9 hK9 => ?_) ?_
       ·
        go_simp
        refine hK9.out _ _ hS (fun hS => ?_)
        clear hK9 K9
        try simp only [Act.put, lsA, ls0, ls1]
        refine wpAnyH_done (by kernel_rfl) ?_ _
        rw [List.nil_append] at ho2
        have ho3 : Own w2 (w.heap.size + 1) 9 v2 (Bs (addTo l i x (i + cntS l i))) := by rw [addTo_start, Bs_append]; exact ho2
        have hb3 := hS.1
        go_wp2_with fail
        go_meet
        case rel => exact ⟨ho3, hb3, Nat.le_trans (Nat.succ_le_of_lt hszW) hS.2.1⟩
       exact AllReadyH.nil
      exact AllReadyH.nil
     exact AllReadyH.nil
    refine AllReadyH.cons (o := _) rfl (fun K9 hK9 => ?_) ?_
    ·
     have hr6 : Rd ((W.alloc (.cells #[] 39)).alloc (.cells (x.at i).arr 39)).drew _ _ _ := Rd.oneAt (w := (W.alloc (.cells #[] 39)).drew) (g := W.heap.size + 1) (x.at i).arr 39 (by first | rfl | simp)
     go_simp
     refine hK9.out _ _ (hS.alloc hszW _) (fun hS => ?_)
     clear hK9 K9
     try simp only [Act.put, lsA, ls0, ls1]
     refine wpAnyH_ready (rs := [4]) (by kernel_rfl) (by simp) ?_
     refine AllReadyH.cons (o := _) rfl (fun K9 hK9 => ?_) ?_
     ·
      refine step_app rfl _ _ _ rfl el_box rfl (Own.empty _ (w.heap.size + 1) 9 _) rfl (hcells.out _ hS.1) (Bs_one _) ?hl7 ?hb7 ?hK7
      case hl7 => have := hl; rw [Bs_length, List.length_take]; simp; omega
      case hb7 => exact Nat.le_trans (Nat.succ_le_of_lt hszW) hS.2.1
      intro v1 w1 ho1 hg1 hf1
      have hx1 := ext_app0 hg1
      have hr6 := hr6.below hx1 (Nat.le_refl _)
      refine hK9.out _ _ (hS.ext hszW hx1) (fun hS => ?_)
      clear hx1 hg1 hf1
      clear hK9 K9
      try simp only [Act.put, List.setIfInBounds_toArray]
      refine wpAnyH_ready (rs := [7]) (by kernel_rfl) (by simp) ?_
      refine AllReadyH.cons (o := _) rfl (fun K9 hK9 => ?_) ?_
      ·
       refine step_app rfl _ _ _ rfl el_box rfl ho1 rfl hr6 (Bx.vals_one _) ?hl8 ?hb8 ?hK8
       case hl8 => have := hl; simp only [List.nil_append, Bs_length, List.length_take]; simp [Bx.arr]; omega
       case hb8 => exact Nat.le_trans (Nat.succ_le_of_lt hszW) hS.2.1
       intro v2 w2 ho2 hg2 hf2
       have hS2 : S3 w W (x.at i) w2 := hS.app hszW ho1 hg2
       refine hK9.out _ _ hS2 (fun hS => ?_)
       clear hS2 hg2 hf2
       clear hK9 K9
       try simp only [Act.put]
       refine wpAnyH_ready (rs := [8]) (by kernel_rfl) (by simp) ?_
       refine AllReadyH.cons (o := _) rfl (fun K9 hK9 => ?_) ?_
       ·
        go_simp
        refine hK9.out _ _ hS (fun hS => ?_)
        clear hK9 K9
        try simp only [Act.put, lsA, ls0, ls1]
        refine wpAnyH_done (by kernel_rfl) ?_ _
        rw [List.nil_append] at ho2
        have ho3 : Own w2 (w.heap.size + 1) 9 v2 (Bs (addTo l i x (i + cntS l i))) := by rw [addTo_start, Bs_append]; exact ho2
        have hb3 := hS.1
        go_wp2_with fail
        go_meet
        case rel => exact ⟨ho3, hb3, Nat.le_trans (Nat.succ_le_of_lt hszW) hS.2.1⟩
       exact AllReadyH.nil
      exact AllReadyH.nil
     exact AllReadyH.nil
    exact AllReadyH.nil
   refine AllReadyH.cons (o := _) rfl (fun K9 hK9 => ?_) ?_
   ·
    have hr6 : Rd (W.alloc (.cells (x.at i).arr 39)).drew _ _ _ := Rd.oneAt (w := W.drew) (g := W.heap.size) (x.at i).arr 39 (by first | rfl | simp)
    go_simp
    refine hK9.out _ _ (hS.alloc hszW _) (fun hS => ?_)
    clear hK9 K9
    try simp only [Act.put, lsA, ls0, ls1]
    refine wpAnyH_ready (rs := [0]) (by kernel_rfl) (by simp) ?_
    refine AllReadyH.cons (o := _) rfl (fun K9 hK9 => ?_) ?_
    ·
     go_simp
     refine hK9.out _ _ (hS.alloc hszW _) (fun hS => ?_)
     have hr6 : Rd ((W.alloc (.cells (x.at i).arr 39)).alloc (.cells #[] 39)).drew _ _ _ := hr6.alloc (.cells #[] 39)
     clear hK9 K9
     try simp only [Act.put, lsA, ls0, ls1]
     refine wpAnyH_ready (rs := [4]) (by kernel_rfl) (by simp) ?_
     refine AllReadyH.cons (o := _) rfl (fun K9 hK9 => ?_) ?_
     ·
      refine step_app rfl _ _ _ rfl el_box rfl (Own.empty _ (w.heap.size + 1) 9 _) rfl (hcells.out _ hS.1) (Bs_one _) ?hl12 ?hb12 ?hK12
      case hl12 => have := hl; rw [Bs_length, List.length_take]; simp; omega
      case hb12 => exact Nat.le_trans (Nat.succ_le_of_lt hszW) hS.2.1
      intro v1 w1 ho1 hg1 hf1
      have hx1 := ext_app0 hg1
      have hr6 := hr6.below hx1 (Nat.le_refl _)
      refine hK9.out _ _ (hS.ext hszW hx1) (fun hS => ?_)
      clear hx1 hg1 hf1
      clear hK9 K9
      try simp only [Act.put, List.setIfInBounds_toArray]
      refine wpAnyH_ready (rs := [7]) (by kernel_rfl) (by simp) ?_
      refine AllReadyH.cons (o := _) rfl (fun K9 hK9 => ?_) ?_
      ·
       refine step_app rfl _ _ _ rfl el_box rfl ho1 rfl hr6 (Bx.vals_one _) ?hl13 ?hb13 ?hK13
       case hl13 => have := hl; simp only [List.nil_append, Bs_length, List.length_take]; simp [Bx.arr]; omega
       case hb13 => exact Nat.le_trans (Nat.succ_le_of_lt hszW) hS.2.1
       intro v2 w2 ho2 hg2 hf2
       have hS2 : S3 w W (x.at i) w2 := hS.app hszW ho1 hg2
       refine hK9.out _ _ hS2 (fun hS => ?_)
       clear hS2 hg2 hf2
       clear hK9 K9
       try simp only [Act.put]
       refine wpAnyH_ready (rs := [8]) (by kernel_rfl) (by simp) ?_
       refine AllReadyH.cons (o := _) rfl (fun K9 hK9 => ?_) ?_
       ·
        go_simp
        refine hK9.out _ _ hS (fun hS => ?_)
        clear hK9 K9
        try simp only [Act.put, lsA, ls0, ls1]
        refine wpAnyH_done (by kernel_rfl) ?_ _
        rw [List.nil_append] at ho2
        have ho3 : Own w2 (w.heap.size + 1) 9 v2 (Bs (addTo l i x (i + cntS l i))) := by rw [addTo_start, Bs_append]; exact ho2
        have hb3 := hS.1
        go_wp2_with fail
        go_meet
        case rel => exact ⟨ho3, hb3, Nat.le_trans (Nat.succ_le_of_lt hszW) hS.2.1⟩
       exact AllReadyH.nil
      exact AllReadyH.nil
     exact AllReadyH.nil
    exact AllReadyH.nil
   exact AllReadyH.nil
  case rest =>
   obtain ⟨ho9, hb9, hsz9⟩ := hcut
   clear hcells hK3 hb2
   go_wp2
   go_loopw [9, 10] (fun s9 n w' => ∃ k : Nat, n = .int .i64 k ∧ i + cntS l i ≤ k ∧ k ≤ l.length ∧ Own w' (w.heap.size + 1) 9 s9 (Bs (addTo l i x k)) ∧ Below w.heap.size w w' ∧ w.heap.size + 1 ≤ w'.heap.size) (fun _ n _ => l.length - (intOf n).toNat)
   case atStart => exact ⟨i + cntS l i, by simp, Nat.le_refl _, hci, ho9, hb9, hsz9⟩
   case round =>
    obtain ⟨k, rfl, hk0, hk, hok, hbk, hszk⟩ := hrel
    by_cases hlt : k < l.length
    ·obtain ⟨b', off', e', _, hC⟩ := HC.out i _ (bx_get hi')
     cases e'
     obtain ⟨c0, c1, c2, c3, c4, c5, c6, c7, c8⟩ := (hC k _ (bx_get hlt)).below hbk hbl
     clear hC
     have hlti : (k : Int) < l.length := by omega
     go_upto_region 10 with fail
     have hKW : Keep wr.heap.size (.cells (bx l k).arr 39) (wr.alloc (.cells (bx l k).arr 39)) := Keep.new _ _
     have hoW := hok.alloc (.cells (bx l k).arr 39)
     have hbW := hbk.alloc (by omega) (.cells (bx l k).arr 39)
     have hbl9 : blk u9 ≠ some wr.heap.size := fun e => by have := (hok.lt _ e).2; omega
     generalize hW9 : wr.alloc (.cells (bx l k).arr 39) = W9 at *
     change wr.alloc _ = W9 at hW9
     unfold Bx.arr at hW9
     have p0 : W9.drew.cell? ⟨wr.heap.size, 0, none⟩ = some (.int .i64 (bx l k).parent) := hKW.cell 0
     rw [hW9]
     clear hW9
     obtain ⟨t, ht, ht0, ht1⟩ : ∃ t : Int, (if decide ((i : Int) + cntS l i ≤ (bx l k).parent) = true then (1 : Int) else 0) = t ∧ 0 ≤ t ∧ t ≤ 1 := ⟨_, rfl, by split <;> omega, by split <;> omega⟩
     have hpk := Hv.out.parLt hlt
     go_still_tail 9, (by kernel_rfl)
     still_call ((toInt_any _ _).mono (by rintro e w' ⟨he, rfl⟩; rw [ht] at he; exact ⟨he, rfl⟩))
     repeat still_step
     try refine wpStill_nil ?_
     change wpList _ _ _ _ _ W9.drew
     have hK8 : Keep wr.heap.size (.cells (bx l k).arr 39) W9.drew := hKW
     have ho8 := hoW.drew
     have hb8 := hbW.drew
     clear hKW hoW hbW p0
     generalize W9.drew = W8 at *
     have hB8 : Hid (bump (i + cntS l i) (bx l k) = (bx l k).at ((bx l k).parent + t)) := by
      show _ = _
      unfold bump
      rw [← ht]
      simp
     have hl8 := hK8.lt
     have q0 : W8.cell? ⟨wr.heap.size, 0, none⟩ = some (.int .i64 (bx l k).parent) := hK8.cell 0
     have q1 : W8.cell? ⟨wr.heap.size, 1, none⟩ = some (.int .i64 (bx l k).kind) := hK8.cell 1
     have q2 : W8.cell? ⟨wr.heap.size, 2, none⟩ = some (.int .i64 (bx l k).w) := hK8.cell 2
     have q3 : W8.cell? ⟨wr.heap.size, 3, none⟩ = some (.int .i64 (bx l k).h) := hK8.cell 3
     have q4 : W8.cell? ⟨wr.heap.size, 4, none⟩ = some (.int .i64 (bx l k).pad) := hK8.cell 4
     have q5 : W8.cell? ⟨wr.heap.size, 5, none⟩ = some (.int .i64 (bx l k).gap) := hK8.cell 5
     have q6 : W8.cell? ⟨wr.heap.size, 6, none⟩ = some (.int .i64 (bx l k).grow) := hK8.cell 6
     have q7 : W8.cell? ⟨wr.heap.size, 7, none⟩ = some (.int .i64 (bx l k).shrink) := hK8.cell 7
     have q8 : W8.cell? ⟨wr.heap.size, 8, none⟩ = some (.int .i64 (bx l k).justify) := hK8.cell 8
     have f0 : W8.frozen? ⟨wr.heap.size, 0, none⟩ = false := hK8.frozen 0
     have ho7 := ho8.setOther (p := ⟨wr.heap.size, 0, none⟩) hbl9 (.int .i64 ((bx l k).parent + t))
     have hb7 := hb8.setCell (p := ⟨wr.heap.size, 0, none⟩) (by show w.heap.size ≤ wr.heap.size; omega) (.int .i64 ((bx l k).parent + t))
     have hs7 : wr.heap.size < (W8.setCell ⟨wr.heap.size, 0, none⟩ (.int .i64 ((bx l k).parent + t))).heap.size := by simpa [World.setCell] using hl8
     clear c0 c1 c2 c3 c4 c5 c6 c7 c8 ho8 hb8 hK8 ht
     go_wp2_with (at_builtin; refine wpList_app rfl _ _ _ rfl el_box rfl (ho7.alloc _) rfl (Rd.oneAt ((bx l k).at ((bx l k).parent + t)).arr 39 (by simp [World.setCell])) (Bx.vals_one _) ?hlA ?hbA ?hKA)
     case hlA => have := addTo_length l i k x; simp only [Bs_length]; simp [Bx.arr]; omega
     case hbA => simp; omega
     intro v' w1 ho1 hg1 hf1
     have hb1 := below_app (hb7.alloc (by omega) _) (ho7.alloc _) hg1 (by simp; omega) (by omega)
     go_wp2
     go_roundw
     case rel => exact ⟨k + 1, by go_num, by omega, by omega, by rw [addTo_succ hk0 (bx_get hlt), Bs_append, hB8.out]; exact ho1, hb1, by have := hg1.size; simp at this; omega⟩
     case measure => simp [intOf]; omega
    ·obtain rfl : k = l.length := by omega
     have hlti : ¬ ((l.length : Int) < l.length) := by omega
     rw [addTo_full] at hok
     have hle : (addL l i x).length ≤ 1048577 := by
      rw [← addTo_full]
      have := addTo_length l i l.length x
      omega
     have hst : Hid (addOk l (i : Int) x = vldB (addL l i x)) := by
      show _ = _
      unfold addOk
      rw [H.out]
      simp
     by_cases hv : vldB (addL l i x) = true
     ·go_wp2_with (fail)
      refine (validTree_any (l := addL l i x) _ hok.rd hle).mono ?_
      rintro e w2 ⟨he, hx2⟩
      rw [hv] at he
      subst he
      go_wp2
      go_ret2
      refine ⟨_, by rw [hst.out, hv]; rfl, ?_, after hbk hx2 (Nat.le_refl _)⟩
      rw [hst.out, hv]
      exact (hok.below hx2 (Nat.le_refl _)).weak (by omega)
     ·have hv' : vldB (addL l i x) = false := by simpa using hv
      clear hv
      go_wp2_with (fail)
      refine (validTree_any (l := addL l i x) _ hok.rd hle).mono ?_
      rintro e w2 ⟨he, hx2⟩
      rw [hv'] at he
      subst he
      go_wp2
      go_ret2
      refine ⟨_, by rw [hst.out, hv']; rfl, ?_, after hbk hx2 (Nat.le_refl _)⟩
      rw [hst.out, hv']
      exact Own.nil _ _ _
 ·have h' : inB l i = false := by simpa using h
  have hst : Hid (addOk l i x = false) := by
   show _ = _
   unfold addOk
   rw [h']
   rfl
  clear h
  by_cases hvb : vldB l = true
  ·have hin : inR i 0 ((l.length : Int) - 1) = false := by unfold inB at h'; rw [hvb] at h'; exact h'
   go_enter Tryz.func67, Tryz.ntmps67
   go_wp2_with (fail)
   refine (validTree_any (l := l) _ (hrd.alloc _) (by omega)).mono ?_
   rintro e w1 ⟨he, hx1⟩
   rw [hvb] at he
   subst he
   have hb1 := after (Below.of_alloc w _) hx1 (Nat.le_refl _)
   clear hx1
   go_wp2_with (fail)
   refine (inRange_any _ _ _ _).mono ?_
   rintro e w2 ⟨he, rfl⟩
   rw [hin] at he
   subst he
   go_wp2
   go_ret2
   refine ⟨_, by rw [hst.out]; rfl, ?_, hb1⟩
   rw [hst.out]
   exact Own.nil _ _ _
  ·have hvb' : vldB l = false := by simpa using hvb
   go_enter Tryz.func67, Tryz.ntmps67
   go_wp2_with (fail)
   refine (validTree_any (l := l) _ (hrd.alloc _) (by omega)).mono ?_
   rintro e w1 ⟨he, hx1⟩
   rw [hvb'] at he
   subst he
   have hb1 := after (Below.of_alloc w _) hx1 (Nat.le_refl _)
   clear hx1
   go_wp2
   go_ret2
   refine ⟨_, by rw [hst.out]; rfl, ?_, hb1⟩
   rw [hst.out]
   exact Own.nil _ _ _
end Go.Proofs.YthkkgleoikpfgaaGreatDoor
