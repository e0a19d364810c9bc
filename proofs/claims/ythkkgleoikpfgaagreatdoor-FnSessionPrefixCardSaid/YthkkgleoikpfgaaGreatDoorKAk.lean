/-
  Parts of the proof: SNat Share Room SShare.
-/
import Derived.Test.YthkkgleoikpfgaaGreatDoorKAe
import Derived.Deep.QuietTactic
import Derived.BigQuiet
import Derived.Test.YthkkgleoikpfgaaGreatDoorKAj
import Derived.Test.YthkkgleoikpfgaaGreatDoorKAa
import Derived.IntWalk
namespace Go.Proofs.YthkkgleoikpfgaaGreatDoor
open Go Go.RowKit
/-- along the line: what box k adds; across it -/
def mainOf (b : Bx) (s : Int × Int) : Int := if b.kind = 2 then s.1 else s.2
def crossOf (b : Bx) (s : Int × Int) : Int := if b.kind = 2 then s.2 else s.1
def alongL (b : Bx) (c : Int) (r : List (Int × Int)) : Int := r.foldl (fun a s => a + mainOf b s) c
def acrossL (b : Bx) (c : Int) (r : List (Int × Int)) : Int := r.foldl (fun a s => max a (crossOf b s)) c
def gapsOf (n : Nat) : Int := max 0 ((n : Int) - 1)
theorem foldK_line (b : Bx) : ∀ (r : List (Int × Int)) (k : Nat) (acc : Int × Int), 0 < k → foldK b k acc r = if b.kind = 2 then (alongL b (acc.1 + r.length * b.gap) r, acrossL b acc.2 r) else (acrossL b acc.1 r, alongL b (acc.2 + r.length * b.gap) r)
 | [], k, acc, _ => by simp [foldK, alongL, acrossL]
 | s :: r, k, acc, hk => by
  rw [foldK, foldK_line b r (k + 1) _ (by omega)]
  have e : ((s :: r).length : Int) * b.gap = (r.length : Int) * b.gap + b.gap := by
   rw [List.length_cons]; push_cast; rw [Int.add_mul]; omega
  rw [e]
  generalize (r.length : Int) * b.gap = g
  by_cases h2 : b.kind = 2
  ·rw [if_pos h2, if_pos h2, addK_row h2, if_neg (by omega)]
   simp only [alongL, acrossL, List.foldl_cons, mainOf, crossOf, if_pos h2]
   congr 2
   omega
  ·rw [if_neg h2, if_neg h2, addK_col h2, if_neg (by omega)]
   simp only [alongL, acrossL, List.foldl_cons, mainOf, crossOf, if_neg h2]
   congr 2
   omega
theorem foldK_zero (b : Bx) (r : List (Int × Int)) : foldK b 0 (0, 0) r = if b.kind = 2 then (alongL b (gapsOf r.length * b.gap) r, acrossL b 0 r) else (acrossL b 0 r, alongL b (gapsOf r.length * b.gap) r) := by
 cases r with
 | nil => simp [foldK, alongL, acrossL, gapsOf, Int.max_def]
 | cons s r =>
  have e : gapsOf (s :: r).length = (r.length : Int) := by
   unfold gapsOf
   rw [List.length_cons]
   omega
  rw [foldK, foldK_line b r 1 _ (by omega), e]
  generalize (r.length : Int) * b.gap = g
  by_cases h2 : b.kind = 2
  ·rw [if_pos h2, if_pos h2, addK_row h2, if_pos rfl]
   simp only [alongL, acrossL, List.foldl_cons, mainOf, crossOf, if_pos h2]
   congr 2
   omega
  ·rw [if_neg h2, if_neg h2, addK_col h2, if_pos rfl]
   simp only [alongL, acrossL, List.foldl_cons, mainOf, crossOf, if_neg h2]
   congr 2
   omega
theorem natS_leaf {l : List Bx} (hv : Valid l) {i : Nat} (hi : i < l.length) (hk : (bx l i).kind = 0) : natS l i = ((bx l i).w + 2 * (bx l i).pad, (bx l i).h + 2 * (bx l i).pad) := by
 rw [natS_eq (fun k hk => hv.down hk k (Nat.le_refl _)) hi]
 unfold kidS
 rw [(hv.kids i hi).2 hk]
 rfl
theorem natS_box {l : List Bx} (hv : Valid l) {i : Nat} (hi : i < l.length) (hk : ¬ (bx l i).kind = 0) :
 natS l i = if (bx l i).kind = 2 then (alongL (bx l i) (gapsOf (kid l (i : Int)).length * (bx l i).gap) (kidS l i) + 2 * (bx l i).pad, acrossL (bx l i) 0 (kidS l i) + 2 * (bx l i).pad)
  else (acrossL (bx l i) 0 (kidS l i) + 2 * (bx l i).pad, alongL (bx l i) (gapsOf (kid l (i : Int)).length * (bx l i).gap) (kidS l i) + 2 * (bx l i).pad) := by
 have hb := hv.ok i hi
 unfold okB at hb
 simp only [Bool.and_eq_true, inR_iff, if_neg hk] at hb
 rw [natS_eq (fun k hk => hv.down hk k (Nat.le_refl _)) hi, show (bx l i).w = 0 from by omega, show (bx l i).h = 0 from by omega, foldK_zero, kidS_length]
 split <;> rfl
def alongTo (l : List Bx) (i j : Nat) : Int := alongL (bx l i) (gapsOf (kid l (i : Int)).length * (bx l i).gap) ((kidS l i).take j)
def acrossTo (l : List Bx) (i j : Nat) : Int := acrossL (bx l i) 0 ((kidS l i).take j)
theorem kidS_take {l : List Bx} {i j k : Nat} (hk : (kid l (i : Int))[j]? = some k) : (kidS l i).take (j + 1) = (kidS l i).take j ++ [natS l k] := by
 rw [List.take_add_one]
 simp [kidS, hk]
theorem alongTo_succ {l : List Bx} {i j k : Nat} (hk : (kid l (i : Int))[j]? = some k) : alongTo l i (j + 1) = alongTo l i j + mainOf (bx l i) (natS l k) := by
 unfold alongTo
 rw [kidS_take hk]
 simp [alongL]
theorem acrossTo_succ {l : List Bx} {i j k : Nat} (hk : (kid l (i : Int))[j]? = some k) : acrossTo l i (j + 1) = max (acrossTo l i j) (crossOf (bx l i) (natS l k)) := by
 unfold acrossTo
 rw [kidS_take hk]
 simp [acrossL]
theorem line_sz {l : List Bx} (hv : Valid l) {i : Nat} (hi : i < l.length) : ∀ (j : Nat), j ≤ (kid l (i : Int)).length → 0 ≤ alongTo l i j ∧ alongTo l i j ≤ 350 + j * 24126426575199000 ∧ 0 ≤ acrossTo l i j ∧ acrossTo l i j ≤ 24126426575199000
 | 0, _ => by
  have hb := okB_bounds (hv.ok i hi)
  have hk := (hv.kids i hi).1
  have hg : 0 ≤ gapsOf (kid l (i : Int)).length ∧ gapsOf (kid l (i : Int)).length ≤ 7 := by unfold gapsOf; omega
  have h1 : gapsOf (kid l (i : Int)).length * (bx l i).gap ≤ 7 * 50 := Int.mul_le_mul (by omega) (by omega) (by omega) (by omega)
  have h2 : 0 ≤ gapsOf (kid l (i : Int)).length * (bx l i).gap := Int.mul_nonneg hg.1 (by omega)
  unfold alongTo acrossTo
  simp only [List.take_zero, alongL, acrossL, List.foldl_nil]
  omega
 | j + 1, h => by
  obtain ⟨k, hk⟩ : ∃ k, (kid l (i : Int))[j]? = some k := ⟨_, List.getElem?_eq_getElem (by omega)⟩
  obtain ⟨hkl, _⟩ := mem_kid.1 (List.mem_of_getElem? hk)
  have ih := line_sz hv hi j (by omega)
  obtain ⟨n1, n2, n3, n4⟩ := natS_sz hv hkl
  rw [alongTo_succ hk, acrossTo_succ hk]
  unfold mainOf crossOf
  split <;> (push_cast; omega)
theorem line_full {l : List Bx} (hv : Valid l) {i : Nat} (hi : i < l.length) (hk : ¬ (bx l i).kind = 0) :
 natS l i = if (bx l i).kind = 2 then (alongTo l i (kid l (i : Int)).length + 2 * (bx l i).pad, acrossTo l i (kid l (i : Int)).length + 2 * (bx l i).pad) else (acrossTo l i (kid l (i : Int)).length + 2 * (bx l i).pad, alongTo l i (kid l (i : Int)).length + 2 * (bx l i).pad) := by
 rw [natS_box hv hi hk]
 unfold alongTo acrossTo
 rw [List.take_of_length_le (by rw [kidS_length]; exact Nat.le_refl _)]
theorem skid_valid {l : List Bx} (hv : Valid l) (i : Nat) : skid l i = kid l (i : Int) := skid_eq_kid fun k hk => hv.down hk k (Nat.le_refl _)
/-- the box that spec.natural keeps in memory -/
structure OneBox (B : Nat) (w : World) (x : Bx) : Prop where
 size : B < w.heap.size
 b : ∃ e, w.heap[B]? = some (.cells x.arr e)
theorem OneBox.ext {B : Nat} {w w' : World} {x : Bx} (h : OneBox B w x) (hx : Ext w w') : OneBox B w' x := by
 obtain ⟨h1, ⟨e1, h2⟩⟩ := h
 exact ⟨Nat.lt_of_lt_of_le h1 hx.size, ⟨e1, by rw [hx.block B (by omega)]; exact h2⟩⟩
set_option maxRecDepth 100000 in
set_option maxHeartbeats 4000000 in
theorem snatural_ind {v : Value} {l : List Bx} (hv : Valid l) : ∀ (f i : Nat), l.length - i ≤ f → i < l.length → ∀ (w : World), Rd w 9 v (Bs l) →
 Calls Tryz.prog 144 #[v, .int .i64 (i : Int)] w fun e w' => e = .returned (.tuple #[.int .i64 (natS l i).1, .int .i64 (natS l i).2]) ∧ Ext w w'
 | 0, _, h, hi, _, _ => by omega
 | f + 1, i, hf, hi, w, hr => by
  have hrd := hr
  obtain ⟨a, c, rfl, hn, hc, hcell⟩ := hr.boxes
  unfold maxLen at hc
  have ih := Lib.hid (snatural_ind (v := .slice a l.length c) hv f)
  obtain ⟨b, off, rfl, hbl, hC⟩ := hcell i _ (bx_get hi)
  obtain ⟨c0, c1, c2, c3, c4, c5, c6, c7, c8⟩ := hC i _ (bx_get hi)
  have Hl := Lib.hid hv.hi
  have hbd := okB_bounds (hv.ok i hi)
  clear hcell hr hC
  by_cases hlf : (bx l i).kind = 0
  ·have hlf' : ((bx l i).kind == 0) = true := by simp [hlf]
   have Hlf := Lib.hid (natS_leaf hv hi hlf)
   clear hlf
   go_enter Tryz.func144, Tryz.ntmps144
   go_wp2
   go_quiet (fail)
   go_wp2
   go_ret2
   exact ⟨by rw [Hlf.out]; rfl, below_drewN (Below.of_alloc _ _) _⟩
  ·have hlf' : ((bx l i).kind == 0) = false := by simp [hlf]
   have Hlf := Lib.hid hlf
   have Hfin := Lib.hid (line_full hv hi hlf)
   have hkl := (hv.kids i hi).1
   clear hlf
   go_enter Tryz.func144, Tryz.ntmps144
   go_wp2_with (fail)
   have hbx : Below w.heap.size w (w.alloc (.cells (bx l i).arr 39)) := Below.of_alloc _ _
   refine (skids_any (l := l) (i := (i : Int)) _ (by omega) (by omega) (hrd.below hbx (Nat.le_refl _)) (by have := Hl.out; omega)).mono ?_
   rintro e w1 ⟨vk, rfl, hok, hx⟩
   rw [Int.toNat_natCast, skid_valid hv] at hok
   obtain ⟨aq, cq, rfl, hnq, hcq, hcell⟩ := hok.rd.ints
   unfold maxLen at hcq
   simp only [ni_length] at *
   have hm0 : OneBox w.heap.size w1 (bx l i) := (OneBox.mk (by simp) ⟨_, heap_alloc_new w _⟩ : OneBox w.heap.size (w.alloc (.cells (bx l i).arr 39)) (bx l i)).ext hx
   have hb1 := after hbx hx (Nat.le_refl _)
   have Hok : Hid (Rd w1 1 (.slice aq (kid l (i : Int)).length cq) (Is (ni (kid l (i : Int))))) := hok.rd
   have kg : w1.cell? ⟨w.heap.size, 5, none⟩ = some (.int .i64 (bx l i).gap) := by
    obtain ⟨_, _, h⟩ := hm0
    rw [cell_of_heap h]
    rfl
   have hg2 : gapsOf (kid l (i : Int)).length = max 0 (((kid l (i : Int)).length : Int) - 1) := rfl
   clear hok hx hbx c0 c1 c2 c3 c4 c5 c6 c7 c8 hcell
   have hstart : Hid (∀ X : Int, X = alongTo l i 0 → Value.int .i64 (wrap64 X) = .int .i64 (alongTo l i 0)) := fun X hX => by
    have := line_sz hv hi 0 (Nat.zero_le _)
    rw [hX, IntWalk.wrap64_in _ (by omega)]
   go_wp2
   all_goals
    go_loopw [8, 9, 10] (fun n m i' wr => ∃ j : Nat, j ≤ (kid l (i : Int)).length ∧ i' = .int .i64 j ∧ n = .int .i64 (alongTo l i j) ∧ m = .int .i64 (acrossTo l i j) ∧ OneBox w.heap.size wr (bx l i) ∧ Below w.heap.size w wr ∧ Rd wr 1 (.slice aq (kid l (i : Int)).length cq) (Is (ni (kid l (i : Int))))) (fun _ _ i' _ => (kid l (i : Int)).length - (intOf i').toNat)
    case atStart =>
     refine ⟨0, Nat.zero_le _, rfl, hstart.out _ ?_, rfl, hm0, hb1, Hok.out⟩
     show _ = gapsOf _ * _
     first
      | rw [show gapsOf (kid l (i : Int)).length = ((kid l (i : Int)).length : Int) - 1 from by unfold gapsOf; omega]
      | (rw [show gapsOf (kid l (i : Int)).length = 0 from by unfold gapsOf; omega]; omega)
    case round =>
     clear hm0 hb1
     obtain ⟨j, hj, rfl, rfl, rfl, hm, hb, ho⟩ := hrel
     have hsz := hb.size
     have hln := line_sz hv hi j hj
     obtain ⟨l1, l2, l3, l4⟩ := hln
     by_cases hlt : j < (kid l (i : Int)).length
     ·obtain ⟨k, hk⟩ : ∃ k, (kid l (i : Int))[j]? = some k := ⟨_, List.getElem?_eq_getElem hlt⟩
      obtain ⟨hkl', hkp⟩ := mem_kid.1 (List.mem_of_getElem? hk)
      have hdk := hv.down hkl' k (Nat.le_refl _)
      have hik : i < k := by omega
      obtain ⟨aq', cq', eq, _, _, hcq2⟩ := ho.ints
      simp only [ni_length, Value.slice.injEq] at eq
      obtain ⟨rfl, _, rfl⟩ := eq
      obtain ⟨gq, oq, rfl, hcq3⟩ := hcq2 j (k : Int) (by simp [ni, hk])
      have cq2 := hcq3 j (k : Int) (by simp [ni, hk])
      obtain ⟨n1, n2, n3, n4⟩ := natS_sz hv hkl'
      have Hs1 := Lib.hid (alongTo_succ (l := l) (i := i) hk)
      have Hs2 := Lib.hid (acrossTo_succ (l := l) (i := i) hk)
      have Hih := Lib.hid (ih.out k (by omega) hkl' wr (hrd.below hb (Nat.le_refl _)))
      clear hcq2 hcq3 hkp hk
      go_wp2_with (fail)
      refine Hih.out.mono ?_
      rintro e w2 ⟨rfl, hx2⟩
      have Hm2 := Lib.hid (hm.ext hx2)
      have hb2 := after hb hx2 (Nat.le_refl _)
      have Hok2 := Lib.hid (ho.below hx2 (Nat.le_refl _))
      obtain ⟨s1, e2, hB⟩ := Hm2.out
      have kk : w2.cell? ⟨w.heap.size, 1, none⟩ = some (.int .i64 (bx l i).kind) := by rw [cell_of_heap hB]; rfl
      clear hm hb ho hx2 cq2 hB
      have l2' : alongTo l i j ≤ 350 + 8 * 24126426575199000 := by omega
      by_cases hkd : (bx l i).kind = 2
      ·have hkd' : ((bx l i).kind != 2) = false := by simp [hkd]
       have Hkd := Lib.hid hkd
       clear hkd
       go_wp2
       all_goals
        go_roundw
        case rel =>
         refine ⟨j + 1, by omega, by go_num, ?_, ?_, Hm2.out, hb2, Hok2.out⟩
         ·rw [Hs1.out]; unfold mainOf; rw [if_pos Hkd.out]
         ·rw [Hs2.out, Int.max_def]; unfold crossOf; rw [if_pos Hkd.out]; congr 1; split <;> (try split) <;> omega
        case measure => simp [intOf]; omega
      ·have hkd' : ((bx l i).kind != 2) = true := by simp [hkd]
       have Hkd := Lib.hid hkd
       clear hkd
       go_wp2
       all_goals
        go_roundw
        case rel =>
         refine ⟨j + 1, by omega, by go_num, ?_, ?_, Hm2.out, hb2, Hok2.out⟩
         ·rw [Hs1.out]; unfold mainOf; rw [if_neg Hkd.out]
         ·rw [Hs2.out, Int.max_def]; unfold crossOf; rw [if_neg Hkd.out]; congr 1; split <;> (try split) <;> omega
        case measure => simp [intOf]; omega
     ·obtain rfl : j = (kid l (i : Int)).length := by omega
      obtain ⟨s1, e2, hB⟩ := hm
      have kk : wr.cell? ⟨w.heap.size, 1, none⟩ = some (.int .i64 (bx l i).kind) := by rw [cell_of_heap hB]; rfl
      have kp : wr.cell? ⟨w.heap.size, 4, none⟩ = some (.int .i64 (bx l i).pad) := by rw [cell_of_heap hB]; rfl
      have l2' : alongTo l i (kid l (i : Int)).length ≤ 350 + 8 * 24126426575199000 := by omega
      clear hB
      by_cases hkd : (bx l i).kind = 2
      ·have hkd' : ((bx l i).kind != 2) = false := by simp [hkd]
       have Hkd := Lib.hid hkd
       clear hkd
       go_wp2
       go_quiet (fail)
       go_wp2
       go_ret2
       exact ⟨by rw [Hfin.out, if_pos Hkd.out]; rfl, below_drewN hb _⟩
      ·have hkd' : ((bx l i).kind != 2) = true := by simp [hkd]
       have Hkd := Lib.hid hkd
       clear hkd
       go_wp2
       go_quiet (fail)
       go_wp2
       go_ret2
       exact ⟨by rw [Hfin.out, if_neg Hkd.out]; rfl, below_drewN hb _⟩
theorem snatural_any {v : Value} {l : List Bx} (hv : Valid l) {i : Int} (w : World) (h0 : 0 ≤ i) (hi : i < l.length) (hr : Rd w 9 v (Bs l)) :
 Calls Tryz.prog 144 #[v, .int .i64 i] w fun e w' => e = .returned (.tuple #[.int .i64 (natS l i.toNat).1, .int .i64 (natS l i.toNat).2]) ∧ Ext w w' := by
 obtain ⟨i, rfl⟩ := Int.eq_ofNat_of_zero_le h0
 exact snatural_ind hv _ i (Nat.le_refl _) (by omega) w hr
/-- the first k shares, rounded down, and 0 for the others -/
def quoTo (s : Int) (ws : List Int) (k : Nat) : List Int := (quoL s ws).take k ++ List.replicate (ws.length - k) 0
theorem quoL_length (s : Int) (ws : List Int) : (quoL s ws).length = ws.length := by simp [quoL]
theorem quoTo_length {s : Int} {ws : List Int} {k : Nat} (hk : k ≤ ws.length) : (quoTo s ws k).length = ws.length := by
 unfold quoTo
 rw [List.length_append, List.length_take, quoL_length, List.length_replicate]
 omega
theorem quoTo_zero (s : Int) (ws : List Int) : quoTo s ws 0 = List.replicate ws.length 0 := by simp [quoTo]
theorem quoTo_full (s : Int) (ws : List Int) : quoTo s ws ws.length = quoL s ws := by
 unfold quoTo
 rw [List.take_of_length_le (by rw [quoL_length]; exact Nat.le_refl _)]
 simp
theorem quoTo_set {s : Int} {ws : List Int} {k : Nat} (hk : k < ws.length) : (quoTo s ws k).set k (quo s ws k) = quoTo s ws (k + 1) := by
 have hl : ((quoL s ws).take k).length = k := by rw [List.length_take, quoL_length]; omega
 have e : (quoL s ws).take (k + 1) = (quoL s ws).take k ++ [quo s ws k] := by
  rw [List.take_add_one]
  simp [quoL, hk]
 unfold quoTo
 rw [e, List.set_append, if_neg (by omega), hl, Nat.sub_self, show ws.length - k = (ws.length - (k + 1)) + 1 by omega, List.replicate_succ, List.set_cons_zero, List.append_assoc]
 rfl
theorem Is_set (l : List Int) (j : Nat) (x : Int) : (Is l).set j (.int .i64 x) = Is (l.set j x) := by simp [Is, List.map_set]
theorem ni_range_succ (k : Nat) : ni (List.range k) ++ [(k : Int)] = ni (List.range (k + 1)) := by rw [List.range_succ, ni_append]; rfl
theorem Own.same {w w' : World} {base size : Nat} {v : Value} {xs : List Value} (h : Own w base size v xs) (hb : ∀ q, blk v = some q → w'.heap[q]? = w.heap[q]?) : Own w' base size v xs := by
 obtain ⟨a, n, c, rfl, hl, hn, hc, h⟩ := h
 refine ⟨a, n, c, rfl, hl, hn, hc, ?_⟩
 rcases h with rfl | ⟨g, off, cur, e, rfl, hg, hh, hs, ht⟩
 ·exact .inl rfl
 ·by_cases hc0 : c = 0
  ·exact .inl hc0
  ·refine .inr ⟨g, off, cur, e, rfl, hg, ?_, hs, ht⟩
   rw [hb g (by simp [blk, hc0])]
   exact hh
theorem blk_out {g n c : Nat} {q : Nat} (h : blk (.slice (some ⟨g, 0, none⟩) n c) = some q) : q = g := by
 unfold blk at h
 dsimp only at h
 split at h
 ·cases h
 ·simpa using h.symm
theorem quo_bound {s : Int} {ws : List Int} (hs : 0 ≤ s) (hw : ∀ x, x ∈ ws → 0 ≤ x) (hS : 0 < isum ws) (i : Nat) (hi : i < ws.length) : 0 ≤ quo s ws i ∧ quo s ws i ≤ s := by
 have h1 := quo_pos hs hw i
 have h2 := (left_le hs hS).1
 have h3 := isum_mem (l := quoL s ws) (x := quo s ws i) (fun y hy => by
  obtain ⟨k, _, rfl⟩ := List.mem_map.1 hy
  exact quo_pos hs hw k) (List.mem_map.2 ⟨i, List.mem_range.2 hi, rfl⟩)
 omega
theorem Rd.intAt {w : World} {a : Option Addr} {n c k : Nat} {l : List Int} {x : Int} (h : Rd w 1 (.slice a n c) (Is l)) (hk : l[k]? = some x) : ∃ b off, a = some ⟨b, off, none⟩ ∧ w.cell? ⟨b, off + k, none⟩ = some (.int .i64 x) := by
 obtain ⟨a', c', e, _, _, hC⟩ := h.ints
 obtain ⟨b, off, e2, hC2⟩ := hC k x hk
 simp only [Value.slice.injEq] at e
 obtain ⟨rfl, _, rfl⟩ := e
 exact ⟨b, off, e2, hC2 k x hk⟩
theorem Own.setI {w : World} {base g n c k : Nat} {l : List Int} {x : Int} (h : Own w base 1 (.slice (some ⟨g, 0, none⟩) n c) (Is l)) (hx : l[k]? = some x) :
 g < w.heap.size ∧ w.cell? ⟨g, k, none⟩ = some (.int .i64 x) ∧ w.frozen? ⟨g, k, none⟩ = false ∧ ∀ u, Own (w.setCell ⟨g, k, none⟩ (.int .i64 u)) base 1 (.slice (some ⟨g, 0, none⟩) n c) (Is (l.set k u)) := by
 have hk := (List.getElem?_eq_some_iff.1 hx).1
 obtain ⟨b', off', n', c', e', _, hbk, _, hbs, hcell, hfz, hset⟩ := h.cells (by
  intro h
  have := congrArg List.length h
  rw [Is_length, List.length_nil] at this
  omega)
 simp only [Value.slice.injEq, Option.some.injEq, Addr.mk.injEq] at e'
 obtain ⟨⟨rfl, rfl, _⟩, rfl, rfl⟩ := e'
 simp only [Nat.zero_add] at hcell hfz hset
 exact ⟨hbs, hcell k _ (Is_get hx), hfz k, fun u => by rw [← Is_set]; exact hset k _ (by rw [Is_length]; exact hk)⟩
/-- what impl.share keeps in memory: the space, the weights, their sum -/
structure ShMem (B : Nat) (w : World) (s : Int) (v : Value) (S : Int) : Prop where
 lt : B + 3 < w.heap.size
 k1 : w.cell? ⟨B, 0, none⟩ = some (.int .i64 s)
 k2 : w.cell? ⟨B + 1, 0, none⟩ = some v
 k3 : w.cell? ⟨B + 3, 0, none⟩ = some (.int .i64 S)
theorem ShMem.below {B : Nat} {w w' : World} {s : Int} {v : Value} {S : Int} (h : ShMem B w s v S) (hb : Below (B + 4) w w') : ShMem B w' s v S := by
 obtain ⟨h0, h1, h2, h3⟩ := h
 refine ⟨Nat.lt_of_lt_of_le h0 hb.size, ?_, ?_, ?_⟩
 ·rw [hb.cell (p := ⟨B, 0, none⟩) (by show B < B + 4; omega)]; exact h1
 ·rw [hb.cell (p := ⟨B + 1, 0, none⟩) (by show B + 1 < B + 4; omega)]; exact h2
 ·rw [hb.cell (p := ⟨B + 3, 0, none⟩) (by show B + 3 < B + 4; omega)]; exact h3
theorem cell_setOther {w : World} {p q : Addr} (u : Value) (h : q.block ≠ p.block) : (w.setCell p u).cell? q = w.cell? q := by
 have e : (w.setCell p u).heap[q.block]? = w.heap[q.block]? := Below.heap_setCell _ _ _ _ h
 unfold World.cell?
 rw [e]
theorem ShMem.set {B : Nat} {w : World} {s : Int} {v : Value} {S : Int} (h : ShMem B w s v S) (o : Nat) (u : Value) : ShMem B (w.setCell ⟨B + 2, o, none⟩ u) s v S := by
 obtain ⟨h0, h1, h2, h3⟩ := h
 refine ⟨by simpa [World.setCell] using h0, ?_, ?_, ?_⟩
 ·rw [cell_setOther _ (by simp)]; exact h1
 ·rw [cell_setOther _ (by simp)]; exact h2
 ·rw [cell_setOther _ (by simp)]; exact h3
set_option maxRecDepth 100000 in
set_option maxHeartbeats 2000000 in
theorem share_any {v : Value} {s : Int} {ws : List Int} (w : World) (hv : Rd w 1 v (Is ws)) (hs : 0 ≤ s ∧ s ≤ 1000000) (hw : ∀ x, x ∈ ws → 0 ≤ x ∧ x ≤ 1000000) (hl : ws.length ≤ 8) :
 Calls Tryz.prog 156 #[.int .i64 s, v] w fun e w' => ∃ v', e = .returned v' ∧ Own w' w.heap.size 1 v' (Is (shareL s ws)) ∧ Ext w w' := by
 have hrd := hv
 obtain ⟨a, c, rfl, hn, hc, hcell⟩ := hv.ints
 clear hv
 unfold maxLen at hc
 have hmk := fun W => mk_run (P := Tryz.prog) el_int ws.length ws.length (Nat.le_refl _) (by omega) W
 have hmk0 := fun W => mk_run0 (P := Tryz.prog) el_int ws.length (by omega) W
 have HW := Lib.hid hw
 have hpos := isum_pos ws fun x hx => (hw x hx).1
 have hle := isum_le ws 1000000 fun x hx => (hw x hx).2
 clear hw
 go_enter Tryz.func156, Tryz.ntmps156
 go_wp2_with (fail)
 obtain ⟨W, hW⟩ : ∃ W, ((w.alloc (.cells #[.int .i64 s] 3)).alloc (.cells #[.slice a ws.length c] 34)).alloc (.cells (madeCells #[Value.int .i64 0] ws.length) 3) = W := ⟨_, rfl⟩
 have hbw : Below w.heap.size w W := by
  rw [← hW]
  exact ((Below.of_alloc _ _).alloc (by simp) _).alloc (by simp; omega) _
 have hoW : Own W (w.heap.size + 2) 1 (.slice (some ⟨w.heap.size + 2, 0, none⟩) ws.length ws.length) (Is (List.replicate ws.length 0)) := by
  have h := Own.madeInts1 ((w.alloc (.cells #[.int .i64 s] 3)).alloc (.cells #[.slice a ws.length c] 34)) (w.heap.size + 2) ws.length ws.length 3 (by simp) (Nat.le_refl _) (by omega)
  rw [hW] at h
  simpa using h
 have hsW : W.heap.size = w.heap.size + 3 := by rw [← hW]; simp
 have hk1 : W.cell? ⟨w.heap.size, 0, none⟩ = some (.int .i64 s) := by
  rw [← hW, cell_of_heap (heap_new3 _ _ _ _).1]
  rfl
 have hk2 : W.cell? ⟨w.heap.size + 1, 0, none⟩ = some (.slice a ws.length c) := by
  rw [← hW, cell_of_heap (heap_new3 _ _ _ _).2.1]
  rfl
 rw [hW]
 refine (total_any (l := ws) _ (hrd.below hbw (Nat.le_refl _)) (fun x hx => by have := HW.out x hx; omega) (by omega)).mono ?_
 rintro e w1 ⟨rfl, hw1⟩
 subst hw1
 clear hW
 by_cases h0 : isum ws = 0
 ·have h0' : (isum ws == 0) = true := by simp [h0]
  have HE : Hid (shareL s ws = List.replicate ws.length 0) := by show _ = _; unfold shareL; rw [if_pos h0]
  clear h0
  go_wp2
  go_ret
  exact ⟨_, rfl, by rw [HE.out]; exact (hoW.alloc _).weak (by omega), hbw.alloc (by omega) _⟩
 ·have h0' : (isum ws == 0) = false := by simp [h0]
  have hS : 0 < isum ws := by omega
  have HE : Hid (shareL s ws = shrT s ws (leftN s ws)) := by show _ = _; unfold shareL; rw [if_neg h0]
  have hlf := left_le hs.1 hS
  clear h0
  go_wp2_with (fail)
  obtain ⟨W2, hW2⟩ : ∃ W2, (w1.alloc (.cells #[.int .i64 (isum ws)] 3)).alloc (.cells (madeCells #[Value.int .i64 0] ws.length) 3) = W2 := ⟨_, rfl⟩
  have hoO : Own W2 (w.heap.size + 4) 1 (.slice (some ⟨w.heap.size + 4, 0, none⟩) 0 ws.length) (Is (ni (List.range 0))) := by
   have h := Own.madeInts1 (w1.alloc (.cells #[.int .i64 (isum ws)] 3)) (w.heap.size + 4) 0 ws.length 3 (by simp; omega) (Nat.zero_le _) (by omega)
   rw [hW2] at h
   simp only [World.size_alloc, hsW] at h
   exact h
  have hbw2 : Below (w.heap.size + 3) w1 W2 := by
   rw [← hW2, ← hsW]
   exact (Below.of_alloc _ _).alloc (by simp) _
  have hoU := (hoW.below hbw2 (by omega))
  have hsm : ShMem w.heap.size W2 s (.slice a ws.length c) (isum ws) := by
   refine ⟨by rw [← hW2]; simp; omega, ?_, ?_, ?_⟩
   ·rw [hbw2.cell (p := ⟨w.heap.size, 0, none⟩) (by show w.heap.size < _; omega)]; exact hk1
   ·rw [hbw2.cell (p := ⟨w.heap.size + 1, 0, none⟩) (by show w.heap.size + 1 < _; omega)]; exact hk2
   ·rw [← hW2]
    have h1 := heap_alloc_new w1 (.cells #[.int .i64 (isum ws)] 3)
    rw [hsW] at h1
    have h2 : ((w1.alloc (.cells #[.int .i64 (isum ws)] 3)).alloc (.cells (madeCells #[Value.int .i64 0] ws.length) 3)).heap[w.heap.size + 3]? = some (.cells #[.int .i64 (isum ws)] 3) := by
     rw [Below.heap_alloc _ _ _ (by simp; omega)]
     exact h1
    rw [cell_of_heap h2]
    rfl
  have hb2 : Below w.heap.size w W2 := hbw.trans (hbw2.mono (by omega))
  have hidx : ∀ k : Nat, k < ws.length → ∃ b off, a = some ⟨b, off, none⟩ ∧ ∀ wr, Below w.heap.size w wr → ∀ (j : Nat) (y : Int), ws[j]? = some y → wr.cell? ⟨b, off + j, none⟩ = some (.int .i64 y) := by
   intro k hk
   obtain ⟨y, hy⟩ : ∃ y, ws[k]? = some y := ⟨_, List.getElem?_eq_getElem hk⟩
   obtain ⟨b, off, rfl, hC⟩ := hcell k y hy
   exact ⟨b, off, rfl, fun wr hb j y hy => cell_below hb (hC j y hy)⟩
  have HI := Lib.hid hidx
  clear hidx hcell
  rw [hW2]
  rw [show w.heap.size + 1 + 1 = w.heap.size + 2 from rfl, show w.heap.size + 3 + 1 = w.heap.size + 4 from rfl]
  go_loopw [7, 25] (fun ord i wr => ∃ k : Nat, k ≤ ws.length ∧ i = .int .i64 k ∧
   Own wr (w.heap.size + 4) 1 ord (Is (ni (List.range k))) ∧ Own wr (w.heap.size + 2) 1 (.slice (some ⟨w.heap.size + 2, 0, none⟩) ws.length ws.length) (Is (quoTo s ws k)) ∧ ShMem w.heap.size wr s (.slice a ws.length c) (isum ws) ∧ Below w.heap.size w wr) (fun _ i _ => ws.length - (intOf i).toNat)
  case atStart => exact ⟨0, Nat.zero_le _, rfl, hoO, by rw [quoTo_zero]; exact hoU, hsm, hb2⟩
  case round =>
   clear hoO hoU hsm hb2 hW2 hbw2
   obtain ⟨k, hk, rfl, hoO, hoU, hsm, hb2⟩ := hrel
   have hsz := hsm.lt
   obtain ⟨m0, m1, m2, m3⟩ := hsm
   by_cases hlt : k < ws.length
   ·obtain ⟨b, off, rfl, hC⟩ := HI.out k hlt
    obtain ⟨y, hy⟩ : ∃ y, ws[k]? = some y := ⟨_, List.getElem?_eq_getElem hlt⟩
    have ck := hC wr hb2 k y hy
    have hy0 := HW.out y (List.mem_of_getElem? hy)
    have px0 := Int.mul_nonneg hs.1 hy0.1
    have px1 : s * y ≤ 1000000 * 1000000 := Int.mul_le_mul hs.2 hy0.2 hy0.1 (by omega)
    have QY : Hid (quo s ws k = s * y / isum ws) := by show _ = _; unfold quo; rw [List.getD_eq_getElem?_getD, hy]; rfl
    have hql := quoTo_length (s := s) hk
    obtain ⟨b', off', n', c', e', _, hbk, _, hbs, hcellU, hfz, hset⟩ := hoU.cells (by
     intro h
     have := congrArg List.length h
     rw [Is_length, hql, List.length_nil] at this
     omega)
    simp only [Value.slice.injEq, Option.some.injEq, Addr.mk.injEq] at e'
    obtain ⟨⟨rfl, rfl, _⟩, rfl, rfl⟩ := e'
    have f0 := hfz k
    have s0 := hset k (.int .i64 (quo s ws k)) (by rw [Is_length, hql]; exact hlt)
    rw [Is_set, quoTo_set hlt] at s0
    obtain ⟨u0, hu0⟩ : ∃ u, (Is (quoTo s ws k))[k]? = some u := ⟨_, List.getElem?_eq_getElem (by rw [Is_length, hql]; exact hlt)⟩
    have cu := hcellU k u0 hu0
    have hlti : (k : Int) < ws.length := by omega
    clear hcellU hfz hset hy hC
    rw [QY.out] at s0
    simp only [Nat.zero_add] at f0 s0 cu
    have hoO2 := hoO.setOther (p := ⟨w.heap.size + 2, k, none⟩) (by
     intro e
     have := (hoO.lt _ e).1
     dsimp only at this
     omega) (.int .i64 (s * y / isum ws))
    have hsm2 := (ShMem.mk m0 m1 m2 m3).set k (.int .i64 (s * y / isum ws))
    have hb3 := hb2.setCell (p := ⟨w.heap.size + 2, k, none⟩) (by simp) (.int .i64 (s * y / isum ws))
    have hblk : blk u7 ≠ some (w.heap.size + 2) := by
     intro e
     have := (hoO.lt _ e).1
     omega
    go_wp2_with (at_builtin; refine wpList_app rfl _ _ _ rfl el_int rfl (hoO2.alloc _) rfl (Rd.oneAt _ _ (by simp)) (Is_one [(k : Int)]) ?hl ?hb ?hK)
    case hl => rw [Is_length, ni_length]; simp; omega
    case hb => simp; omega
    intro v' w5 ho5 hg5 hf5
    have hx1 := (Below.of_alloc (wr.setCell ⟨w.heap.size + 2, k, none⟩ (.int .i64 (s * y / isum ws))) (.cells #[.int .i64 (k : Int)] 3)).mono (B' := w.heap.size + 4) (by simp [World.setCell]; omega)
    have hx2 := below_app hx1 (hoO2.alloc _) hg5 (by simp [World.setCell]; omega) (Nat.le_refl _)
    have ho7 := (s0.alloc (.cells #[.int .i64 (k : Int)] 3)).kept hg5 (.inr (by rw [hbk]; exact fun e => hblk e.symm))
    have hsm7 := hsm2.below hx2
    have hb7 := hb3.trans (hx2.mono (by omega))
    go_wp2
    go_roundw
    case rel => exact ⟨k + 1, by omega, by go_num, by rw [← ni_range_succ, Is_append]; exact ho5, ho7, hsm7, hb7⟩
    case measure => simp [intOf]; omega
   ·obtain rfl : k = ws.length := by omega
    rw [quoTo_full] at hoU
    have hsm := ShMem.mk m0 m1 m2 m3
    clear m0 m1 m2 m3 hsz
    go_wp2_with (fail)
    refine (SortStableFunc_any (n := ws.length) shareEnter (rst s ws) _ hoO hl (fun i j hi hj w' hw' => by
     have h := hsm.below hw'
     exact shareF_any w' (hrd.below (hb2.trans (hw'.mono (by omega))) (Nat.le_refl _)) h.k1 h.k2 h.k3 hs HW.out hS hi hj)).mono ?_
    rintro e w6 ⟨rfl, hoO6, hbS, hfS⟩
    have hsm6 := hsm.below hbS
    have hoU6 : Own w6 (w.heap.size + 2) 1 (.slice (some ⟨w.heap.size + 2, 0, none⟩) ws.length ws.length) (Is (quoL s ws)) := hoU.same (fun q hq => by
     obtain rfl := blk_out hq
     exact hbS.block _ (by omega))
    have hb6 := hb2.trans (hbS.mono (by omega))
    clear hoU hoO hsm hb2 hbS hfS
    obtain ⟨a7, c7, e7, hn7, hc7, _⟩ := hoO6.rd.ints
    rw [ni_length, ordR_length] at e7 hn7
    subst e7
    unfold maxLen at hc7
    obtain ⟨k0, k1, k2, k3⟩ := hsm6
    have HB := Lib.hid (fun i hi => quo_bound hs.1 (fun x hx => (HW.out x hx).1) hS i hi)
    have HQ := fun n => total_any (l := quoL s ws) (w6.drewN n) (rd_drewN hoU6.rd n) (fun x hx => by
     obtain ⟨i, hi, rfl⟩ := List.mem_map.1 hx
     have := HB.out i (List.mem_range.1 hi)
     omega) (by rw [quoL_length]; omega)
    have hlN : leftN s ws ≤ ws.length := by unfold leftN; omega
    generalize hq : isum (quoL s ws) = q at *
    have e0 : (s - q).toNat = leftN s ws := by unfold leftN; rw [hq]
    have ez : s - q = (leftN s ws : Int) := by omega
    go_wp2
    go_quiet (refine Calls.quiet_of_same (HQ _))
    have hoO7 := own_drewN hoO6 nq
    have hoU7 := own_drewN hoU6 nq
    have hb7 := below_drewN hb6 nq
    clear hoO6 hoU6 hb6 k0 k1 k2 k3 HQ
    generalize w6.drewN nq = w7 at *
    go_wp2
    go_loopw [53] (fun i wr => ∃ t : Nat, t ≤ leftN s ws ∧ i = .int .i64 t ∧ Own wr (w.heap.size + 4) 1 (.slice a7 ws.length c7) (Is (ni (ordR (rst s ws) ws.length))) ∧ Own wr (w.heap.size + 2) 1 (.slice (some ⟨w.heap.size + 2, 0, none⟩) ws.length ws.length) (Is (shrT s ws t)) ∧ Below w.heap.size w wr) (fun i _ => leftN s ws - (intOf i).toNat)
    case atStart => exact ⟨0, Nat.zero_le _, rfl, hoO7, by rw [shrT_zero]; exact hoU7, hb7⟩
    case round =>
     clear hoO7 hoU7 hb7 e0 ez hq hlf
     obtain ⟨t, ht, rfl, hoO, hoU, hb⟩ := hrel
     by_cases hlt : t < leftN s ws
     ·obtain ⟨p, hp⟩ : ∃ p, (ordR (rst s ws) ws.length)[t]? = some p := ⟨_, List.getElem?_eq_getElem (by rw [ordR_length]; omega)⟩
      have hpn : p < ws.length := ordR_mem.1 (List.mem_of_getElem? hp)
      obtain ⟨h1, h2⟩ := shrT_succ hp
      have hq0 := HB.out p hpn
      obtain ⟨hbs, cu, f0, hset⟩ := hoU.setI h1
      have s0 := hset (quo s ws p + 1)
      rw [h2] at s0
      obtain ⟨bO, oO, rfl, co⟩ := hoO.rd.intAt (ni_get hp)
      have hoO2 := hoO.setOther (p := ⟨w.heap.size + 2, p, none⟩) (by
       intro e
       have := (hoO.lt _ e).1
       dsimp only at this
       omega) (.int .i64 (quo s ws p + 1))
      have hb2 := hb.setCell (p := ⟨w.heap.size + 2, p, none⟩) (by simp) (.int .i64 (quo s ws p + 1))
      have hti : (t : Int) < leftN s ws := by omega
      have hpi : (p : Int) < ws.length := by omega
      clear hset h1 h2 hp hoO hoU
      go_wp2
      go_roundw
      case rel => exact ⟨t + 1, by omega, by go_num, hoO2, s0, hb2⟩
      case measure => simp [intOf]; omega
     ·obtain rfl : t = leftN s ws := by omega
      go_wp2
      go_ret
      exact ⟨_, rfl, by rw [HE.out]; exact hoU.weak (by omega), hb⟩
/-- what impl.flexed keeps in memory: the list's value at S, the sizes' value at S + 2 -/
structure FlM (S : Nat) (w : World) (lv ov : Value) (out : List Int) : Prop where
 lt : S + 3 ≤ w.heap.size
 c0 : w.cell? ⟨S, 0, none⟩ = some lv
 c2 : w.cell? ⟨S + 2, 0, none⟩ = some ov
 f2 : w.frozen? ⟨S + 2, 0, none⟩ = false
 own : Own w (S + 1) 1 ov (Is out)
 ne : blk ov ≠ some (S + 2)
theorem frozen_below {B : Nat} {w w' : World} {p : Addr} (h : Below B w w') (hp : p.block < B) : w'.frozen? p = w.frozen? p := by
 have e := h.block p.block hp
 unfold World.frozen?
 rw [e]
theorem FlM.below {S : Nat} {w w' : World} {lv ov : Value} {out : List Int} (h : FlM S w lv ov out) (hb : Below w.heap.size w w') : FlM S w' lv ov out := by
 obtain ⟨h0, h1, h2, h3, h4, h5⟩ := h
 refine ⟨Nat.le_trans h0 hb.size, ?_, ?_, ?_, h4.below hb (Nat.le_refl _), h5⟩
 ·rw [hb.cell (p := ⟨S, 0, none⟩) (by show S < _; omega)]; exact h1
 ·rw [hb.cell (p := ⟨S + 2, 0, none⟩) (by show S + 2 < _; omega)]; exact h2
 ·rw [frozen_below hb (p := ⟨S + 2, 0, none⟩) (by show S + 2 < _; omega)]; exact h3
theorem frozen_setCell (w : World) (p q : Addr) (u : Value) : (w.setCell p u).frozen? q = w.frozen? q := by
 unfold World.frozen? World.setCell
 simp only [Array.getElem?_modify]
 by_cases h : p.block = q.block
 ·rw [if_pos h]
  cases h2 : w.heap[q.block]? with
  | none => rfl
  | some o => cases o <;> rfl
 ·rw [if_neg h]
/-- a size is stored -/
theorem FlM.set {S : Nat} {w : World} {lv ov : Value} {out : List Int} (h : FlM S w lv ov out) {k : Nat} {x : Int} (hx : out[k]? = some x) :
 ∃ b off n c, ov = .slice (some ⟨b, off, none⟩) n c ∧ S + 1 ≤ b ∧ b < w.heap.size ∧ blk ov = some b ∧ out.length = n ∧ w.cell? ⟨b, off + k, none⟩ = some (.int .i64 x) ∧ w.frozen? ⟨b, off + k, none⟩ = false ∧
  ∀ u, FlM S (w.setCell ⟨b, off + k, none⟩ (.int .i64 u)) lv ov (out.set k u) := by
 obtain ⟨h0, h1, h2, h3, h4, h5⟩ := h
 have hk := (List.getElem?_eq_some_iff.1 hx).1
 obtain ⟨b, off, n, c, rfl, hn, hbk, hSb, hbs, hcell, hfz, hset⟩ := h4.cells (by
  intro h
  have := congrArg List.length h
  rw [Is_length, List.length_nil] at this
  omega)
 rw [Is_length] at hn
 have hb2 : b ≠ S + 2 := by
  intro e
  rw [hbk, e] at h5
  exact h5 rfl
 refine ⟨b, off, n, c, rfl, hSb, hbs, hbk, by omega, hcell k _ (Is_get hx), hfz k, fun u => ⟨by simpa [World.setCell] using h0, ?_, ?_, ?_, ?_, h5⟩⟩
 ·rw [cell_setOther _ (by dsimp only; omega)]; exact h1
 ·rw [cell_setOther _ (by dsimp only; omega)]; exact h2
 ·rw [frozen_setCell]; exact h3
 ·rw [← Is_set]
  exact hset k _ (by rw [Is_length]; exact hk)
set_option maxHeartbeats 1000000 in
theorem roomU_any {S : Nat} {lv ov : Value} {fs : List Flx} {out : List Int} (w : World) (hr : Rd w 5 lv (Fs fs)) (hM : FlM S w lv ov out) (hl : out.length = fs.length) {i : Nat} (hi : i < fs.length) (hf : ∀ f, f ∈ fs → flOk f) (hin : inB2 fs out) :
 Calls Tryz.prog 154 #[.int .i64 (i : Int), .pointer (some ⟨S, 0, none⟩), .pointer (some ⟨S + 2, 0, none⟩)] w fun e w' => e = .returned (.tuple #[.int .i64 (farI true (fx fs i) (out.getD i 0)), .int .i64 (wgtI true (fx fs i))]) ∧ ∃ m, w' = w.drewN m := by
 obtain ⟨x, hx⟩ : ∃ x, out[i]? = some x := ⟨_, List.getElem?_eq_getElem (by omega)⟩
 obtain ⟨f, hfi⟩ : ∃ f, fs[i]? = some f := ⟨_, List.getElem?_eq_getElem hi⟩
 obtain ⟨b, off, n, c, rfl, _, _, _, hn, cx, _, _⟩ := hM.set hx
 obtain ⟨a, c2, rfl, hn2, hc2, hcell⟩ := hr.flxs
 obtain ⟨b2, off2, rfl, _, hC⟩ := hcell i f hfi
 obtain ⟨e0, e1, e2, e3, e4⟩ := hC i f hfi
 obtain ⟨_, m1, m2, _, _, _⟩ := hM
 have hi2 := hin.2 i hi
 have ex : out.getD i 0 = x := by rw [List.getD_eq_getElem?_getD, hx]; rfl
 have ef : fx fs i = f := by unfold fx; rw [List.getD_eq_getElem?_getD, hfi]; rfl
 have hfo := hf f (List.mem_of_getElem? hfi)
 unfold flOk at hfo
 rw [ex, ef] at hi2 ⊢
 have hni : (i : Int) < n := by omega
 have hni2 : (i : Int) < fs.length := by omega
 have EF : Hid (farI true f x = f.max - x) := rfl
 have EW : Hid (wgtI true f = f.grow) := rfl
 rw [EF.out, EW.out]
 clear hcell hC hin hf hx hfi ex ef hr hl EF EW
 go_enter Tryz.func154, Tryz.ntmps154
 go_wp2
 go_quiet (fail)
 go_wp2
 go_ret2
 exact ⟨rfl, _, rfl⟩
set_option maxHeartbeats 1000000 in
theorem roomD_any {S : Nat} {lv ov : Value} {fs : List Flx} {out : List Int} (w : World) (hr : Rd w 5 lv (Fs fs)) (hM : FlM S w lv ov out) (hl : out.length = fs.length) {i : Nat} (hi : i < fs.length) (hf : ∀ f, f ∈ fs → flOk f) (hin : inB2 fs out) :
 Calls Tryz.prog 155 #[.int .i64 (i : Int), .pointer (some ⟨S + 2, 0, none⟩), .pointer (some ⟨S, 0, none⟩)] w fun e w' => e = .returned (.tuple #[.int .i64 (farI false (fx fs i) (out.getD i 0)), .int .i64 (wgtI false (fx fs i))]) ∧ ∃ m, w' = w.drewN m := by
 obtain ⟨x, hx⟩ : ∃ x, out[i]? = some x := ⟨_, List.getElem?_eq_getElem (by omega)⟩
 obtain ⟨f, hfi⟩ : ∃ f, fs[i]? = some f := ⟨_, List.getElem?_eq_getElem hi⟩
 obtain ⟨b, off, n, c, rfl, _, _, _, hn, cx, _, _⟩ := hM.set hx
 obtain ⟨a, c2, rfl, hn2, hc2, hcell⟩ := hr.flxs
 obtain ⟨b2, off2, rfl, _, hC⟩ := hcell i f hfi
 obtain ⟨e0, e1, e2, e3, e4⟩ := hC i f hfi
 obtain ⟨_, m1, m2, _, _, _⟩ := hM
 have hi2 := hin.2 i hi
 have ex : out.getD i 0 = x := by rw [List.getD_eq_getElem?_getD, hx]; rfl
 have ef : fx fs i = f := by unfold fx; rw [List.getD_eq_getElem?_getD, hfi]; rfl
 have hfo := hf f (List.mem_of_getElem? hfi)
 unfold flOk at hfo
 rw [ex, ef] at hi2 ⊢
 have hni : (i : Int) < n := by omega
 have hni2 : (i : Int) < fs.length := by omega
 have EF : Hid (farI false f x = x - f.min) := rfl
 have EW : Hid (wgtI false f = f.shrink) := rfl
 rw [EF.out, EW.out]
 clear hcell hC hin hf hx hfi ex ef hr hl EF EW
 go_enter Tryz.func155, Tryz.ntmps155
 go_wp2
 go_quiet (fail)
 go_wp2
 go_ret2
 exact ⟨rfl, _, rfl⟩
def rstTo (s : Int) (ws : List Int) (k : Nat) : List Int := (rsL (rst s ws) ws.length 0).take k ++ List.replicate (ws.length - k) 0
theorem rstTo_length {s : Int} {ws : List Int} {k : Nat} (hk : k ≤ ws.length) : (rstTo s ws k).length = ws.length := by
 unfold rstTo
 rw [List.length_append, List.length_take, rsL_length, List.length_replicate]
 omega
theorem rstTo_zero (s : Int) (ws : List Int) : rstTo s ws 0 = List.replicate ws.length 0 := by simp [rstTo]
theorem rstTo_full (s : Int) (ws : List Int) : rstTo s ws ws.length = rsL (rst s ws) ws.length 0 := by
 unfold rstTo
 rw [List.take_of_length_le (by rw [rsL_length]; exact Nat.le_refl _)]
 simp
theorem rstTo_set {s : Int} {ws : List Int} {k : Nat} (hk : k < ws.length) : (rstTo s ws k).set k (rst s ws k) = rstTo s ws (k + 1) := by
 have hl : ((rsL (rst s ws) ws.length 0).take k).length = k := by rw [List.length_take, rsL_length]; omega
 have e : (rsL (rst s ws) ws.length 0).take (k + 1) = (rsL (rst s ws) ws.length 0).take k ++ [rst s ws k] := by
  rw [List.take_add_one, rsL_get hk]
  simp [rstT]
 unfold rstTo
 rw [e, List.set_append, if_neg (by omega), hl, Nat.sub_self, show ws.length - k = (ws.length - (k + 1)) + 1 by omega, List.replicate_succ, List.set_cons_zero, List.append_assoc]
 rfl
theorem get_some {α : Type} {l : List α} {k : Nat} (hk : k < l.length) : ∃ x, l[k]? = some x := ⟨_, List.getElem?_eq_getElem hk⟩
theorem amax_lt (s : Nat → Int) (k : Nat) : amax s (k + 1) < k + 1 := by
 have := (amax_spec s k).1
 omega
set_option maxRecDepth 100000 in
set_option maxHeartbeats 2000000 in
theorem sshare_any {v : Value} {s : Int} {ws : List Int} (w : World) (hv : Rd w 1 v (Is ws)) (hs : 0 ≤ s ∧ s ≤ 1000000) (hw : ∀ x, x ∈ ws → 0 ≤ x ∧ x ≤ 1000000) (hl : ws.length ≤ 8) :
 Calls Tryz.prog 167 #[.int .i64 s, v] w fun e w' => ∃ v', e = .returned v' ∧ Own w' w.heap.size 1 v' (Is (shareL s ws)) ∧ Ext w w' := by
 have hrd := hv
 obtain ⟨a, c, rfl, hn, hc, hcell⟩ := hv.ints
 clear hv hcell
 unfold maxLen at hc
 have hmk := fun W => mk_run (P := Tryz.prog) el_int ws.length ws.length (Nat.le_refl _) (by omega) W
 have HW := Lib.hid hw
 have hpos := isum_pos ws fun x hx => (hw x hx).1
 have hle := isum_le ws 1000000 fun x hx => (hw x hx).2
 clear hw
 go_enter Tryz.func167, Tryz.ntmps167
 go_wp2_with (fail)
 obtain ⟨W, hW⟩ : ∃ W, (w.alloc (.cells (madeCells #[Value.int .i64 0] ws.length) 3)).alloc (.cells (madeCells #[Value.int .i64 0] ws.length) 3) = W := ⟨_, rfl⟩
 have hbw : Below w.heap.size w W := by
  rw [← hW]
  exact (Below.of_alloc _ _).alloc (by simp) _
 have hoO : Own W w.heap.size 1 (.slice (some ⟨w.heap.size, 0, none⟩) ws.length ws.length) (Is (List.replicate ws.length 0)) := by
  have h := (Own.madeInts1 w w.heap.size ws.length ws.length 3 (Nat.le_refl _) (Nat.le_refl _) (by omega)).alloc (.cells (madeCells #[Value.int .i64 0] ws.length) 3)
  rw [hW] at h
  exact h
 have hoR : Own W (w.heap.size + 1) 1 (.slice (some ⟨w.heap.size + 1, 0, none⟩) ws.length ws.length) (Is (List.replicate ws.length 0)) := by
  have h := Own.madeInts1 (w.alloc (.cells (madeCells #[Value.int .i64 0] ws.length) 3)) (w.heap.size + 1) ws.length ws.length 3 (by simp) (Nat.le_refl _) (by omega)
  rw [hW] at h
  simpa using h
 rw [hW]
 refine (sum_any (l := ws) _ (hrd.below hbw (Nat.le_refl _)) (fun x hx => by have := HW.out x hx; omega) (by omega)).mono ?_
 rintro e w1 ⟨rfl, hw1⟩
 subst hw1
 clear hW
 by_cases h0 : isum ws = 0
 ·have h0' : (isum ws == 0) = true := by simp [h0]
  have HE : Hid (shareL s ws = List.replicate ws.length 0) := by show _ = _; unfold shareL; rw [if_pos h0]
  clear h0
  go_wp2
  go_ret
  exact ⟨_, rfl, by rw [HE.out]; exact hoO, hbw⟩
 ·have h0' : (isum ws == 0) = false := by simp [h0]
  have hS : 0 < isum ws := by omega
  have HE : Hid (shareL s ws = shrT s ws (leftN s ws)) := by show _ = _; unfold shareL; rw [if_neg h0]
  have HB := Lib.hid (fun i hi => quo_bound hs.1 (fun x hx => (HW.out x hx).1) hS i hi)
  have hlf := left_le hs.1 hS
  have hlN : leftN s ws < ws.length := by unfold leftN; omega
  have HT : Hid (∀ k : Nat, 0 ≤ isum ((quoL s ws).take k) ∧ isum ((quoL s ws).take k) ≤ s) := fun k => by
   have h := isum_take_le (l := quoL s ws) (fun x hx => by
    obtain ⟨i, hi, rfl⟩ := List.mem_map.1 hx
    exact (HB.out i (List.mem_range.1 hi)).1) k
   omega
  clear h0
  go_wp2
  go_loopw [8, 9] (fun lf i wr => ∃ k : Nat, k ≤ ws.length ∧ i = .int .i64 k ∧ lf = .int .i64 (s - isum ((quoL s ws).take k)) ∧ Own wr w.heap.size 1 (.slice (some ⟨w.heap.size, 0, none⟩) ws.length ws.length) (Is (quoTo s ws k)) ∧
   Own wr (w.heap.size + 1) 1 (.slice (some ⟨w.heap.size + 1, 0, none⟩) ws.length ws.length) (Is (rstTo s ws k)) ∧ Below w.heap.size w wr) (fun _ i _ => ws.length - (intOf i).toNat)
  case atStart => exact ⟨0, Nat.zero_le _, rfl, by simp [isum], by rw [quoTo_zero]; exact hoO, by rw [rstTo_zero]; exact hoR, hbw⟩
  case round =>
   clear hoO hoR hbw
   obtain ⟨k, hk, rfl, rfl, hoO, hoR, hb⟩ := hrel
   by_cases hlt : k < ws.length
   ·obtain ⟨y, hy⟩ := get_some hlt
    obtain ⟨b, off, rfl, ck⟩ := (hrd.below hb (Nat.le_refl _)).intAt hy
    have hbb : b < w.heap.size := by
     obtain ⟨b', off', e, hc'⟩ := hrd.intAt hy
     cases e
     exact World.block_lt_of_cell? _ _ hc'
    have hy0 := HW.out y (List.mem_of_getElem? hy)
    have px0 := Int.mul_nonneg hs.1 hy0.1
    have px1 : s * y ≤ 1000000 * 1000000 := Int.mul_le_mul hs.2 hy0.2 hy0.1 (by omega)
    have QY : quo s ws k = s * y / isum ws := by unfold quo; rw [List.getD_eq_getElem?_getD, hy]; rfl
    have RY : rst s ws k = s * y % isum ws := by unfold rst; rw [List.getD_eq_getElem?_getD, hy]; rfl
    obtain ⟨x1, hx1⟩ := get_some (l := quoTo s ws k) (k := k) (by rw [quoTo_length hk]; exact hlt)
    obtain ⟨x2, hx2⟩ := get_some (l := rstTo s ws k) (k := k) (by rw [rstTo_length hk]; exact hlt)
    obtain ⟨hbs, cu, f0, hset⟩ := hoO.setI hx1
    have s0 := hset (quo s ws k)
    rw [quoTo_set hlt] at s0
    have hoR2 := hoR.setOther (p := ⟨w.heap.size, k, none⟩) (fun e => by have := blk_out e; dsimp only at this; omega) (.int .i64 (quo s ws k))
    obtain ⟨hbs2, cu2, f2, hset2⟩ := hoR2.setI hx2
    have s2 := hset2 (rst s ws k)
    rw [rstTo_set hlt] at s2
    have s1 := s0.setOther (p := ⟨w.heap.size + 1, k, none⟩) (fun e => by have := blk_out e; dsimp only at this; omega) (.int .i64 (rst s ws k))
    have ck2 : (wr.setCell ⟨w.heap.size, k, none⟩ (.int .i64 (quo s ws k))).cell? ⟨b, off + k, none⟩ = some (.int .i64 y) := by
     rw [cell_setOther _ (by dsimp only; omega)]; exact ck
    have cu3 : ((wr.setCell ⟨w.heap.size, k, none⟩ (.int .i64 (quo s ws k))).setCell ⟨w.heap.size + 1, k, none⟩ (.int .i64 (rst s ws k))).cell? ⟨w.heap.size, k, none⟩ = some (.int .i64 (quo s ws k)) := by
     have h1 : (quoTo s ws (k + 1))[k]? = some (quo s ws k) := by
      rw [← quoTo_set hlt, List.getElem?_set_self (by rw [quoTo_length hk]; exact hlt)]
     exact (s1.setI h1).2.1
    have hb2 := (hb.setCell (p := ⟨w.heap.size, k, none⟩) (by simp) (.int .i64 (quo s ws k))).setCell (p := ⟨w.heap.size + 1, k, none⟩) (by simp) (.int .i64 (rst s ws k))
    have hq0 := HB.out k hlt
    have ht1 := HT.out k
    have ht2 := HT.out (k + 1)
    have e1 : isum ((quoL s ws).take (k + 1)) = isum ((quoL s ws).take k) + quo s ws k := isum_take (by simp [quoL, hlt])
    have E1 := Lib.hid e1
    rw [e1] at ht2
    have hlti : (k : Int) < ws.length := by omega
    clear hset hset2 hoO hoR s0 hoR2 e1 hy hx1 hx2
    rw [QY] at *
    rw [RY] at *
    clear QY RY
    go_wp2
    go_roundw
    case rel => exact ⟨k + 1, by omega, by go_num, by rw [E1.out]; congr 1; omega, s1, s2, hb2⟩
    case measure => simp [intOf]; omega
   ·obtain rfl : k = ws.length := by omega
    have hfin : isum ((quoL s ws).take ws.length) = s - (leftN s ws : Int) := by
     rw [List.take_of_length_le (by rw [quoL_length]; exact Nat.le_refl _)]
     unfold leftN
     omega
    rw [quoTo_full] at hoO
    rw [rstTo_full] at hoR
    rw [hfin, show s - (s - (leftN s ws : Int)) = (leftN s ws : Int) by omega]
    clear hfin hk hlt hlf
    go_wp2
    go_loopw [8] (fun lf wr => ∃ t : Nat, t ≤ leftN s ws ∧ lf = .int .i64 ((leftN s ws : Int) - t) ∧ Own wr w.heap.size 1 (.slice (some ⟨w.heap.size, 0, none⟩) ws.length ws.length) (Is (shrT s ws t)) ∧
     Own wr (w.heap.size + 1) 1 (.slice (some ⟨w.heap.size + 1, 0, none⟩) ws.length ws.length) (Is (rsL (rst s ws) ws.length t)) ∧ Below w.heap.size w wr) (fun lf _ => (intOf lf).toNat)
    case atStart => exact ⟨0, Nat.zero_le _, by simp, by rw [shrT_zero]; exact hoO, hoR, hb⟩
    case round =>
     clear hoO hoR hb
     obtain ⟨t, ht, rfl, hoO, hoR, hb⟩ := hrel
     by_cases hlt : t < leftN s ws
     ·have hlt' : (0 : Int) < (leftN s ws : Int) - t := by omega
      go_wp2
      go_loopw [10, 11] (fun at_ i wx => ∃ (k q : Nat), 1 ≤ k ∧ k ≤ ws.length ∧ i = .int .i64 k ∧ at_ = .int .i64 (amax (rstT (rst s ws) ws.length t) k : Nat) ∧ wx = wr.drewN q) (fun _ i _ => ws.length - (intOf i).toNat)
      case atStart => exact ⟨1, 0, Nat.le_refl _, by omega, rfl, rfl, rfl⟩
      case round =>
       obtain ⟨k, q, hk1, hkn, rfl, rfl, rfl⟩ := hrel
       have hoRq := own_drewN hoR q
       by_cases hkl : k < ws.length
       ·obtain ⟨k, rfl⟩ : ∃ k', k = k' + 1 := ⟨k - 1, by omega⟩
        have ha := amax_lt (rstT (rst s ws) ws.length t) k
        have g1 := (hoRq.setI (rsL_get (r := rst s ws) (t := t) hkl)).2.1
        have g2 := (hoRq.setI (rsL_get (r := rst s ws) (t := t) (i := amax (rstT (rst s ws) ws.length t) (k + 1)) (by omega))).2.1
        have hi1 : (k : Int) + 1 < ws.length := by omega
        have hi2 : ((amax (rstT (rst s ws) ws.length t) (k + 1) : Nat) : Int) < ws.length := by omega
        have ek : ((k : Int) + 1).toNat = k + 1 := by omega
        have Hq : Hid (∀ n, ∃ q', (wr.drewN q).drewN n = wr.drewN q') := fun n => ⟨q + n, by rw [World.drewN_drewN]⟩
        clear hoRq
        generalize wr.drewN q = wq at *
        by_cases hc : rstT (rst s ws) ws.length t (amax (rstT (rst s ws) ws.length t) (k + 1)) < rstT (rst s ws) ws.length t (k + 1)
        ·have EA : Hid (amax (rstT (rst s ws) ws.length t) (k + 1 + 1) = k + 1) := by show _ = _; rw [show amax (rstT (rst s ws) ws.length t) (k + 1 + 1) = if rstT (rst s ws) ws.length t (amax (rstT (rst s ws) ws.length t) (k + 1)) < rstT (rst s ws) ws.length t (k + 1) then k + 1 else amax (rstT (rst s ws) ws.length t) (k + 1) from rfl, if_pos hc]
         generalize amax (rstT (rst s ws) ws.length t) (k + 1) = A at *
         go_wp2
         go_quiet (fail)
         go_wp2
         go_roundw
         case rel =>
          obtain ⟨q', hq'⟩ := Hq.out nq
          exact ⟨k + 2, q', by omega, by omega, by go_num, by rw [EA.out], hq'⟩
         case measure => simp [intOf]; omega
        ·have EA : Hid (amax (rstT (rst s ws) ws.length t) (k + 1 + 1) = amax (rstT (rst s ws) ws.length t) (k + 1)) := by show _ = _; rw [show amax (rstT (rst s ws) ws.length t) (k + 1 + 1) = if rstT (rst s ws) ws.length t (amax (rstT (rst s ws) ws.length t) (k + 1)) < rstT (rst s ws) ws.length t (k + 1) then k + 1 else amax (rstT (rst s ws) ws.length t) (k + 1) from rfl, if_neg hc]
         generalize amax (rstT (rst s ws) ws.length t) (k + 1) = A at *
         go_wp2
         go_quiet (fail)
         go_wp2
         go_roundw
         case rel =>
          obtain ⟨q', hq'⟩ := Hq.out nq
          exact ⟨k + 2, q', by omega, by omega, by go_num, by rw [EA.out], hq'⟩
         case measure => simp [intOf]; omega
       ·obtain ⟨p, hp⟩ := get_some (l := ordR (rst s ws) ws.length) (k := t) (by rw [ordR_length]; omega)
        have hrp : ∀ j, j < ws.length → 0 ≤ rst s ws j := fun j _ => Int.emod_nonneg _ (by omega)
        have ea := amax_ord hrp hp
        have hpn : p < ws.length := ordR_mem.1 (List.mem_of_getElem? hp)
        obtain ⟨h1, h2⟩ := shrT_succ hp
        have h3 := rsL_succ hp
        have hq0 := HB.out p hpn
        obtain rfl : k = ws.length := by omega
        rw [ea]
        have hoOq := own_drewN hoO q
        have hbq := below_drewN hb q
        clear hoO hoR hb
        generalize wr.drewN q = wq at *
        obtain ⟨hbs, cu, f0, hset⟩ := hoOq.setI h1
        have s0 := hset (quo s ws p + 1)
        rw [h2] at s0
        have hoR2 := hoRq.setOther (p := ⟨w.heap.size, p, none⟩) (fun e => by have := blk_out e; dsimp only at this; omega) (.int .i64 (quo s ws p + 1))
        obtain ⟨hbs2, cu2, f2, hset2⟩ := hoR2.setI (rsL_get (r := rst s ws) (t := t) hpn)
        have s2 := hset2 (-1)
        rw [h3] at s2
        have s1 := s0.setOther (p := ⟨w.heap.size + 1, p, none⟩) (fun e => by have := blk_out e; dsimp only at this; omega) (.int .i64 (-1))
        have hb2 := (hbq.setCell (p := ⟨w.heap.size, p, none⟩) (by simp) (.int .i64 (quo s ws p + 1))).setCell (p := ⟨w.heap.size + 1, p, none⟩) (by simp) (.int .i64 (-1))
        have hpi : (p : Int) < ws.length := by omega
        clear hset hset2 hoRq hoOq s0 hoR2 h1 h2 h3 hp ea hrp hkl hkn
        go_wp2
        go_roundw
        case rel => exact ⟨t + 1, by omega, by congr 1; push_cast; omega, s1, s2, hb2⟩
        case measure => simp [intOf]; omega
     ·obtain rfl : t = leftN s ws := by omega
      have hlt' : ¬ (0 : Int) < (leftN s ws : Int) - (leftN s ws : Nat) := by omega
      go_wp2
      go_ret
      exact ⟨_, rfl, by rw [HE.out]; exact hoO, hb⟩
end Go.Proofs.YthkkgleoikpfgaaGreatDoor
