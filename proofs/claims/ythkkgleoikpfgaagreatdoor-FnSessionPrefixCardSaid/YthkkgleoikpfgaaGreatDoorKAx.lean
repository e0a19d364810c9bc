/-
  Parts of the proof: Rep.
-/
import Derived.Laws.CopyOwn
import Derived.Deep.RegionLaw
import Derived.Test.YthkkgleoikpfgaaGreatDoorKAk
namespace Go.Proofs.YthkkgleoikpfgaaGreatDoor
open Go Go.RowKit
set_option maxHeartbeats 1000000 in
theorem Mul64_any (y : Nat) (h1 : 1 ≤ y) (h7 : y ≤ 7) (w : World) :
 Calls Tryz.prog 185 #[.int .u64 1, .int .u64 (y : Int)] w fun e w' => e = .returned (.tuple #[.int .u64 0, .int .u64 (y : Int)]) ∧ w' = w := by
 have : y = 1 ∨ y = 2 ∨ y = 3 ∨ y = 4 ∨ y = 5 ∨ y = 6 ∨ y = 7 := by omega
 rcases this with rfl | rfl | rfl | rfl | rfl | rfl | rfl
 all_goals
  go_enter Tryz.func185, Tryz.ntmps185
  go_wp2
  go_ret2
  exact ⟨rfl, rfl⟩
set_option maxHeartbeats 1000000 in
theorem Mul_any (y : Nat) (h1 : 1 ≤ y) (h7 : y ≤ 7) (w : World) :
 Calls Tryz.prog 174 #[.int .u64 1, .int .u64 (y : Int)] w fun e w' => e = .returned (.tuple #[.int .u64 0, .int .u64 (y : Int)]) ∧ w' = w := by
 go_enter Tryz.func174, Tryz.ntmps174
 go_wp2_with (fail)
 refine (Mul64_any y h1 h7 _).mono ?_
 rintro e w2 ⟨rfl, rfl⟩
 go_wp2
 go_ret2
 exact ⟨rfl, rfl⟩
def rL (y n : Nat) : List Value := List.replicate n (.int .i64 1) ++ List.replicate (y - n) (.int .i64 0)
theorem rL_length {y n : Nat} (h : n ≤ y) : (rL y n).length = y := by simp [rL]; omega
theorem rL_splice {y n m : Nat} (h : n + m ≤ y) : splice (rL y n) n (List.replicate m (.int .i64 1)) = rL y (n + m) := by
 unfold splice rL
 rw [List.take_left' (by simp), List.length_replicate, List.drop_append, List.drop_eq_nil_of_le (by simp), List.nil_append, List.length_replicate, List.drop_replicate, ← List.append_assoc, List.replicate_append_replicate]
 congr 2
 omega
theorem copy_rep {w : World} {g y n k m sc : Nat} {a : Addr} (hg : w.heap[g]? = some (.cells (rL y n).toArray 3 (0, 0))) (hm : m = min k (y - n)) (hmn : n + m ≤ y) (hsrc : ∀ j, j < m → w.cell? (a.add j) = some (.int .i64 1)) :
 ∃ w', (Builtin.copy_ #[34, 34] 3 #[.slice (some ⟨g, n, none⟩) (y - n) (y - n), .slice (some a) k sc]).run Tryz.prog w = .ok (.int .i64 (m : Int)) w' ∧ w'.heap[g]? = some (.cells (rL y (n + m)).toArray 3 (0, 0)) ∧ Below g w w' := by
 have h := run_copy_row (P := Tryz.prog) w 34 34 3 3 g n (y - n) (y - n) a k sc (rL y n).toArray 3 (List.replicate m (.int .i64 1)) el_int.und (by kernel_rfl) hg (by rw [List.length_replicate, hm])
  (fun j v hj => by
   obtain ⟨hj1, hj2⟩ := List.getElem?_eq_some_iff.1 hj
   rw [List.length_replicate] at hj1
   rw [List.getElem_replicate] at hj2
   rw [← hj2]
   exact hsrc j hj1)
  (by rw [List.length_replicate]; show _ ≤ (rL y n).toArray.size; rw [List.size_toArray, rL_length (by omega)]; exact hmn)
  (fun v hv => by rw [List.eq_of_mem_replicate hv]; rfl)
 rw [List.length_replicate] at h
 refine ⟨_, h, ?_, below_setRow (Below.refl g w) (Nat.le_refl _) _⟩
 rw [setRow_heap w g _ _ _ _ hg, ← rL_splice hmn]
 unfold splice
 rw [List.length_replicate, List.append_assoc]
set_option maxRecDepth 100000 in
set_option maxHeartbeats 2000000 in
theorem Repeat_any {v : Value} (y : Nat) (h1 : 1 ≤ y) (h7 : y ≤ 7) (w : World) (hv : Rd w 1 v (Is [1])) :
 Calls Tryz.prog 157 #[v, .int .i64 (y : Int)] w fun e w' => ∃ v', e = .returned v' ∧ Own w' w.heap.size 1 v' (Is (List.replicate y 1)) ∧ Ext w w' := by
 obtain ⟨a, c, rfl, hn, hc, hcell⟩ := hv.ints
 obtain ⟨b, off, rfl, hC⟩ := hcell 0 1 rfl
 have ck := hC 0 1 rfl
 clear hcell hC hv
 unfold maxLen at hc
 simp only [List.length_cons, List.length_nil] at hn ⊢
 have hmk := fun W => mk_run (P := Tryz.prog) el_int y y (Nat.le_refl _) (by omega) W
 go_enter Tryz.func157, Tryz.ntmps157
 go_wp2_with (fail)
 refine (Mul_any y h1 h7 _).mono ?_
 rintro e w2 ⟨rfl, rfl⟩
 have hz : madeCells #[Value.int .i64 0] y = (rL y 0).toArray := by
  have h := made_ints y
  rw [Nat.mul_one] at h
  have e : (rL y 0) = Is (List.replicate y 0) := by simp [rL, Is]
  rw [e, ← h]
  rfl
 have hg0 : (w2.alloc (.cells (madeCells #[Value.int .i64 0] y) 3)).heap[w2.heap.size]? = some (.cells (rL y 0).toArray 3 (0, 0)) := by
  rw [← hz]
  exact heap_alloc_new w2 _
 have hb0 := Below.of_alloc w2 (.cells (madeCells #[Value.int .i64 0] y) 3)
 have ck0 := cell_below hb0 ck
 obtain ⟨w3, hcp, hg3, hb3⟩ := copy_rep (a := ⟨b, off, none⟩) (k := 1) (m := 1) (sc := c) hg0 (by omega) (by omega) (fun j hj => by
  obtain rfl : j = 0 := by omega
  rw [Addr.add_lit]
  exact ck0)
 simp only [Nat.sub_zero, Nat.zero_add] at hcp hg3
 replace hb3 := hb0.trans hb3
 clear hg0 hb0 ck0 hz
 go_wp2
 go_loopw [8] (fun n wr => ∃ k : Nat, 1 ≤ k ∧ k ≤ y ∧ n = .int .i64 k ∧ wr.heap[w2.heap.size]? = some (.cells (rL y k).toArray 3 (0, 0)) ∧ Below w2.heap.size w2 wr) (fun n _ => y - (intOf n).toNat)
 case atStart => exact ⟨1, Nat.le_refl _, h1, rfl, hg3, hb3⟩
 case round =>
  clear hg3 hb3 hcp
  obtain ⟨k, hk1, hky, rfl, hg, hb⟩ := hrel
  by_cases hlt : k < y
  ·have hk' : (k : Int) < y := by omega
   have hgd : wr.drew.heap[w2.heap.size]? = some (.cells (rL y k).toArray 3 (0, 0)) := hg
   obtain ⟨m, hm⟩ : ∃ m, m = min k (y - k) := ⟨_, rfl⟩
   obtain ⟨w4, hcp, hg4, hb4⟩ := copy_rep (a := ⟨w2.heap.size, 0, none⟩) (k := k) (m := m) (sc := y) hgd hm (by omega) (fun j hj => by
    rw [Addr.add_lit, cell_of_heap hgd]
    have : (rL y k)[0 + j]? = some (.int .i64 1) := by
     unfold rL
     rw [List.getElem?_append_left (by simp; omega), List.getElem?_replicate, if_pos (by omega)]
    simpa using this)
   have hb5 := hb.drew.trans hb4
   have hm1 : 1 ≤ m := by omega
   have hm2 : k + m ≤ y := by omega
   have hki : (k : Int) ≤ y := by omega
   clear hm hgd hg hb hb4
   go_wp2
   go_region
   go_wp2
   go_roundw
   case rel => exact ⟨k + m, by omega, hm2, by go_num, hg4, hb5⟩
   case measure => simp [intOf]; omega
  ·obtain rfl : k = y := by omega
   have hown : Own wr w2.heap.size 1 (.slice (some ⟨w2.heap.size, 0, none⟩) k k) (Is (List.replicate k 1)) := by
    refine ⟨_, k, k, rfl, by simp [Is], Nat.le_refl _, by unfold maxLen; omega, .inr ⟨w2.heap.size, 0, _, _, rfl, Nat.le_refl _, hg, by rw [List.size_toArray, rL_length (Nat.le_refl _)]; omega, ?_⟩⟩
    simp [rL, Is]
   go_wp2
   go_ret
   exact ⟨_, rfl, hown, hb⟩
end Go.Proofs.YthkkgleoikpfgaaGreatDoor
