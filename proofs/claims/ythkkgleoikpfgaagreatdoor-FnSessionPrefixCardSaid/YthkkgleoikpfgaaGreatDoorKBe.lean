/-
  Parts of the proof: SMut.
-/
import Derived.Deep.Cut
import Derived.StillTailTactics
import Derived.Test.YthkkgleoikpfgaaGreatDoorKAm
import Derived.Test.YthkkgleoikpfgaaGreatDoorKAd
import Derived.Test.YthkkgleoikpfgaaGreatDoorKAa
import Derived.Test.YthkkgleoikpfgaaGreatDoorKAs
namespace Go.Proofs.YthkkgleoikpfgaaGreatDoor
open Go Go.RowKit
set_option maxRecDepth 100000 in
set_option maxHeartbeats 1000000 in
theorem of_any {R m g : Nat} {l : List (List UInt8)} {e : TypeId} (w : World) (h : Rdr R w m) (hm : m ≤ 100000) (hg : w.heap[g]? = some (.cells (Ss l).toArray e)) (hgR : g ≠ R) (hl : l ≠ []) (hl2 : l.length ≤ 100) :
 Calls Tryz.prog 21 #[.pointer (some ⟨R, 0, none⟩), .slice (some ⟨g, 0, none⟩) l.length l.length] w fun e w' => ∃ x, e = .returned (sv x) ∧ x ∈ l ∧ Rdr R w' (m + 1) ∧ ExtR R w w' := by
 have hgl := (Array.getElem?_eq_some_iff.1 hg).1
 have hpos : 0 < l.length := List.length_pos_iff.2 hl
 have Hg := Lib.hid hg
 clear hg hl
 go_enter Tryz.func21, Tryz.ntmps21
 go_wp2_with (fail)
 refine (pick_any (l.length : Int) _ h hm).mono ?_
 rintro e w1 ⟨r, rfl, ⟨r0, r1⟩, hr, hx⟩
 have r1 := r1 (by omega)
 obtain ⟨r, rfl⟩ := Int.eq_ofNat_of_zero_le r0
 obtain ⟨x, hxr⟩ : ∃ x, l[r]? = some x := ⟨_, List.getElem?_eq_getElem (by omega)⟩
 have c1 : w1.cell? ⟨g, r, none⟩ = some (.string ⟨x.toArray⟩) := by
  rw [cell_of_heap (w := w1) (by rw [hx.block g hgl hgR]; exact Hg.out)]
  simp [Ss, hxr, sv]
 have Hx := Lib.hid hxr
 clear hxr h
 go_wp2
 go_ret
 exact ⟨x, rfl, List.mem_of_getElem? Hx.out, hr, hx⟩
/-- the texts that mutate puts in -/
def ofA : List (List UInt8) := [[48], [49], [32], [45], [108], [114], [112], [57]]
def ofB : List (List UInt8) := [[48], [32], [103, 97, 112], [32, 49], [120], [114, 111, 119]]
set_option maxRecDepth 100000 in
set_option maxHeartbeats 1600000 in
theorem mutate_any {R m : Nat} (S : List UInt8) (w : World) (h : Rdr R w m) (hm : m ≤ 90000) (hS : S.length ≤ 100000) :
 Calls Tryz.prog 22 #[.pointer (some ⟨R, 0, none⟩), .string ⟨S.toArray⟩] w fun e w' => ∃ S', e = .returned (sv S') ∧ S'.length ≤ S.length + 10 ∧ ExtR R w w' := by
 have HE : Hid (∀ f, (⟨S.toArray⟩ : ByteArray).extract f S.length = ⟨(S.drop f).toArray⟩) := fun f => (ba_extract S f S.length).trans (by rw [← List.length_drop, List.take_length])
 have HT : Hid (∀ k, (⟨S.toArray⟩ : ByteArray).extract 0 k = ⟨(S.take k).toArray⟩) := fun k => ba_extract S 0 k
 have hRl := h.lt
 go_enter Tryz.func22, Tryz.ntmps22
 go_wp2_with (fail)
 refine (pick_any ((S.length : Int) + 1) _ h (by omega)).mono ?_
 rintro e w1 ⟨k, rfl, ⟨k0, k1⟩, hr1, hx1⟩
 replace k1 := k1 (by omega)
 obtain ⟨k, rfl⟩ := Int.eq_ofNat_of_zero_le k0
 clear h k0
 go_wp2_with (fail)
 refine (pick_any 5 _ hr1 (by omega)).mono ?_
 rintro e w2 ⟨q, rfl, ⟨q0, q1⟩, hr2, hx2⟩
 replace q1 := q1 (by omega)
 have hx := afterR hx1 hx2 (Nat.le_refl _)
 have hR2 := hr2.lt
 clear hr1 hx1 hx2
 obtain ⟨q, rfl⟩ := Int.eq_ofNat_of_zero_le q0
 have hkS : k ≤ S.length := by omega
 clear q0
 have hq : q = 0 ∨ q = 1 ∨ q = 2 ∨ q = 3 ∨ q = 4 := by omega
 have hsz : (⟨S.toArray⟩ : ByteArray).size = S.length := rfl
 rcases hq with rfl | rfl | rfl | rfl | rfl
 ·by_cases hlt : k < S.length
  ·have hki : (k : Int) < S.length := by omega
   have hk0 : (0 : Int) ≤ (k : Int) := by omega
   obtain ⟨j, hj⟩ : ∃ j, j = k + 1 := ⟨_, rfl⟩
   have hw : IntKind.i64.wrap ((k : Int) + 1) = (j : Int) := by rw [IntKind.wrap_i64]; omega
   have hj0 : (0 : Int) ≤ (j : Int) := by omega
   have hj1 : (j : Int) ≤ S.length := by omega
   replace hj : Hid (j = k + 1) := hj
   go_upto_region 5 with fail
   refine wp_region_held_drew (S := fun _ => True) (by kernel_rfl) trivial (fun hS => ?_)
   replace hr2 := hr2.drewN 1
   replace hx := bel_drewN hx 1
   change wpAnyH _ _ _ _ _ _ _ _ w2.drew
   change Rdr R w2.drew _ at hr2
   change Bel R w.heap.size w w2.drew at hx
   replace hR2 : R < w2.drew.heap.size := hR2
   generalize w2.drew = wd at *
   refine hTk hS 0 19 rfl (v := ?_) ?_ ?_
   rotate_left
   ·intro _ _; go_simp; first | done | with_reducible rfl
   simp only [Act.put, lsA, ls0, ls1]
   refine hTk hS 1 20 rfl (v := ?_) ?_ ?_
   rotate_left
   ·intro _ _; go_simp; first | done | with_reducible rfl
   simp only [Act.put, lsA, ls0, ls1]
   refine hTk hS 2 21 rfl (v := ?_) ?_ ?_
   rotate_left
   ·intro _ _; go_simp; first | done | with_reducible rfl
   simp only [Act.put, lsA, ls0, ls1]
   refine hTk hS 3 22 rfl (v := ?_) ?_ ?_
   rotate_left
   ·intro _ _; go_simp; first | done | with_reducible rfl
   simp only [Act.put, lsA, ls0, ls1]
   refine hTk hS 7 26 rfl (v := ?_) ?_ ?_
   rotate_left
   ·intro _ _; go_simp; first | done | with_reducible rfl
   simp only [Act.put, lsA, ls0, ls1]
   refine hTk hS 8 27 rfl (v := ?_) ?_ ?_
   rotate_left
   ·intro _ _; go_simp; first | done | with_reducible rfl
   simp only [Act.put, lsA, ls0, ls1]
   refine hTk hS 9 28 rfl (v := ?_) ?_ ?_
   rotate_left
   ·intro _ _; go_simp; first | done | with_reducible rfl
   simp only [Act.put, lsA, ls0, ls1]
   refine hTk hS 10 29 rfl (v := ?_) ?_ ?_
   rotate_left
   ·intro _ _; go_simp; first | done | with_reducible rfl
   simp only [Act.put, lsA, ls0, ls1]
   rw [HT.out, HE.out]
   obtain ⟨P, hP⟩ : ∃ P, P = S.take k := ⟨_, rfl⟩
   obtain ⟨D, hD⟩ : ∃ D, D = S.drop j := ⟨_, rfl⟩
   rw [← hP, ← hD]
   have hPl : P.length ≤ k := by rw [hP, List.length_take]; omega
   have hDl : D.length ≤ S.length - j := by rw [hD, List.length_drop]; exact Nat.le_refl _
   clear hP hD
   refine wpAnyH_ready (rs := [4]) (by kernel_rfl) (by simp) ?_
   refine AllReadyH.cons (o := _) rfl (fun K9 hK9 => ?_) AllReadyH.nil
   go_simp
   refine hK9.out _ _ trivial (fun hS => ?_)
   clear hK9 K9
   try simp only [Act.put, lsA, ls0, ls1]
   have kA := Keep.new wd (.cells (Ss ofA).toArray 9)
   replace hr2 := hr2.ext (Below.of_alloc wd (.cells (Ss ofA).toArray 9))
   replace hx := afterE hx (Below.of_alloc wd (.cells (Ss ofA).toArray 9)) (Nat.le_refl _)
   change wpAnyH _ _ _ _ _ _ _ _ (wd.alloc (.cells (Ss ofA).toArray 9))
   generalize wd.alloc (.cells (Ss ofA).toArray 9) = we at *
   have hgR : wd.heap.size ≠ R := by omega
   refine wpAnyH_ready (rs := [5]) (by kernel_rfl) (by simp) ?_
   refine AllReadyH.cons (o := _) rfl (fun K9 hK9 => ?_) AllReadyH.nil
   go_simp
   refine (of_any (l := ofA) _ hr2 (by omega) kA hgR (by decide) (by decide)).mono ?_
   rintro e w5 ⟨x, rfl, hxl, hr5, hx5⟩
   have hx9 := Lib.hid (afterR hx hx5 (Nat.le_refl _))
   have hx3 : x.length ≤ 3 := (show ∀ y ∈ ofA, y.length ≤ 3 by decide) x hxl
   unfold sv
   try go_wp2_with fail
   clear hxl hr5 hx5 hx kA hr2
   refine hK9.out _ _ trivial (fun hS => ?_)
   clear hK9 K9
   try simp only [Act.put, lsA, ls0, ls1]
   have hnb : ¬ 9223372036854775807 < P.length + x.length := by omega
   refine hTk hS 6 25 rfl (v := ?_) ?_ ?_
   rotate_left
   ·intro _ _; go_simp; first | done | with_reducible rfl
   simp only [Act.put, lsA, ls0, ls1]
   rw [ba_append]
   have hPx : (P ++ x).length ≤ P.length + x.length := Nat.le_of_eq List.length_append
   generalize P ++ x = Px at *
   have hnc : ¬ 9223372036854775807 < Px.length + D.length := by omega
   refine hTk hS 11 30 rfl (v := ?_) ?_ ?_
   rotate_left
   ·intro _ _; go_simp; first | done | with_reducible rfl
   simp only [Act.put, lsA, ls0, ls1]
   refine hTk hS 12 4 rfl (v := ?_) ?_ ?_
   rotate_left
   ·intro _ _; go_simp; first | done | with_reducible rfl
   simp only [Act.put, lsA, ls0, ls1]
   refine wpAnyH_done (by kernel_rfl) ?_ _
   rw [ba_append]
   go_wp2
   go_ret
   exact ⟨_, rfl, by have := hj.out; rw [List.length_append]; omega, hx9.out⟩
  ·have hki : ¬ (k : Int) < S.length := by omega
   go_wp2
   go_ret
   exact ⟨S, rfl, by omega, hx⟩
 ·have hki : (k : Int) ≤ S.length := by omega
  have hk0 : (0 : Int) ≤ (k : Int) := by omega
  go_wp2
  go_ret
  exact ⟨S.take k, by first | (rw [HT.out]; rfl) | (rw [← HT.out]; rfl), by rw [List.length_take]; omega, hx⟩
 ·go_wp2_with (fail)
  change Calls _ _ _ (w2.alloc (.cells (Ss ofB).toArray 9)) _
  have kB := Keep.new w2 (.cells (Ss ofB).toArray 9)
  replace hr2 := hr2.ext (Below.of_alloc w2 (.cells (Ss ofB).toArray 9))
  replace hx := afterE hx (Below.of_alloc w2 (.cells (Ss ofB).toArray 9)) (Nat.le_refl _)
  generalize w2.alloc (.cells (Ss ofB).toArray 9) = we at *
  generalize w2.heap.size = g at *
  refine (of_any (l := ofB) _ hr2 (by omega) kB (by omega) (by decide) (by decide)).mono ?_
  rintro e w5 ⟨x, rfl, hxl, hr5, hx5⟩
  have hx9 := Lib.hid (afterR hx hx5 (Nat.le_refl _))
  have hx3 : x.length ≤ 3 := (show ∀ y ∈ ofB, y.length ≤ 3 by decide) x hxl
  have HAP := Lib.hid (ba_append S x)
  unfold sv
  clear hxl hr5 hx5 hx kB hr2
  go_wp2
  go_ret
  exact ⟨S ++ x, by first | (rw [HAP.out]; rfl) | (rw [← HAP.out]; rfl), by rw [List.length_append]; omega, hx9.out⟩
 ·go_wp2
  go_ret
  exact ⟨S, rfl, by omega, hx⟩
 ·go_wp2
  go_ret
  exact ⟨S, rfl, by omega, hx⟩
end Go.Proofs.YthkkgleoikpfgaaGreatDoor
