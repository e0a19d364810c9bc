/-
  Parts of the proof: ITxt FTxt Ptr.
-/
import Derived.Deep.Cut
import Derived.IntWalk
import Derived.StillTailTactics
import Derived.Test.YthkkgleoikpfgaaGreatDoorKAh
import Derived.Test.YthkkgleoikpfgaaGreatDoorKAd
import Derived.Test.YthkkgleoikpfgaaGreatDoorKAa
import Derived.Test.YthkkgleoikpfgaaGreatDoorKAe
import Derived.Test.YthkkgleoikpfgaaGreatDoorKAf
namespace Go.Proofs.YthkkgleoikpfgaaGreatDoor
open Go Go.RowKit
/-- below B nothing has turned, and block h holds o -/
def SK (B : Nat) (W : World) (h : Nat) (o : Obj) (w' : World) : Prop := Below B W w' ∧ Keep h o w'
theorem SK.ext {B h : Nat} {W w1 w2 : World} {o : Obj} (s : SK B W h o w1) (hx : Ext w1 w2) (hB : B ≤ W.heap.size) : SK B W h o w2 := ⟨after s.1 hx hB, keepE s.2 hx⟩
theorem SK.alloc {B h : Nat} {W w1 : World} {o : Obj} (s : SK B W h o w1) (x : Obj) (hB : B ≤ W.heap.size) : SK B W h o (w1.alloc x) := s.ext (Below.of_alloc _ _) hB
theorem SK.app {B h : Nat} {W w1 w2 : World} {o : Obj} {v : Value} {base size : Nat} {xs : List Value} (s : SK B W h o w1) (ho : Own w1 base size v xs) (hg : w1.grownBy w2 (blk v)) (hB : B ≤ W.heap.size) (hb : B ≤ base) (hne : blk v ≠ some h) : SK B W h o w2 := by
 refine ⟨below_app s.1 ho hg (Nat.le_trans hB s.1.size) hb, ?_⟩
 unfold Keep
 rw [hg.block h s.2.lt (fun e => hne e.symm)]
 exact s.2
/-- the block of a list that grew -/
theorem blk_app {v v' : Value} {h : Nat} {w : World} (hf : blk v' = blk v ∨ ∃ k, blk v' = some k ∧ w.heap.size ≤ k) (hne : blk v ≠ some h) (hl : h < w.heap.size) : blk v' ≠ some h := by
 intro e
 rcases hf with h1 | ⟨k, h1, h2⟩
 ·rw [h1] at e
  exact hne e
 ·rw [h1] at e
  cases e
  omega
theorem Own.noBlk {w : World} {base size : Nat} {v : Value} {xs : List Value} (ho : Own w base size v xs) : blk v ≠ some w.heap.size := fun e => by
 have := (ho.lt _ e).2
 omega
theorem two_rd (w : World) (s t : List UInt8) : Rd (w.alloc (.cells #[sv s, sv t] 9)) 1 (.slice (some ⟨w.heap.size, 0, none⟩) 2 2) (Ss [s, t]) := by
 have h := (Own.made w #[sv s, sv t] 9 w.heap.size 1 2 2 (Nat.le_refl _) (Nat.le_refl _) (by decide) rfl).rd
 exact h
set_option maxHeartbeats 1000000 in
theorem kindNames_any (w : World) : Calls Tryz.prog 82 #[] w fun e w' => e = .returned (.agg #[.string ⟨#[108, 101, 97, 102]⟩, .string ⟨#[98, 108, 111, 99, 107]⟩, .string ⟨#[114, 111, 119]⟩, .string ⟨#[99, 111, 108, 117, 109, 110]⟩]) ∧ Ext w w' := by
 go_enter Tryz.func82, Tryz.ntmps82
 go_wp2
 refine bodyPost_ret (v := .agg #[.string ⟨#[108, 101, 97, 102]⟩, .string ⟨#[98, 108, 111, 99, 107]⟩, .string ⟨#[114, 111, 119]⟩, .string ⟨#[99, 111, 108, 117, 109, 110]⟩]) ?_ rfl ⟨rfl, ?_⟩
 ·simp [results, Tryz.results82, go_sem]
 ·exact Below.of_alloc _ _
set_option maxRecDepth 100000 in
set_option maxHeartbeats 1000000 in
theorem styles_any (g : Nat) (w : World) :
 Calls Tryz.prog 84 #[.pointer (some ⟨g, 0, none⟩)] w fun e w' => e = .returned (.slice (some ⟨w.heap.size, 0, none⟩) 5 5) ∧ Keep w.heap.size (.cells #[.string ⟨#[112, 97, 100]⟩, .pointer (some ⟨g, 4, none⟩), .string ⟨#[103, 97, 112]⟩, .pointer (some ⟨g, 5, none⟩), .string ⟨#[103, 114, 111, 119]⟩, .pointer (some ⟨g, 6, none⟩), .string ⟨#[115, 104, 114, 105, 110, 107]⟩, .pointer (some ⟨g, 7, none⟩), .string ⟨#[106, 117, 115, 116, 105, 102, 121]⟩, .pointer (some ⟨g, 8, none⟩)] 119) w' ∧ Ext w w' := by
 have hk := Keep.new w (.cells #[.string ⟨#[112, 97, 100]⟩, .pointer (some ⟨g, 4, none⟩), .string ⟨#[103, 97, 112]⟩, .pointer (some ⟨g, 5, none⟩), .string ⟨#[103, 114, 111, 119]⟩, .pointer (some ⟨g, 6, none⟩), .string ⟨#[115, 104, 114, 105, 110, 107]⟩, .pointer (some ⟨g, 7, none⟩), .string ⟨#[106, 117, 115, 116, 105, 102, 121]⟩, .pointer (some ⟨g, 8, none⟩)] 119)
 have hb := Below.of_alloc w (.cells #[.string ⟨#[112, 97, 100]⟩, .pointer (some ⟨g, 4, none⟩), .string ⟨#[103, 97, 112]⟩, .pointer (some ⟨g, 5, none⟩), .string ⟨#[103, 114, 111, 119]⟩, .pointer (some ⟨g, 6, none⟩), .string ⟨#[115, 104, 114, 105, 110, 107]⟩, .pointer (some ⟨g, 7, none⟩), .string ⟨#[106, 117, 115, 116, 105, 102, 121]⟩, .pointer (some ⟨g, 8, none⟩)] 119)
 go_enter Tryz.func84, Tryz.ntmps84
 go_upto_region 1 with fail
 go_region
 go_wp2
 go_ret
 exact ⟨rfl, hk, hb.drew⟩
theorem vlT_le {b : Bx} (h : okB b = true) (k : Nat) : 0 ≤ vlT b k ∧ vlT b k ≤ 100 := by
 have hb := okB_bounds h
 unfold vlT
 split <;> omega
theorem index_names (w : World) {k : Int} (h : k = 0 ∨ k = 1 ∨ k = 2 ∨ k = 3) : Sem.run Tryz.prog (Instr.index 113 (.agg #[.string ⟨#[108, 101, 97, 102]⟩, .string ⟨#[98, 108, 111, 99, 107]⟩, .string ⟨#[114, 111, 119]⟩, .string ⟨#[99, 111, 108, 117, 109, 110]⟩]) (.int .i64 k)) w = .ok (.string ⟨(kindT k).toArray⟩) w := by
 have hu : Tryz.prog.underlying 113 = some (.array 4 9) := by kernel_rfl
 rcases h with rfl | rfl | rfl | rfl
 ·simp [Instr.index, run_underlying hu, asIntOf, go_sem]
  rfl
 ·simp [Instr.index, run_underlying hu, asIntOf, go_sem]
  rfl
 ·simp [Instr.index, run_underlying hu, asIntOf, go_sem]
  rfl
 ·simp [Instr.index, run_underlying hu, asIntOf, go_sem]
  rfl
/-- the words of a box with the first k styles -/
def wordsTo (b : Bx) (k : Nat) : List (List UInt8) := kindT b.kind :: (leafW b ++ styTo b k)
theorem words_five (b : Bx) : Lib.join (wordsTo b 5) [32] = boxT b := by
 unfold wordsTo boxT
 rw [join_words, restW_eq]
theorem words_zero_leaf {b : Bx} (h : b.kind = 0) : wordsTo b 0 = [kindT b.kind] ++ [numT b.w, numT b.h] := by
 unfold wordsTo leafW
 rw [if_pos h]
 rfl
theorem words_zero {b : Bx} (h : b.kind ≠ 0) : wordsTo b 0 = [kindT b.kind] := by
 unfold wordsTo leafW
 rw [if_neg h]
 rfl
theorem words_no {b : Bx} {k : Nat} (h : vlT b k = 0) : wordsTo b (k + 1) = wordsTo b k := by
 unfold wordsTo
 rw [styTo]
 unfold styT
 rw [if_pos h, List.append_nil]
theorem words_yes {b : Bx} {k : Nat} (h : vlT b k ≠ 0) : wordsTo b (k + 1) = wordsTo b k ++ [nmT k, numT (vlT b k)] := by
 unfold wordsTo
 rw [styTo]
 unfold styT
 rw [if_neg h, ← List.append_assoc]
 rfl
theorem words_len (b : Bx) : ∀ k, (wordsTo b k).length ≤ 3 + 2 * k
 | 0 => by
  by_cases h : b.kind = 0
  ·rw [words_zero_leaf h]
   simp
  ·rw [words_zero h]
   simp
 | k + 1 => by
  have ih := words_len b k
  by_cases h : vlT b k = 0
  ·rw [words_no h]
   omega
  ·rw [words_yes h, List.length_append]
   simp
   omega
set_option maxRecDepth 100000 in
set_option maxHeartbeats 1600000 in
theorem text_any {b : Bx} (w : World) (hok : okB b = true) (ht : Tab w) :
 Calls Tryz.prog 86 #[b.agg] w fun e w' => e = .returned (sv (boxT b)) ∧ Ext w w' := by
 have hb := okB_bounds hok
 have kb := Keep.new w (.cells #[.int .i64 b.parent, .int .i64 b.kind, .int .i64 b.w, .int .i64 b.h, .int .i64 b.pad, .int .i64 b.gap, .int .i64 b.grow, .int .i64 b.shrink, .int .i64 b.justify] 39)
 have hb0 := Below.of_alloc w (.cells #[.int .i64 b.parent, .int .i64 b.kind, .int .i64 b.w, .int .i64 b.h, .int .i64 b.pad, .int .i64 b.gap, .int .i64 b.grow, .int .i64 b.shrink, .int .i64 b.justify] 39)
 have HVL := Lib.hid (vlT_le hok)
 have HBL := Lib.hid (show (boxT b).length ≤ 1300 by
  rw [← outTo_five]
  exact outTo_len (by omega) (by omega) (fun k => (vlT_le hok k).2) 5)
 have HT := Lib.hid (fun w' (h : Below w.heap.size w w') => ht.below h (Nat.le_refl _))
 have hk : b.kind = 0 ∨ b.kind = 1 ∨ b.kind = 2 ∨ b.kind = 3 := by omega
 clear ht
 unfold Bx.agg
 go_enter Tryz.func86, Tryz.ntmps86
 go_upto_region 1 with fail
 generalize w.alloc (.cells #[.int .i64 b.parent, .int .i64 b.kind, .int .i64 b.w, .int .i64 b.h, .int .i64 b.pad, .int .i64 b.gap, .int .i64 b.grow, .int .i64 b.shrink, .int .i64 b.justify] 39) = W at *
 obtain ⟨g, hg⟩ : ∃ g, w.heap.size = g := ⟨_, rfl⟩
 rw [hg] at kb ⊢
 have hgl := kb.lt
 clear hg
 have c1 : W.cell? ⟨g, 1, none⟩ = some (.int .i64 b.kind) := kb.cell 1
 refine wp_region_held_drew (S := fun w' => Below W.heap.size W w') (by kernel_rfl) (Below.refl _ _).drew (fun hS => ?_)
 change wpAnyH _ _ _ _ _ _ _ _ W.drew
 generalize W.drew = wd at *
 refine hTk hS 1 7 rfl (v := ?_) ?_ ?_
 rotate_left
 ·intro _ _; go_simp; first | done | with_reducible rfl
 simp only [Act.put, lsA, ls0, ls1]
 refine hTk hS 2 8 rfl (v := ?_) ?_ ?_
 rotate_left
 ·intro w9 hS9; have q := cellB hS9 c1; go_simp; first | done | with_reducible rfl
 simp only [Act.put, lsA, ls0, ls1]
 refine wpAnyH_ready (rs := [0]) (by kernel_rfl) (by simp) ?_
 refine AllReadyH.cons (o := _) rfl (fun K9 hK9 => ?_) AllReadyH.nil
 go_simp
 refine (kindNames_any _).mono ?_
 rintro e w7 ⟨rfl, hx7⟩
 try go_wp2_with fail
 refine hK9.out _ _ (after hS hx7 (Nat.le_refl _)) (fun hS => ?_)
 clear hK9 K9
 try simp only [Act.put, lsA, ls0, ls1]
 clear hx7
 refine hTake (by kernel_rfl) (fun d _ _ _ _ h => by cases d <;> exact h) hS 3 (some 9) _ rfl (v := .string ⟨(kindT b.kind).toArray⟩) (by kernel_rfl) ?_ ?_
 ·intro w9 hS9
  have hix := index_names w9 hk
  go_simp
 simp only [Act.put, lsA, ls0, ls1]
 refine wpAnyH_ready (rs := [4]) (by kernel_rfl) (by simp) ?_
 refine AllReadyH.cons (o := _) rfl (fun K9 hK9 => ?_) AllReadyH.nil
 go_simp
 have hsz7 := hS.size
 have ho := Own.made w7 #[.string ⟨(kindT b.kind).toArray⟩] 9 W.heap.size 1 1 1 hsz7 (Nat.le_refl _) (by decide) rfl
 replace ho : Own (w7.alloc (.cells #[.string ⟨(kindT b.kind).toArray⟩] 9)) W.heap.size 1 (.slice (some ⟨w7.heap.size, 0, none⟩) 1 1) (Ss [kindT b.kind]) := ho
 refine hK9.out _ _ (hS.alloc hS.size _) (fun hS => ?_)
 clear hK9 K9
 try simp only [Act.put, lsA, ls0, ls1]
 refine hTk hS 5 3 rfl (v := ?_) ?_ ?_
 rotate_left
 ·intro _ _; go_simp; first | done | with_reducible rfl
 simp only [Act.put, lsA, ls0, ls1]
 refine wpAnyH_done (by kernel_rfl) ?_ _
 have hgB : g < W.heap.size := hgl
 have hBw := hb0.size
 generalize w7.alloc (.cells #[.string ⟨(kindT b.kind).toArray⟩] 9) = X at *
 generalize w7.heap.size = q at *
 have kbX : Keep g (.cells #[.int .i64 b.parent, .int .i64 b.kind, .int .i64 b.w, .int .i64 b.h, .int .i64 b.pad, .int .i64 b.gap, .int .i64 b.grow, .int .i64 b.shrink, .int .i64 b.justify] 39) X := (hS.block g hgB).trans kb
 have HTX := Lib.hid (fun w' (h : Below W.heap.size X w') => HT.out w' (hb0.trans ((hS.trans h).mono hBw)))
 have HBX := Lib.hid (fun w' (h : Below W.heap.size X w') => (show Below w.heap.size w w' from hb0.trans ((hS.trans h).mono hBw)))
 have hXs : W.heap.size ≤ X.heap.size := hS.size
 generalize W.heap.size = B at *
 clear hS kb hb0 HT c1 hsz7 hk
 have cX : X.cell? ⟨g, 1, none⟩ = some (.int .i64 b.kind) := kbX.cell 1
 by_cases hkd : b.kind = 0
 ·have hkd' : (b.kind == 0) = true := by simp [hkd]
  have HZ := Lib.hid (words_zero_leaf hkd)
  have HNW := Lib.hid (fun w (htb : Tab w) => itoa_any (n := b.w) w (by omega) htb)
  have HNH := Lib.hid (fun w (htb : Tab w) => itoa_any (n := b.h) w (by omega) htb)
  have KX := Lib.hid (fun w' (h : Below B X w') => (show Keep g (.cells #[.int .i64 b.parent, .int .i64 b.kind, .int .i64 b.w, .int .i64 b.h, .int .i64 b.pad, .int .i64 b.gap, .int .i64 b.grow, .int .i64 b.shrink, .int .i64 b.justify] 39) w' from (h.block g hgB).trans kbX))
  clear hkd
  go_upto_region 3 with fail
  refine wp_region_held_drew (S := fun w' => Below B X w') (by kernel_rfl) (Below.refl _ _).drew (fun hS => ?_)
  have ho0 := ho.drew
  clear ho kbX cX
  generalize X.drew = wd at *
  refine hTk hS 0 14 rfl (v := ?_) ?_ ?_
  rotate_left
  ·intro _ _; go_simp; first | done | with_reducible rfl
  simp only [Act.put, lsA, ls0, ls1]
  refine hTk hS 1 15 rfl (v := ?_) ?_ ?_
  rotate_left
  ·intro _ _; go_simp; first | done | with_reducible rfl
  simp only [Act.put, lsA, ls0, ls1]
  refine hTk hS 2 16 rfl (v := ?_) ?_ ?_
  rotate_left
  ·intro w9 hS9; have q := (KX.out _ hS9).cell 2; go_simp; first | done | with_reducible rfl
  simp only [Act.put, lsA, ls0, ls1]
  refine hTk hS 4 18 rfl (v := ?_) ?_ ?_
  rotate_left
  ·intro _ _; go_simp; first | done | with_reducible rfl
  simp only [Act.put, lsA, ls0, ls1]
  refine hTk hS 5 19 rfl (v := ?_) ?_ ?_
  rotate_left
  ·intro w9 hS9; have q := (KX.out _ hS9).cell 3; go_simp; first | done | with_reducible rfl
  simp only [Act.put, lsA, ls0, ls1]
  refine wpAnyH_ready (rs := [3]) (by kernel_rfl) (by simp) ?_
  refine AllReadyH.cons (o := _) rfl (fun K9 hK9 => ?_) AllReadyH.nil
  go_simp
  refine (HNW.out _ (HTX.out _ hS)).mono ?_
  rintro e w8 ⟨rfl, hx⟩
  unfold sv
  try go_wp2_with fail
  replace ho0 := ho0.below hx (Nat.le_refl _)
  refine hK9.out _ _ (after hS hx hXs) (fun hS => ?_)
  clear hK9 K9
  try simp only [Act.put, lsA, ls0, ls1]
  clear hx
  refine wpAnyH_ready (rs := [6]) (by kernel_rfl) (by simp) ?_
  refine AllReadyH.cons (o := _) rfl (fun K9 hK9 => ?_) AllReadyH.nil
  go_simp
  refine (HNH.out _ (HTX.out _ hS)).mono ?_
  rintro e w9 ⟨rfl, hx⟩
  unfold sv
  try go_wp2_with fail
  replace ho0 := ho0.below hx (Nat.le_refl _)
  refine hK9.out _ _ (after hS hx hXs) (fun hS => ?_)
  clear hK9 K9
  try simp only [Act.put, lsA, ls0, ls1]
  clear hx
  refine wpAnyH_ready (rs := [7]) (by kernel_rfl) (by simp) ?_
  refine AllReadyH.cons (o := _) rfl (fun K9 hK9 => ?_) AllReadyH.nil
  go_simp
  refine hK9.out _ _ (after hS (Below.of_alloc _ _) hXs) (fun hS => ?_)
  clear hK9 K9
  try simp only [Act.put, lsA, ls0, ls1]
  refine wpAnyH_ready (rs := [8]) (by kernel_rfl) (by simp) ?_
  refine AllReadyH.cons (o := _) rfl (fun K9 hK9 => ?_) AllReadyH.nil
  refine step_app rfl _ _ _ rfl el_str rfl (ho0.alloc _) rfl (show Rd _ 1 _ (Ss [numT b.w, numT b.h]) from two_rd _ _ _) (Ss_one _) ?hl1 ?hb1 ?hK1
  case hl1 => rw [Ss_length, Ss_length]; simp
  case hb1 => exact Nat.le_trans hXs hS.size
  intro v8 w10 ho8 hg8 hf8
  have hS8 := below_app hS (ho0.alloc _) hg8 (Nat.le_trans hXs hS.size) (Nat.le_refl _)
  refine hK9.out _ _ hS8 (fun hS => ?_)
  clear hK9 K9
  try simp only [Act.put, List.setIfInBounds_toArray]
  refine hTk hS 9 3 rfl (v := ?_) ?_ ?_
  rotate_left
  ·intro _ _; go_simp; first | done | with_reducible rfl
  simp only [Act.put]
  refine wpAnyH_done (by kernel_rfl) ?_ _
  rw [← Ss_append, ← HZ.out] at ho8
  have kbX := KX.out _ hS8
  have HTX3 := HTX
  have HTX := Lib.hid (fun w' (h : Below B w10 w') => HTX3.out w' (hS8.trans h))
  have HBX3 := HBX
  have HBX := Lib.hid (fun w' (h : Below B w10 w') => HBX3.out w' (hS8.trans h))
  have hXs := Nat.le_trans hXs hS8.size
  have ho := ho8
  clear hg8 hf8 ho0 hS8 ho8 HTX3 HBX3 KX HNW HNH HZ
  -- the words vo in world X
  go_wp2_with (fail)
  refine (styles_any g _).mono ?_
  rintro e w9 ⟨rfl, hst, hx⟩
  have hne := ho.noBlk
  replace ho := ho.below hx (Nat.le_refl _)
  replace kbX := keepE kbX hx
  have hbX9 := after (Below.refl B w10) hx hXs
  have hB9 : B ≤ w9.heap.size := Nat.le_trans hXs hbX9.size
  generalize w10.heap.size = h at *
  have KG := Lib.hid (fun w' (hq : Below B w9 w') => (show Keep g (.cells #[.int .i64 b.parent, .int .i64 b.kind, .int .i64 b.w, .int .i64 b.h, .int .i64 b.pad, .int .i64 b.gap, .int .i64 b.grow, .int .i64 b.shrink, .int .i64 b.justify] 39) w' from (hq.block g (by omega)).trans kbX))
  have HT9 := Lib.hid (fun w' (hq : Below B w9 w') => HTX.out w' (hbX9.trans hq))
  have HB9 := Lib.hid hbX9
  clear kbX hx hbX9
  go_wp2
  go_loopw [3, 25] (fun o i wr => ∃ k : Nat, i = .int .i64 k ∧ k ≤ 5 ∧ Own wr B 1 o (Ss (wordsTo b k)) ∧ blk o ≠ some h ∧ SK B w9 h (.cells #[.string ⟨#[112, 97, 100]⟩, .pointer (some ⟨g, 4, none⟩), .string ⟨#[103, 97, 112]⟩, .pointer (some ⟨g, 5, none⟩), .string ⟨#[103, 114, 111, 119]⟩, .pointer (some ⟨g, 6, none⟩), .string ⟨#[115, 104, 114, 105, 110, 107]⟩, .pointer (some ⟨g, 7, none⟩), .string ⟨#[106, 117, 115, 116, 105, 102, 121]⟩, .pointer (some ⟨g, 8, none⟩)] 119) wr) (fun _ i _ => 5 - (intOf i).toNat)
  case atStart => exact ⟨0, rfl, by omega, ho, hne, Below.refl _ _, hst⟩
  case round =>
   clear ho hne hst
   obtain ⟨k, rfl, hk, ho, hne, hsk⟩ := hrel
   have hwB : B ≤ wr.heap.size := Nat.le_trans hB9 hsk.1.size
   by_cases hlt : k < 5
   ·have hki : (k : Int) < 5 := by omega
    have hk0 : (0 : Int) ≤ (k : Int) := by omega
    have e0 : wr.cell? ⟨h, k * 2, none⟩ = some (.string ⟨(nmT k).toArray⟩) := by
     rw [hsk.2.cell (k * 2)]
     have : k = 0 ∨ k = 1 ∨ k = 2 ∨ k = 3 ∨ k = 4 := by omega
     rcases this with rfl | rfl | rfl | rfl | rfl <;> rfl
    have e1 : wr.cell? ⟨h, k * 2 + 1, none⟩ = some (.pointer (some ⟨g, 4 + k, none⟩)) := by
     rw [hsk.2.cell (k * 2 + 1)]
     have : k = 0 ∨ k = 1 ∨ k = 2 ∨ k = 3 ∨ k = 4 := by omega
     rcases this with rfl | rfl | rfl | rfl | rfl <;> rfl
    go_upto_region 7 with fail
    have kt := Keep.new wr (.cells #[.string ⟨(nmT k).toArray⟩, .pointer (some ⟨g, 4 + k, none⟩)] 119)
    replace hsk := hsk.alloc (.cells #[.string ⟨(nmT k).toArray⟩, .pointer (some ⟨g, 4 + k, none⟩)] 119) hB9
    have hnt := ho.noBlk
    replace ho := ho.alloc (.cells #[.string ⟨(nmT k).toArray⟩, .pointer (some ⟨g, 4 + k, none⟩)] 119)
    clear e0 e1
    generalize wr.alloc (.cells #[.string ⟨(nmT k).toArray⟩, .pointer (some ⟨g, 4 + k, none⟩)] 119) = W1 at *
    generalize wr.heap.size = t at *
    have t0 := kt.cell 0
    have t1 := kt.cell 1
    have GV := Lib.hid (fun w' (hq : Below B w9 w') => (show w'.cell? ⟨g, 4 + k, none⟩ = some (.int .i64 (vlT b k)) by
     rw [(KG.out w' hq).cell (4 + k)]
     have : k = 0 ∨ k = 1 ∨ k = 2 ∨ k = 3 ∨ k = 4 := by omega
     rcases this with rfl | rfl | rfl | rfl | rfl <;> rfl))
    have gv := GV.out _ hsk.1
    have hvl := HVL.out k
    have hwl := words_len b k
    have HNO := Lib.hid (words_no (b := b) (k := k))
    have HYES := Lib.hid (words_yes (b := b) (k := k))
    by_cases hv : vlT b k = 0
    ·have hv' : (vlT b k != 0) = false := by rw [hv]; rfl
     have HZ := Lib.hid (HNO.out hv)
     clear HNO HYES hv kt hwl
     go_wp2
     go_roundw
     case rel => exact ⟨k + 1, by go_num, by omega, by rw [HZ.out]; exact ho, hne, hsk⟩
     case measure => simp [intOf]; omega
    ·have hv' : (vlT b k != 0) = true := by rw [bne_iff_ne]; exact hv
     have HZ := Lib.hid (HYES.out hv)
     have hs1 : B ≤ W1.heap.size := by have := hsk.1.size; omega
     have HN := Lib.hid (fun w (htb : Tab w) => itoa_any (n := vlT b k) w hvl htb)
     generalize vlT b k = n at *
     clear HNO HYES hv
     go_upto_region 8 with fail
     clear t0 t1 gv
     refine wp_region_held_drew (S := fun w' => SK B w9 h (.cells #[.string ⟨#[112, 97, 100]⟩, .pointer (some ⟨g, 4, none⟩), .string ⟨#[103, 97, 112]⟩, .pointer (some ⟨g, 5, none⟩), .string ⟨#[103, 114, 111, 119]⟩, .pointer (some ⟨g, 6, none⟩), .string ⟨#[115, 104, 114, 105, 110, 107]⟩, .pointer (some ⟨g, 7, none⟩), .string ⟨#[106, 117, 115, 116, 105, 102, 121]⟩, .pointer (some ⟨g, 8, none⟩)] 119) w' ∧ Keep t (.cells #[.string ⟨(nmT k).toArray⟩, .pointer (some ⟨g, 4 + k, none⟩)] 119) w') (by kernel_rfl) ⟨⟨hsk.1.drew, hsk.2⟩, kt⟩ (fun hS => ?_)
     have ho0 := ho.drew
     clear ho kt hsk
     generalize W1.drew = wd at *
     refine hTk hS 0 34 rfl (v := ?_) ?_ ?_
     rotate_left
     ·intro _ _; go_simp; first | done | with_reducible rfl
     simp only [Act.put, lsA, ls0, ls1]
     refine hTk hS 1 35 rfl (v := ?_) ?_ ?_
     rotate_left
     ·intro _ _; go_simp; first | done | with_reducible rfl
     simp only [Act.put, lsA, ls0, ls1]
     refine hTk hS 2 36 rfl (v := ?_) ?_ ?_
     rotate_left
     ·intro w9 hS9; have q := hS9.2.cell 0; go_simp; first | done | with_reducible rfl
     simp only [Act.put, lsA, ls0, ls1]
     refine hTk hS 3 37 rfl (v := ?_) ?_ ?_
     rotate_left
     ·intro _ _; go_simp; first | done | with_reducible rfl
     simp only [Act.put, lsA, ls0, ls1]
     refine hTk hS 4 38 rfl (v := ?_) ?_ ?_
     rotate_left
     ·intro w9 hS9; have q := hS9.2.cell 1; go_simp; first | done | with_reducible rfl
     simp only [Act.put, lsA, ls0, ls1]
     refine hTk hS 5 39 rfl (v := ?_) ?_ ?_
     rotate_left
     ·intro _ _; go_simp; first | done | with_reducible rfl
     simp only [Act.put, lsA, ls0, ls1]
     refine hTk hS 6 40 rfl (v := ?_) ?_ ?_
     rotate_left
     ·intro w9 hS9; have q := GV.out _ hS9.1.1; go_simp; first | done | with_reducible rfl
     simp only [Act.put, lsA, ls0, ls1]
     refine wpAnyH_ready (rs := [7]) (by kernel_rfl) (by simp) ?_
     refine AllReadyH.cons (o := _) rfl (fun K9 hK9 => ?_) AllReadyH.nil
     go_simp
     refine (HN.out _ (HT9.out _ hS.1.1)).mono ?_
     rintro e w10 ⟨rfl, hx⟩
     unfold sv
     try go_wp2_with fail
     replace ho0 := ho0.below hx (Nat.le_refl _)
     refine hK9.out _ _ ⟨hS.1.ext hx hB9, keepE hS.2 hx⟩ (fun hS => ?_)
     clear hK9 K9
     try simp only [Act.put, lsA, ls0, ls1]
     clear hx
     refine wpAnyH_ready (rs := [8]) (by kernel_rfl) (by simp) ?_
     refine AllReadyH.cons (o := _) rfl (fun K9 hK9 => ?_) AllReadyH.nil
     go_simp
     refine hK9.out _ _ ⟨hS.1.alloc _ hB9, hS.2.alloc _⟩ (fun hS => ?_)
     clear hK9 K9
     try simp only [Act.put, lsA, ls0, ls1]
     refine wpAnyH_ready (rs := [9]) (by kernel_rfl) (by simp) ?_
     refine AllReadyH.cons (o := _) rfl (fun K9 hK9 => ?_) AllReadyH.nil
     refine step_app rfl _ _ _ rfl el_str rfl (ho0.alloc _) rfl (show Rd _ 1 _ (Ss [nmT k, numT n]) from two_rd _ _ _) (Ss_one _) ?hla ?hba ?hKa
     case hla => rw [Ss_length, Ss_length]; simp only [List.length_cons, List.length_nil]; omega
     case hba => exact Nat.le_trans hB9 hS.1.1.size
     intro v8 w8 ho8 hg8 hf8
     have hne8 : blk v8 ≠ some h := blk_app hf8 hne hS.1.2.lt
     have hs8 : SK B w9 h (.cells #[.string ⟨#[112, 97, 100]⟩, .pointer (some ⟨g, 4, none⟩), .string ⟨#[103, 97, 112]⟩, .pointer (some ⟨g, 5, none⟩), .string ⟨#[103, 114, 111, 119]⟩, .pointer (some ⟨g, 6, none⟩), .string ⟨#[115, 104, 114, 105, 110, 107]⟩, .pointer (some ⟨g, 7, none⟩), .string ⟨#[106, 117, 115, 116, 105, 102, 121]⟩, .pointer (some ⟨g, 8, none⟩)] 119) w8 := hS.1.app (ho0.alloc _) hg8 hB9 (Nat.le_refl _) hne
     have ht8 : Keep t (.cells #[.string ⟨(nmT k).toArray⟩, .pointer (some ⟨g, 4 + k, none⟩)] 119) w8 := by
      unfold Keep
      rw [hg8.block t hS.2.lt (fun e => hnt e.symm)]
      exact hS.2
     refine hK9.out _ _ ⟨hs8, ht8⟩ (fun hS => ?_)
     clear hK9 K9
     try simp only [Act.put, List.setIfInBounds_toArray]
     refine hTk hS 10 3 rfl (v := ?_) ?_ ?_
     rotate_left
     ·intro _ _; go_simp; first | done | with_reducible rfl
     simp only [Act.put]
     refine wpAnyH_done (by kernel_rfl) ?_ _
     rw [← Ss_append, ← HZ.out] at ho8
     clear hS ht8 hg8 hf8 ho0
     go_wp2
     go_roundw
     case rel => exact ⟨k + 1, by go_num, by omega, ho8, hne8, hs8⟩
     case measure => simp [intOf]; omega
   ·obtain rfl : k = 5 := by omega
    have HBE := Lib.hid (HB9.out.trans hsk.1)
    have hwl := words_len b 5
    have HJ := Lib.hid (join_any (l := wordsTo b 5) 32 wr ho.rd (by unfold wordsTo; simp) (by omega) (by rw [words_five]; exact Nat.le_trans HBL.out (by omega)))
    have HW := Lib.hid (words_five b)
    clear hsk hne ho
    go_wp2_with (fail)
    refine HJ.out.mono ?_
    rintro e w11 ⟨rfl, hx⟩
    rw [HW.out]
    have HBF := Lib.hid (HBX.out _ HBE.out)
    clear HBX HBE HJ HW
    go_wp2
    go_ret
    exact ⟨rfl, after HBF.out hx (Nat.le_refl _)⟩
 ·have hkd' : (b.kind == 0) = false := by simp [hkd]
  have HZ := Lib.hid (words_zero hkd)
  rw [← HZ.out] at ho
  clear hkd HZ
  go_upto_region 4 with fail
  generalize (Value.slice (some ⟨q, 0, none⟩) 1 1) = vo at *
  clear cX
  -- the words vo in world X
  go_wp2_with (fail)
  refine (styles_any g _).mono ?_
  rintro e w9 ⟨rfl, hst, hx⟩
  have hne := ho.noBlk
  replace ho := ho.below hx (Nat.le_refl _)
  replace kbX := keepE kbX hx
  have hbX9 := after (Below.refl B X) hx hXs
  have hB9 : B ≤ w9.heap.size := Nat.le_trans hXs hbX9.size
  generalize X.heap.size = h at *
  have KG := Lib.hid (fun w' (hq : Below B w9 w') => (show Keep g (.cells #[.int .i64 b.parent, .int .i64 b.kind, .int .i64 b.w, .int .i64 b.h, .int .i64 b.pad, .int .i64 b.gap, .int .i64 b.grow, .int .i64 b.shrink, .int .i64 b.justify] 39) w' from (hq.block g (by omega)).trans kbX))
  have HT9 := Lib.hid (fun w' (hq : Below B w9 w') => HTX.out w' (hbX9.trans hq))
  have HB9 := Lib.hid hbX9
  clear kbX hx hbX9
  go_wp2
  go_loopw [3, 25] (fun o i wr => ∃ k : Nat, i = .int .i64 k ∧ k ≤ 5 ∧ Own wr B 1 o (Ss (wordsTo b k)) ∧ blk o ≠ some h ∧ SK B w9 h (.cells #[.string ⟨#[112, 97, 100]⟩, .pointer (some ⟨g, 4, none⟩), .string ⟨#[103, 97, 112]⟩, .pointer (some ⟨g, 5, none⟩), .string ⟨#[103, 114, 111, 119]⟩, .pointer (some ⟨g, 6, none⟩), .string ⟨#[115, 104, 114, 105, 110, 107]⟩, .pointer (some ⟨g, 7, none⟩), .string ⟨#[106, 117, 115, 116, 105, 102, 121]⟩, .pointer (some ⟨g, 8, none⟩)] 119) wr) (fun _ i _ => 5 - (intOf i).toNat)
  case atStart => exact ⟨0, rfl, by omega, ho, hne, Below.refl _ _, hst⟩
  case round =>
   clear ho hne hst
   obtain ⟨k, rfl, hk, ho, hne, hsk⟩ := hrel
   have hwB : B ≤ wr.heap.size := Nat.le_trans hB9 hsk.1.size
   by_cases hlt : k < 5
   ·have hki : (k : Int) < 5 := by omega
    have hk0 : (0 : Int) ≤ (k : Int) := by omega
    have e0 : wr.cell? ⟨h, k * 2, none⟩ = some (.string ⟨(nmT k).toArray⟩) := by
     rw [hsk.2.cell (k * 2)]
     have : k = 0 ∨ k = 1 ∨ k = 2 ∨ k = 3 ∨ k = 4 := by omega
     rcases this with rfl | rfl | rfl | rfl | rfl <;> rfl
    have e1 : wr.cell? ⟨h, k * 2 + 1, none⟩ = some (.pointer (some ⟨g, 4 + k, none⟩)) := by
     rw [hsk.2.cell (k * 2 + 1)]
     have : k = 0 ∨ k = 1 ∨ k = 2 ∨ k = 3 ∨ k = 4 := by omega
     rcases this with rfl | rfl | rfl | rfl | rfl <;> rfl
    go_upto_region 7 with fail
    have kt := Keep.new wr (.cells #[.string ⟨(nmT k).toArray⟩, .pointer (some ⟨g, 4 + k, none⟩)] 119)
    replace hsk := hsk.alloc (.cells #[.string ⟨(nmT k).toArray⟩, .pointer (some ⟨g, 4 + k, none⟩)] 119) hB9
    have hnt := ho.noBlk
    replace ho := ho.alloc (.cells #[.string ⟨(nmT k).toArray⟩, .pointer (some ⟨g, 4 + k, none⟩)] 119)
    clear e0 e1
    generalize wr.alloc (.cells #[.string ⟨(nmT k).toArray⟩, .pointer (some ⟨g, 4 + k, none⟩)] 119) = W1 at *
    generalize wr.heap.size = t at *
    have t0 := kt.cell 0
    have t1 := kt.cell 1
    have GV := Lib.hid (fun w' (hq : Below B w9 w') => (show w'.cell? ⟨g, 4 + k, none⟩ = some (.int .i64 (vlT b k)) by
     rw [(KG.out w' hq).cell (4 + k)]
     have : k = 0 ∨ k = 1 ∨ k = 2 ∨ k = 3 ∨ k = 4 := by omega
     rcases this with rfl | rfl | rfl | rfl | rfl <;> rfl))
    have gv := GV.out _ hsk.1
    have hvl := HVL.out k
    have hwl := words_len b k
    have HNO := Lib.hid (words_no (b := b) (k := k))
    have HYES := Lib.hid (words_yes (b := b) (k := k))
    by_cases hv : vlT b k = 0
    ·have hv' : (vlT b k != 0) = false := by rw [hv]; rfl
     have HZ := Lib.hid (HNO.out hv)
     clear HNO HYES hv kt hwl
     go_wp2
     go_roundw
     case rel => exact ⟨k + 1, by go_num, by omega, by rw [HZ.out]; exact ho, hne, hsk⟩
     case measure => simp [intOf]; omega
    ·have hv' : (vlT b k != 0) = true := by rw [bne_iff_ne]; exact hv
     have HZ := Lib.hid (HYES.out hv)
     have hs1 : B ≤ W1.heap.size := by have := hsk.1.size; omega
     have HN := Lib.hid (fun w (htb : Tab w) => itoa_any (n := vlT b k) w hvl htb)
     generalize vlT b k = n at *
     clear HNO HYES hv
     go_upto_region 8 with fail
     clear t0 t1 gv
     refine wp_region_held_drew (S := fun w' => SK B w9 h (.cells #[.string ⟨#[112, 97, 100]⟩, .pointer (some ⟨g, 4, none⟩), .string ⟨#[103, 97, 112]⟩, .pointer (some ⟨g, 5, none⟩), .string ⟨#[103, 114, 111, 119]⟩, .pointer (some ⟨g, 6, none⟩), .string ⟨#[115, 104, 114, 105, 110, 107]⟩, .pointer (some ⟨g, 7, none⟩), .string ⟨#[106, 117, 115, 116, 105, 102, 121]⟩, .pointer (some ⟨g, 8, none⟩)] 119) w' ∧ Keep t (.cells #[.string ⟨(nmT k).toArray⟩, .pointer (some ⟨g, 4 + k, none⟩)] 119) w') (by kernel_rfl) ⟨⟨hsk.1.drew, hsk.2⟩, kt⟩ (fun hS => ?_)
     have ho0 := ho.drew
     clear ho kt hsk
     generalize W1.drew = wd at *
     refine hTk hS 0 34 rfl (v := ?_) ?_ ?_
     rotate_left
     ·intro _ _; go_simp; first | done | with_reducible rfl
     simp only [Act.put, lsA, ls0, ls1]
     refine hTk hS 1 35 rfl (v := ?_) ?_ ?_
     rotate_left
     ·intro _ _; go_simp; first | done | with_reducible rfl
     simp only [Act.put, lsA, ls0, ls1]
     refine hTk hS 2 36 rfl (v := ?_) ?_ ?_
     rotate_left
     ·intro w9 hS9; have q := hS9.2.cell 0; go_simp; first | done | with_reducible rfl
     simp only [Act.put, lsA, ls0, ls1]
     refine hTk hS 3 37 rfl (v := ?_) ?_ ?_
     rotate_left
     ·intro _ _; go_simp; first | done | with_reducible rfl
     simp only [Act.put, lsA, ls0, ls1]
     refine hTk hS 4 38 rfl (v := ?_) ?_ ?_
     rotate_left
     ·intro w9 hS9; have q := hS9.2.cell 1; go_simp; first | done | with_reducible rfl
     simp only [Act.put, lsA, ls0, ls1]
     refine hTk hS 5 39 rfl (v := ?_) ?_ ?_
     rotate_left
     ·intro _ _; go_simp; first | done | with_reducible rfl
     simp only [Act.put, lsA, ls0, ls1]
     refine hTk hS 6 40 rfl (v := ?_) ?_ ?_
     rotate_left
     ·intro w9 hS9; have q := GV.out _ hS9.1.1; go_simp; first | done | with_reducible rfl
     simp only [Act.put, lsA, ls0, ls1]
     refine wpAnyH_ready (rs := [7]) (by kernel_rfl) (by simp) ?_
     refine AllReadyH.cons (o := _) rfl (fun K9 hK9 => ?_) AllReadyH.nil
     go_simp
     refine (HN.out _ (HT9.out _ hS.1.1)).mono ?_
     rintro e w10 ⟨rfl, hx⟩
     unfold sv
     try go_wp2_with fail
     replace ho0 := ho0.below hx (Nat.le_refl _)
     refine hK9.out _ _ ⟨hS.1.ext hx hB9, keepE hS.2 hx⟩ (fun hS => ?_)
     clear hK9 K9
     try simp only [Act.put, lsA, ls0, ls1]
     clear hx
     refine wpAnyH_ready (rs := [8]) (by kernel_rfl) (by simp) ?_
     refine AllReadyH.cons (o := _) rfl (fun K9 hK9 => ?_) AllReadyH.nil
     go_simp
     refine hK9.out _ _ ⟨hS.1.alloc _ hB9, hS.2.alloc _⟩ (fun hS => ?_)
     clear hK9 K9
     try simp only [Act.put, lsA, ls0, ls1]
     refine wpAnyH_ready (rs := [9]) (by kernel_rfl) (by simp) ?_
     refine AllReadyH.cons (o := _) rfl (fun K9 hK9 => ?_) AllReadyH.nil
     refine step_app rfl _ _ _ rfl el_str rfl (ho0.alloc _) rfl (show Rd _ 1 _ (Ss [nmT k, numT n]) from two_rd _ _ _) (Ss_one _) ?hlb ?hbb ?hKb
     case hlb => rw [Ss_length, Ss_length]; simp only [List.length_cons, List.length_nil]; omega
     case hbb => exact Nat.le_trans hB9 hS.1.1.size
     intro v8 w8 ho8 hg8 hf8
     have hne8 : blk v8 ≠ some h := blk_app hf8 hne hS.1.2.lt
     have hs8 : SK B w9 h (.cells #[.string ⟨#[112, 97, 100]⟩, .pointer (some ⟨g, 4, none⟩), .string ⟨#[103, 97, 112]⟩, .pointer (some ⟨g, 5, none⟩), .string ⟨#[103, 114, 111, 119]⟩, .pointer (some ⟨g, 6, none⟩), .string ⟨#[115, 104, 114, 105, 110, 107]⟩, .pointer (some ⟨g, 7, none⟩), .string ⟨#[106, 117, 115, 116, 105, 102, 121]⟩, .pointer (some ⟨g, 8, none⟩)] 119) w8 := hS.1.app (ho0.alloc _) hg8 hB9 (Nat.le_refl _) hne
     have ht8 : Keep t (.cells #[.string ⟨(nmT k).toArray⟩, .pointer (some ⟨g, 4 + k, none⟩)] 119) w8 := by
      unfold Keep
      rw [hg8.block t hS.2.lt (fun e => hnt e.symm)]
      exact hS.2
     refine hK9.out _ _ ⟨hs8, ht8⟩ (fun hS => ?_)
     clear hK9 K9
     try simp only [Act.put, List.setIfInBounds_toArray]
     refine hTk hS 10 3 rfl (v := ?_) ?_ ?_
     rotate_left
     ·intro _ _; go_simp; first | done | with_reducible rfl
     simp only [Act.put]
     refine wpAnyH_done (by kernel_rfl) ?_ _
     rw [← Ss_append, ← HZ.out] at ho8
     clear hS ht8 hg8 hf8 ho0
     go_wp2
     go_roundw
     case rel => exact ⟨k + 1, by go_num, by omega, ho8, hne8, hs8⟩
     case measure => simp [intOf]; omega
   ·obtain rfl : k = 5 := by omega
    have HBE := Lib.hid (HB9.out.trans hsk.1)
    have hwl := words_len b 5
    have HJ := Lib.hid (join_any (l := wordsTo b 5) 32 wr ho.rd (by unfold wordsTo; simp) (by omega) (by rw [words_five]; exact Nat.le_trans HBL.out (by omega)))
    have HW := Lib.hid (words_five b)
    clear hsk hne ho
    go_wp2_with (fail)
    refine HJ.out.mono ?_
    rintro e w11 ⟨rfl, hx⟩
    rw [HW.out]
    have HBF := Lib.hid (HBX.out _ HBE.out)
    clear HBX HBE HJ HW
    go_wp2
    go_ret
    exact ⟨rfl, after HBF.out hx (Nat.le_refl _)⟩
theorem box_len {b : Bx} (h : okB b = true) : (boxT b).length ≤ 1300 := by
 have hb := okB_bounds h
 rw [← outTo_five]
 exact outTo_len (by omega) (by omega) (fun k => by unfold vlT; split <;> omega) 5
theorem dash_eq : ∀ s : List UInt8, s = List.replicate (dashes s) 45 ++ s.drop (dashes s)
 | [] => rfl
 | c :: t => by
  unfold dashes
  by_cases h : c = 45
  ·rw [if_pos h, List.replicate_succ, List.drop_succ_cons, List.cons_append, ← dash_eq t, h]
  ·rw [if_neg h, List.replicate_zero, List.drop_zero, List.nil_append]
theorem splitB_ne' (c : UInt8) (s : List UInt8) : ∃ h r, splitB c s = h :: r := by
 cases h : splitB c s with
 | nil => exact absurd h (splitB_ne c s)
 | cons a b => exact ⟨a, b, rfl⟩
theorem join_split (c : UInt8) : ∀ s : List UInt8, Lib.join (splitB c s) [c] = s
 | [] => rfl
 | x :: t => by
  have ih := join_split c t
  obtain ⟨h, r, e⟩ := splitB_ne' c t
  rw [e, join_flat] at ih
  unfold splitB
  by_cases hx : x = c
  ·rw [if_pos hx, e, join_flat, List.map_cons, List.flatten_cons, hx, ← ih]
   simp
  ·rw [if_neg hx, e]
   show Lib.join ((x :: h) :: r) [c] = _
   rw [join_flat, List.cons_append, ih]
/-- the boxes so far, and the numbers of the open ones from without -/
abbrev PSt := List Bx × List Nat
def parOf (path : List Nat) (n : Nat) : Int := if n = 0 then -1 else ((path.getD (n - 1) 0 : Nat) : Int)
def stepP (st : PSt) (ln : List UInt8) : Option PSt :=
 match pB (ln.drop (dashes ln)) with
 | none => none
 | some b => if st.2.length < dashes ln ∨ (0 < st.1.length ∧ dashes ln = 0) then none else some (st.1 ++ [b.at (parOf st.2 (dashes ln))], st.2.take (dashes ln) ++ [st.1.length])
def runP : List (List UInt8) → PSt → Option PSt
 | [], st => some st
 | x :: t, st => (stepP st x).bind (runP t)
/-- what has been read so far -/
structure InvP (L : List (List UInt8)) (out : List Bx) (path : List Nat) : Prop where
 len : L.length = out.length
 down : ∀ k, k < out.length → par out k < k
 ok : ∀ k, k < out.length → okB (bx out k) = true
 path : path = if out = [] then [] else (anc out (out.length - 1)).reverse
 lines : L = (List.range out.length).map (lineT out)
theorem InvP.downs {L : List (List UInt8)} {out : List Bx} {path : List Nat} (h : InvP L out path) {j : Nat} (hj : j < out.length) : Down out j := fun k hk => h.down k (by omega)
theorem InvP.le {L : List (List UInt8)} {out : List Bx} {path : List Nat} (h : InvP L out path) : ∀ p, p ∈ path → p < out.length := by
 intro p hp
 rw [h.path] at hp
 by_cases e : out = []
 ·rw [if_pos e] at hp
  cases hp
 ·rw [if_neg e] at hp
  have hpos := List.length_pos_iff.2 e
  have := anc_le (out.length - 1) (h.downs (by omega)) p (List.mem_reverse.1 hp)
  omega
theorem bx_left {l : List Bx} {b : Bx} {k : Nat} (h : k < l.length) : bx (l ++ [b]) k = bx l k := by
 unfold bx List.getD
 rw [List.getElem?_append_left h]
theorem bx_last (l : List Bx) (b : Bx) : bx (l ++ [b]) l.length = b := by
 unfold bx List.getD
 rw [List.getElem?_append_right (Nat.le_refl _)]
 simp
theorem anc_left {l : List Bx} {b : Bx} (hd : ∀ k, k < l.length → par l k < k) {j : Nat} (h : j < l.length) : anc (l ++ [b]) j = anc l j := by
 have e : ∀ k, k ≤ j → par (l ++ [b]) k = par l k := fun k hk => by
  unfold par
  rw [bx_left (by omega)]
 exact anc_same j (fun k hk => by rw [e k hk]; exact hd k (by omega)) (fun k hk => hd k (by omega)) e
theorem InvP.step {L : List (List UInt8)} {out : List Bx} {path : List Nat} (h : InvP L out path) {x : List UInt8} {out' : List Bx} {path' : List Nat} (hs : stepP (out, path) x = some (out', path')) : InvP (L ++ [x]) out' path' := by
 unfold stepP at hs
 cases hb : pB (x.drop (dashes x)) with
 | none => rw [hb] at hs; cases hs
 | some b =>
  rw [hb] at hs
  dsimp only at hs
  split at hs
  ·cases hs
  ·rename_i hc
   cases hs
   obtain ⟨hok, htx, hbp⟩ := pB_some hb
   have hcl : ¬ path.length < dashes x := fun e => hc (.inl e)
   have hc0 : ¬ (0 < out.length ∧ dashes x = 0) := fun e => hc (.inr e)
   generalize hn : dashes x = n at *
   have hlast := bx_last out (b.at (parOf path n))
   have hpl : par (out ++ [b.at (parOf path n)]) out.length = parOf path n := by
    unfold par
    rw [hlast]
    rfl
   have hpk : ∀ k, k < out.length → par (out ++ [b.at (parOf path n)]) k = par out k := fun k hk => by
    unfold par
    rw [bx_left hk]
   have hlt : parOf path n < out.length := by
    unfold parOf
    split
    ·omega
    ·rename_i h0
     have hl : n - 1 < path.length := by omega
     have := h.le _ (List.getElem_mem hl)
     rw [List.getD_eq_getElem?_getD, List.getElem?_eq_getElem hl]
     simp only [Option.getD_some]
     omega
   have hdown : ∀ k, k < (out ++ [b.at (parOf path n)]).length → par (out ++ [b.at (parOf path n)]) k < k := fun k hk => by
    rw [List.length_append, List.length_singleton] at hk
    by_cases e : k < out.length
    ·rw [hpk k e]
     exact h.down k e
    ·obtain rfl : k = out.length := by omega
     rw [hpl]
     exact hlt
   have hanc : (anc (out ++ [b.at (parOf path n)]) out.length).reverse = path.take n ++ [out.length] ∧ (anc (out ++ [b.at (parOf path n)]) out.length).length = n + 1 := by
    have hd : Down (out ++ [b.at (parOf path n)]) out.length := fun k hk => hdown k (by rw [List.length_append, List.length_singleton]; omega)
    by_cases h0 : n = 0
    ·rw [anc_root hd (by rw [hpl, h0]; show (-1 : Int) < 0; omega), h0]
     exact ⟨rfl, rfl⟩
    ·have hl : n - 1 < path.length := by omega
     have hne : out ≠ [] := fun e => by
      have := h.path
      rw [if_pos e] at this
      rw [this] at hl
      cases hl
     have hpos := List.length_pos_iff.2 hne
     have hpp := h.path
     rw [if_neg hne] at hpp
     have hmem := List.getElem_mem hl
     have hpar : parOf path n = ((path[n - 1] : Nat) : Int) := by
      unfold parOf
      rw [if_neg h0, List.getD_eq_getElem?_getD, List.getElem?_eq_getElem hl]
      rfl
     have hplt := h.le _ hmem
     have hget : path[n - 1]? = some path[n - 1] := List.getElem?_eq_getElem hl
     generalize path[n - 1] = p at *
     rw [anc_up hd (by rw [hpl, hpar]), anc_left h.down hplt]
     have hdj := h.downs (j := out.length - 1) (by omega)
     have hpm : p ∈ anc out (out.length - 1) := by
      rw [hpp] at hmem
      exact List.mem_reverse.1 hmem
     obtain ⟨pre, hpre⟩ := anc_suffix (out.length - 1) hdj p hpm
     have hap := anc_eq (h.downs hplt)
     -- the place of p in the open ones
     rw [hpp, hpre, List.reverse_append] at hget
     have hrev : (anc out p).reverse = (if 0 ≤ par out p then anc out (par out p).toNat else []).reverse ++ [p] := by
      rw [hap, List.reverse_cons]
     have hnodup : (anc out p).length = n := by
      have hA : (anc out (out.length - 1)).Pairwise (· > ·) := by
       clear hpre hap hrev hget hpm
       have : ∀ (m j : Nat), j ≤ m → Down out j → (anc out j).Pairwise (· > ·) := by
        intro m
        induction m with
        | zero =>
         intro j hj hd
         obtain rfl : j = 0 := by omega
         rw [anc_root hd (hd 0 (Nat.le_refl _))]
         simp
        | succ m ih =>
         intro j hj hd
         rw [anc_eq hd]
         split
         ·rename_i hge
          have hlt := hd j (Nat.le_refl _)
          refine List.pairwise_cons.2 ⟨fun a ha => ?_, ih _ (by omega) (hd.mono (by omega))⟩
          have := anc_le _ (hd.mono (show (par out j).toNat ≤ j by omega)) a ha
          show j > a
          omega
         ·simp
       exact this _ _ (Nat.le_refl _) hdj
      rw [hpre] at hA
      have hB := (List.pairwise_append.1 hA).2.1
      have hlenle : (anc out p).reverse.length = (anc out p).length := List.length_reverse
      by_cases hcase : n - 1 < (anc out p).reverse.length
      ·rw [List.getElem?_append_left hcase, List.getElem?_reverse (by omega)] at hget
       rw [hap] at hget hB ⊢
       rw [hap] at hcase hlenle
       rw [List.length_reverse] at hcase
       generalize (if 0 ≤ par out p then anc out (par out p).toNat else []) = R at *
       rw [List.length_cons] at *
       by_cases e : R.length + 1 - 1 - (n - 1) = 0
       ·omega
       ·obtain ⟨q, hq⟩ : ∃ q, R.length + 1 - 1 - (n - 1) = q + 1 := ⟨R.length + 1 - 1 - (n - 1) - 1, by omega⟩
        rw [hq, List.getElem?_cons_succ] at hget
        have := (List.pairwise_cons.1 hB).1 p (List.mem_of_getElem? hget)
        omega
      ·rw [List.getElem?_append_right (by omega)] at hget
       have hm := List.mem_reverse.1 (List.mem_of_getElem? hget)
       have := (List.pairwise_append.1 hA).2.2 p hm p (by rw [hap]; exact List.mem_cons_self)
       omega
     refine ⟨?_, by rw [List.length_cons, hnodup]⟩
     rw [List.reverse_cons, hpp, hpre, List.reverse_append, List.take_left' (by rw [List.length_reverse]; exact hnodup)]
   have hline : lineT (out ++ [b.at (parOf path n)]) out.length = x := by
    unfold lineT
    rw [hanc.2, hlast]
    show List.replicate n 45 ++ boxT b = x
    rw [htx, ← hn]
    exact (dash_eq x).symm
   refine ⟨by rw [List.length_append, List.length_append, h.len]; rfl, hdown, fun k hk => ?_, ?_, ?_⟩
   ·rw [List.length_append, List.length_singleton] at hk
    by_cases e : k < out.length
    ·rw [bx_left e]
     exact h.ok k e
    ·obtain rfl : k = out.length := by omega
     rw [hlast]
     exact hok
   ·rw [if_neg (by simp), List.length_append, List.length_singleton, Nat.add_sub_cancel]
    exact hanc.1.symm
   ·rw [List.length_append, List.length_singleton, List.range_succ, List.map_append, List.map_singleton, hline]
    congr 1
    rw [h.lines]
    refine (List.map_congr_left fun k hk => ?_).trans rfl
    have hk' := List.mem_range.1 hk
    unfold lineT
    rw [anc_left h.down hk', bx_left hk']
theorem InvP.nil : InvP [] [] [] := ⟨rfl, fun _ h => absurd h (Nat.not_lt_zero _), fun _ h => absurd h (Nat.not_lt_zero _), rfl, rfl⟩
theorem InvP.run : ∀ (M L : List (List UInt8)) {out : List Bx} {path : List Nat} {out' : List Bx} {path' : List Nat}, InvP L out path → runP M (out, path) = some (out', path') → InvP (L ++ M) out' path'
 | [], L, _, _, _, _, h, e => by
  cases e
  rw [List.append_nil]
  exact h
 | x :: t, L, out, path, out', path', h, e => by
  have e2 : (stepP (out, path) x).bind (runP t) = some (out', path') := e
  cases hs : stepP (out, path) x with
  | none => rw [hs] at e2; cases e2
  | some z =>
   rw [hs] at e2
   have := InvP.run t (L ++ [x]) (h.step (x := x) (out' := z.1) (path' := z.2) hs) e2
   rw [List.append_assoc] at this
   exact this
end Go.Proofs.YthkkgleoikpfgaaGreatDoor
