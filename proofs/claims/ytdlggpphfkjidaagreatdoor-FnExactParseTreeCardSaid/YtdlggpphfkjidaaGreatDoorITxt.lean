/-
  The text of a box, of the program: kindNames, styles, text.
-/
import Derived.Deep.Cut
import Derived.IntWalk
import Derived.StillTailTactics
import Derived.Test.YtdlggpphfkjidaaGreatDoorShf
import Derived.Test.YtdlggpphfkjidaaGreatDoorReg
import Derived.Test.YtdlggpphfkjidaaGreatDoorBx
import Derived.Test.YtdlggpphfkjidaaGreatDoorCa
import Derived.Test.YtdlggpphfkjidaaGreatDoorNat
namespace Go.Proofs.YtdlggpphfkjidaaGreatDoor
open Go Go.RowKit

/-- below B nothing has turned, and block h holds o -/
def SK (B : Nat) (W : World) (h : Nat) (o : Obj) (w' : World) : Prop := Below B W w' ∧ Keep h o w'
theorem SK.ext {B h : Nat} {W w1 w2 : World} {o : Obj} (s : SK B W h o w1) (hx : Ext w1 w2) (hB : B ≤ W.heap.size) : SK B W h o w2 := ⟨after s.1 hx hB, keepE s.2 hx⟩
theorem SK.alloc {B h : Nat} {W w1 : World} {o : Obj} (s : SK B W h o w1) (x : Obj) (hB : B ≤ W.heap.size) : SK B W h o (w1.alloc x) := s.ext (Below.of_alloc _ _) hB
theorem SK.app {B h : Nat} {W w1 w2 : World} {o : Obj} {v : Value} {base size : Nat} {xs : List Value} (s : SK B W h o w1) (ho : Own w1 base size v xs) (hg : w1.grownBy w2 (blk v)) (hB : B ≤ W.heap.size) (hb : B ≤ base) (hne : blk v ≠ some h) : SK B W h o w2 := by
  refine ⟨below_app s.1 ho hg (Nat.le_trans hB s.1.size) hb, ?_⟩
  unfold Keep
  rw [hg.block h s.2.lt (fun e => hne e.symm)]
  exact s.2
/-- the block of a list that grew -/
theorem blk_app {v v' : Value} {h : Nat} {w : World} (hf : blk v' = blk v ∨ ∃ k, blk v' = some k ∧ w.heap.size ≤ k) (hne : blk v ≠ some h) (hl : h < w.heap.size) : blk v' ≠ some h := by
  intro e
  rcases hf with h1 | ⟨k, h1, h2⟩
  · rw [h1] at e
    exact hne e
  · rw [h1] at e
    cases e
    omega
theorem Own.noBlk {w : World} {base size : Nat} {v : Value} {xs : List Value} (ho : Own w base size v xs) : blk v ≠ some w.heap.size := fun e => by
  have := (ho.lt _ e).2
  omega
theorem two_rd (w : World) (s t : List UInt8) : Rd (w.alloc (.cells #[sv s, sv t] 9)) 1 (.slice (some ⟨w.heap.size, 0, none⟩) 2 2) (Ss [s, t]) := by
  have h := (Own.made w #[sv s, sv t] 9 w.heap.size 1 2 2 (Nat.le_refl _) (Nat.le_refl _) (by decide) rfl).rd
  exact h

set_option maxHeartbeats 1000000 in
theorem kindNames_any (w : World) : Calls Tryz.prog 49 #[] w fun e w' => e = .returned (.agg #[.string ⟨#[108, 101, 97, 102]⟩, .string ⟨#[98, 108, 111, 99, 107]⟩, .string ⟨#[114, 111, 119]⟩, .string ⟨#[99, 111, 108, 117, 109, 110]⟩]) ∧ Ext w w' := by
  go_enter Tryz.func49, Tryz.ntmps49
  go_wp2
  refine bodyPost_ret (v := .agg #[.string ⟨#[108, 101, 97, 102]⟩, .string ⟨#[98, 108, 111, 99, 107]⟩, .string ⟨#[114, 111, 119]⟩, .string ⟨#[99, 111, 108, 117, 109, 110]⟩]) ?_ rfl ⟨rfl, ?_⟩
  · simp [results, Tryz.results49, go_sem]
  · exact Below.of_alloc _ _
set_option maxRecDepth 100000 in
set_option maxHeartbeats 1000000 in
theorem styles_any (g : Nat) (w : World) :
    Calls Tryz.prog 51 #[.pointer (some ⟨g, 0, none⟩)] w fun e w' => e = .returned (.slice (some ⟨w.heap.size, 0, none⟩) 5 5) ∧ Keep w.heap.size (.cells #[.string ⟨#[112, 97, 100]⟩, .pointer (some ⟨g, 4, none⟩), .string ⟨#[103, 97, 112]⟩, .pointer (some ⟨g, 5, none⟩), .string ⟨#[103, 114, 111, 119]⟩, .pointer (some ⟨g, 6, none⟩), .string ⟨#[115, 104, 114, 105, 110, 107]⟩, .pointer (some ⟨g, 7, none⟩), .string ⟨#[106, 117, 115, 116, 105, 102, 121]⟩, .pointer (some ⟨g, 8, none⟩)] 84) w' ∧ Ext w w' := by
  have hk := Keep.new w (.cells #[.string ⟨#[112, 97, 100]⟩, .pointer (some ⟨g, 4, none⟩), .string ⟨#[103, 97, 112]⟩, .pointer (some ⟨g, 5, none⟩), .string ⟨#[103, 114, 111, 119]⟩, .pointer (some ⟨g, 6, none⟩), .string ⟨#[115, 104, 114, 105, 110, 107]⟩, .pointer (some ⟨g, 7, none⟩), .string ⟨#[106, 117, 115, 116, 105, 102, 121]⟩, .pointer (some ⟨g, 8, none⟩)] 84)
  have hb := Below.of_alloc w (.cells #[.string ⟨#[112, 97, 100]⟩, .pointer (some ⟨g, 4, none⟩), .string ⟨#[103, 97, 112]⟩, .pointer (some ⟨g, 5, none⟩), .string ⟨#[103, 114, 111, 119]⟩, .pointer (some ⟨g, 6, none⟩), .string ⟨#[115, 104, 114, 105, 110, 107]⟩, .pointer (some ⟨g, 7, none⟩), .string ⟨#[106, 117, 115, 116, 105, 102, 121]⟩, .pointer (some ⟨g, 8, none⟩)] 84)
  go_enter Tryz.func51, Tryz.ntmps51
  go_upto_region 1 with fail
  go_region
  go_wp2
  go_ret
  exact ⟨rfl, hk, hb.drew⟩
theorem vlT_le {b : Bx} (h : okB b = true) (k : Nat) : 0 ≤ vlT b k ∧ vlT b k ≤ 100 := by
  have hb := okB_bounds h
  unfold vlT
  split <;> omega
theorem index_names (w : World) {k : Int} (h : k = 0 ∨ k = 1 ∨ k = 2 ∨ k = 3) : Sem.run Tryz.prog (Instr.index 78 (.agg #[.string ⟨#[108, 101, 97, 102]⟩, .string ⟨#[98, 108, 111, 99, 107]⟩, .string ⟨#[114, 111, 119]⟩, .string ⟨#[99, 111, 108, 117, 109, 110]⟩]) (.int .i64 k)) w = .ok (.string ⟨(kindT k).toArray⟩) w := by
  have hu : Tryz.prog.underlying 78 = some (.array 4 9) := by kernel_rfl
  rcases h with rfl | rfl | rfl | rfl
  · simp [Instr.index, run_underlying hu, asIntOf, go_sem]
    rfl
  · simp [Instr.index, run_underlying hu, asIntOf, go_sem]
    rfl
  · simp [Instr.index, run_underlying hu, asIntOf, go_sem]
    rfl
  · simp [Instr.index, run_underlying hu, asIntOf, go_sem]
    rfl
/-- the words of a box with the first k styles -/
def wordsTo (b : Bx) (k : Nat) : List (List UInt8) := kindT b.kind :: (leafW b ++ styTo b k)
theorem words_five (b : Bx) : Lib.join (wordsTo b 5) [32] = boxT b := by
  unfold wordsTo boxT
  rw [join_words, restW_eq]
theorem words_zero_leaf {b : Bx} (h : b.kind = 0) : wordsTo b 0 = [kindT b.kind] ++ [numT b.w, numT b.h] := by
  unfold wordsTo leafW
  rw [if_pos h]
  rfl
theorem words_zero {b : Bx} (h : b.kind ≠ 0) : wordsTo b 0 = [kindT b.kind] := by
  unfold wordsTo leafW
  rw [if_neg h]
  rfl
theorem words_no {b : Bx} {k : Nat} (h : vlT b k = 0) : wordsTo b (k + 1) = wordsTo b k := by
  unfold wordsTo
  rw [styTo]
  unfold styT
  rw [if_pos h, List.append_nil]
theorem words_yes {b : Bx} {k : Nat} (h : vlT b k ≠ 0) : wordsTo b (k + 1) = wordsTo b k ++ [nmT k, numT (vlT b k)] := by
  unfold wordsTo
  rw [styTo]
  unfold styT
  rw [if_neg h, ← List.append_assoc]
  rfl
theorem words_len (b : Bx) : ∀ k, (wordsTo b k).length ≤ 3 + 2 * k
  | 0 => by
    by_cases h : b.kind = 0
    · rw [words_zero_leaf h]
      simp
    · rw [words_zero h]
      simp
  | k + 1 => by
    have ih := words_len b k
    by_cases h : vlT b k = 0
    · rw [words_no h]
      omega
    · rw [words_yes h, List.length_append]
      simp
      omega
set_option maxRecDepth 100000 in
set_option maxHeartbeats 1600000 in
theorem text_any {b : Bx} (w : World) (hok : okB b = true) (ht : Tab w) :
    Calls Tryz.prog 21 #[b.agg] w fun e w' => e = .returned (sv (boxT b)) ∧ Ext w w' := by
  have hb := okB_bounds hok
  have kb := Keep.new w (.cells #[.int .i64 b.parent, .int .i64 b.kind, .int .i64 b.w, .int .i64 b.h, .int .i64 b.pad, .int .i64 b.gap, .int .i64 b.grow, .int .i64 b.shrink, .int .i64 b.justify] 39)
  have hb0 := Below.of_alloc w (.cells #[.int .i64 b.parent, .int .i64 b.kind, .int .i64 b.w, .int .i64 b.h, .int .i64 b.pad, .int .i64 b.gap, .int .i64 b.grow, .int .i64 b.shrink, .int .i64 b.justify] 39)
  have HVL := Lib.hid (vlT_le hok)
  have HBL := Lib.hid (show (boxT b).length ≤ 1300 by
    rw [← outTo_five]
    exact outTo_len (by omega) (by omega) (fun k => (vlT_le hok k).2) 5)
  have HT := Lib.hid (fun w' (h : Below w.heap.size w w') => ht.below h (Nat.le_refl _))
  have hk : b.kind = 0 ∨ b.kind = 1 ∨ b.kind = 2 ∨ b.kind = 3 := by omega
  clear ht
  unfold Bx.agg
  go_enter Tryz.func21, Tryz.ntmps21
  go_upto_region 1 with fail
  generalize w.alloc (.cells #[.int .i64 b.parent, .int .i64 b.kind, .int .i64 b.w, .int .i64 b.h, .int .i64 b.pad, .int .i64 b.gap, .int .i64 b.grow, .int .i64 b.shrink, .int .i64 b.justify] 39) = W at *
  obtain ⟨g, hg⟩ : ∃ g, w.heap.size = g := ⟨_, rfl⟩
  rw [hg] at kb ⊢
  have hgl := kb.lt
  clear hg
  have c1 : W.cell? ⟨g, 1, none⟩ = some (.int .i64 b.kind) := kb.cell 1
  refine wp_region_held_drew (S := fun w' => Below W.heap.size W w') (by kernel_rfl) (Below.refl _ _).drew (fun hS => ?_)
  change wpAnyH _ _ _ _ _ _ _ _ W.drew
  generalize W.drew = wd at *
  refine hTake (by kernel_rfl) (fun d _ _ _ _ h => by cases d <;> exact h) hS 1 (some 7) _ rfl (v := ?_) (by kernel_rfl) ?_ ?_
  rotate_left
  · intro _ _; go_simp; first | done | with_reducible rfl
  simp only [Act.put, List.setIfInBounds_toArray, List.set_cons_zero, List.set_cons_succ]
  refine hTake (by kernel_rfl) (fun d _ _ _ _ h => by cases d <;> exact h) hS 2 (some 8) _ rfl (v := ?_) (by kernel_rfl) ?_ ?_
  rotate_left
  · intro w9 hS9; have q := cellB hS9 c1; go_simp; first | done | with_reducible rfl
  simp only [Act.put, List.setIfInBounds_toArray, List.set_cons_zero, List.set_cons_succ]
  refine wpAnyH_ready (rs := [0]) (by kernel_rfl) (by simp) ?_
  refine AllReadyH.cons (o := _) rfl (fun K9 hK9 => ?_) AllReadyH.nil
  go_simp
  refine (kindNames_any _).mono ?_
  rintro e w7 ⟨rfl, hx7⟩
  try go_wp2_with fail
  refine hK9.out _ _ (after hS hx7 (Nat.le_refl _)) (fun hS => ?_)
  clear hK9 K9
  try simp only [Act.put, List.setIfInBounds_toArray, List.set_cons_zero, List.set_cons_succ]
  clear hx7
  refine hTake (by kernel_rfl) (fun d _ _ _ _ h => by cases d <;> exact h) hS 3 (some 9) _ rfl (v := .string ⟨(kindT b.kind).toArray⟩) (by kernel_rfl) ?_ ?_
  · intro w9 hS9
    have hix := index_names w9 hk
    go_simp
  simp only [Act.put, List.setIfInBounds_toArray, List.set_cons_zero, List.set_cons_succ]
  refine wpAnyH_ready (rs := [4]) (by kernel_rfl) (by simp) ?_
  refine AllReadyH.cons (o := _) rfl (fun K9 hK9 => ?_) AllReadyH.nil
  go_simp
  have hsz7 := hS.size
  have ho := Own.made w7 #[.string ⟨(kindT b.kind).toArray⟩] 9 W.heap.size 1 1 1 hsz7 (Nat.le_refl _) (by decide) rfl
  replace ho : Own (w7.alloc (.cells #[.string ⟨(kindT b.kind).toArray⟩] 9)) W.heap.size 1 (.slice (some ⟨w7.heap.size, 0, none⟩) 1 1) (Ss [kindT b.kind]) := ho
  refine hK9.out _ _ (hS.alloc hS.size _) (fun hS => ?_)
  clear hK9 K9
  try simp only [Act.put, List.setIfInBounds_toArray, List.set_cons_zero, List.set_cons_succ]
  refine hTake (by kernel_rfl) (fun d _ _ _ _ h => by cases d <;> exact h) hS 5 (some 3) _ rfl (v := ?_) (by kernel_rfl) ?_ ?_
  rotate_left
  · intro _ _; go_simp; first | done | with_reducible rfl
  simp only [Act.put, List.setIfInBounds_toArray, List.set_cons_zero, List.set_cons_succ]
  refine wpAnyH_done (by kernel_rfl) ?_ _
  have hgB : g < W.heap.size := hgl
  have hBw := hb0.size
  generalize w7.alloc (.cells #[.string ⟨(kindT b.kind).toArray⟩] 9) = X at *
  generalize w7.heap.size = q at *
  have kbX : Keep g (.cells #[.int .i64 b.parent, .int .i64 b.kind, .int .i64 b.w, .int .i64 b.h, .int .i64 b.pad, .int .i64 b.gap, .int .i64 b.grow, .int .i64 b.shrink, .int .i64 b.justify] 39) X := (hS.block g hgB).trans kb
  have HTX := Lib.hid (fun w' (h : Below W.heap.size X w') => HT.out w' (hb0.trans ((hS.trans h).mono hBw)))
  have HBX := Lib.hid (fun w' (h : Below W.heap.size X w') => (show Below w.heap.size w w' from hb0.trans ((hS.trans h).mono hBw)))
  have hXs : W.heap.size ≤ X.heap.size := hS.size
  generalize W.heap.size = B at *
  clear hS kb hb0 HT c1 hsz7 hk
  have cX : X.cell? ⟨g, 1, none⟩ = some (.int .i64 b.kind) := kbX.cell 1
  by_cases hkd : b.kind = 0
  · have hkd' : (b.kind == 0) = true := by simp [hkd]
    have HZ := Lib.hid (words_zero_leaf hkd)
    have HNW := Lib.hid (fun w (htb : Tab w) => itoa_any (n := b.w) w (by omega) htb)
    have HNH := Lib.hid (fun w (htb : Tab w) => itoa_any (n := b.h) w (by omega) htb)
    have KX := Lib.hid (fun w' (h : Below B X w') => (show Keep g (.cells #[.int .i64 b.parent, .int .i64 b.kind, .int .i64 b.w, .int .i64 b.h, .int .i64 b.pad, .int .i64 b.gap, .int .i64 b.grow, .int .i64 b.shrink, .int .i64 b.justify] 39) w' from (h.block g hgB).trans kbX))
    clear hkd
    go_upto_region 3 with fail
    refine wp_region_held_drew (S := fun w' => Below B X w') (by kernel_rfl) (Below.refl _ _).drew (fun hS => ?_)
    have ho0 := ho.drew
    clear ho kbX cX
    generalize X.drew = wd at *
    refine hTake (by kernel_rfl) (fun d _ _ _ _ h => by cases d <;> exact h) hS 0 (some 14) _ rfl (v := ?_) (by kernel_rfl) ?_ ?_
    rotate_left
    · intro _ _; go_simp; first | done | with_reducible rfl
    simp only [Act.put, List.setIfInBounds_toArray, List.set_cons_zero, List.set_cons_succ]
    refine hTake (by kernel_rfl) (fun d _ _ _ _ h => by cases d <;> exact h) hS 1 (some 15) _ rfl (v := ?_) (by kernel_rfl) ?_ ?_
    rotate_left
    · intro _ _; go_simp; first | done | with_reducible rfl
    simp only [Act.put, List.setIfInBounds_toArray, List.set_cons_zero, List.set_cons_succ]
    refine hTake (by kernel_rfl) (fun d _ _ _ _ h => by cases d <;> exact h) hS 2 (some 16) _ rfl (v := ?_) (by kernel_rfl) ?_ ?_
    rotate_left
    · intro w9 hS9; have q := (KX.out _ hS9).cell 2; go_simp; first | done | with_reducible rfl
    simp only [Act.put, List.setIfInBounds_toArray, List.set_cons_zero, List.set_cons_succ]
    refine hTake (by kernel_rfl) (fun d _ _ _ _ h => by cases d <;> exact h) hS 4 (some 18) _ rfl (v := ?_) (by kernel_rfl) ?_ ?_
    rotate_left
    · intro _ _; go_simp; first | done | with_reducible rfl
    simp only [Act.put, List.setIfInBounds_toArray, List.set_cons_zero, List.set_cons_succ]
    refine hTake (by kernel_rfl) (fun d _ _ _ _ h => by cases d <;> exact h) hS 5 (some 19) _ rfl (v := ?_) (by kernel_rfl) ?_ ?_
    rotate_left
    · intro w9 hS9; have q := (KX.out _ hS9).cell 3; go_simp; first | done | with_reducible rfl
    simp only [Act.put, List.setIfInBounds_toArray, List.set_cons_zero, List.set_cons_succ]
    refine wpAnyH_ready (rs := [3]) (by kernel_rfl) (by simp) ?_
    refine AllReadyH.cons (o := _) rfl (fun K9 hK9 => ?_) AllReadyH.nil
    go_simp
    refine (HNW.out _ (HTX.out _ hS)).mono ?_
    rintro e w8 ⟨rfl, hx⟩
    unfold sv
    try go_wp2_with fail
    replace ho0 := ho0.below hx (Nat.le_refl _)
    refine hK9.out _ _ (after hS hx hXs) (fun hS => ?_)
    clear hK9 K9
    try simp only [Act.put, List.setIfInBounds_toArray, List.set_cons_zero, List.set_cons_succ]
    clear hx
    refine wpAnyH_ready (rs := [6]) (by kernel_rfl) (by simp) ?_
    refine AllReadyH.cons (o := _) rfl (fun K9 hK9 => ?_) AllReadyH.nil
    go_simp
    refine (HNH.out _ (HTX.out _ hS)).mono ?_
    rintro e w9 ⟨rfl, hx⟩
    unfold sv
    try go_wp2_with fail
    replace ho0 := ho0.below hx (Nat.le_refl _)
    refine hK9.out _ _ (after hS hx hXs) (fun hS => ?_)
    clear hK9 K9
    try simp only [Act.put, List.setIfInBounds_toArray, List.set_cons_zero, List.set_cons_succ]
    clear hx
    refine wpAnyH_ready (rs := [7]) (by kernel_rfl) (by simp) ?_
    refine AllReadyH.cons (o := _) rfl (fun K9 hK9 => ?_) AllReadyH.nil
    go_simp
    refine hK9.out _ _ (after hS (Below.of_alloc _ _) hXs) (fun hS => ?_)
    clear hK9 K9
    try simp only [Act.put, List.setIfInBounds_toArray, List.set_cons_zero, List.set_cons_succ]
    refine wpAnyH_ready (rs := [8]) (by kernel_rfl) (by simp) ?_
    refine AllReadyH.cons (o := _) rfl (fun K9 hK9 => ?_) AllReadyH.nil
    refine step_app rfl _ _ _ rfl el_str rfl (ho0.alloc _) rfl (show Rd _ 1 _ (Ss [numT b.w, numT b.h]) from two_rd _ _ _) (Ss_one _) ?hl1 ?hb1 ?hK1
    case hl1 => rw [Ss_length, Ss_length]; simp
    case hb1 => exact Nat.le_trans hXs hS.size
    intro v8 w10 ho8 hg8 hf8
    have hS8 := below_app hS (ho0.alloc _) hg8 (Nat.le_trans hXs hS.size) (Nat.le_refl _)
    refine hK9.out _ _ hS8 (fun hS => ?_)
    clear hK9 K9
    try simp only [Act.put, List.setIfInBounds_toArray]
    refine hTake (by kernel_rfl) (fun d _ _ _ _ h => by cases d <;> exact h) hS 9 (some 3) _ rfl (v := ?_) (by kernel_rfl) ?_ ?_
    rotate_left
    · intro _ _; go_simp; first | done | with_reducible rfl
    simp only [Act.put]
    refine wpAnyH_done (by kernel_rfl) ?_ _
    rw [← Ss_append, ← HZ.out] at ho8
    have kbX := KX.out _ hS8
    have HTX3 := HTX
    have HTX := Lib.hid (fun w' (h : Below B w10 w') => HTX3.out w' (hS8.trans h))
    have HBX3 := HBX
    have HBX := Lib.hid (fun w' (h : Below B w10 w') => HBX3.out w' (hS8.trans h))
    have hXs := Nat.le_trans hXs hS8.size
    have ho := ho8
    clear hg8 hf8 ho0 hS8 ho8 HTX3 HBX3 KX HNW HNH HZ
    -- the words vo in world X
    go_wp2_with (fail)
    refine (styles_any g _).mono ?_
    rintro e w9 ⟨rfl, hst, hx⟩
    have hne := ho.noBlk
    replace ho := ho.below hx (Nat.le_refl _)
    replace kbX := keepE kbX hx
    have hbX9 := after (Below.refl B w10) hx hXs
    have hB9 : B ≤ w9.heap.size := Nat.le_trans hXs hbX9.size
    generalize w10.heap.size = h at *
    have KG := Lib.hid (fun w' (hq : Below B w9 w') => (show Keep g (.cells #[.int .i64 b.parent, .int .i64 b.kind, .int .i64 b.w, .int .i64 b.h, .int .i64 b.pad, .int .i64 b.gap, .int .i64 b.grow, .int .i64 b.shrink, .int .i64 b.justify] 39) w' from (hq.block g (by omega)).trans kbX))
    have HT9 := Lib.hid (fun w' (hq : Below B w9 w') => HTX.out w' (hbX9.trans hq))
    have HB9 := Lib.hid hbX9
    clear kbX hx hbX9
    go_wp2
    go_loopw [3, 25] (fun o i wr => ∃ k : Nat, i = .int .i64 k ∧ k ≤ 5 ∧ Own wr B 1 o (Ss (wordsTo b k)) ∧ blk o ≠ some h ∧ SK B w9 h (.cells #[.string ⟨#[112, 97, 100]⟩, .pointer (some ⟨g, 4, none⟩), .string ⟨#[103, 97, 112]⟩, .pointer (some ⟨g, 5, none⟩), .string ⟨#[103, 114, 111, 119]⟩, .pointer (some ⟨g, 6, none⟩), .string ⟨#[115, 104, 114, 105, 110, 107]⟩, .pointer (some ⟨g, 7, none⟩), .string ⟨#[106, 117, 115, 116, 105, 102, 121]⟩, .pointer (some ⟨g, 8, none⟩)] 84) wr) (fun _ i _ => 5 - (intOf i).toNat)
    case atStart => exact ⟨0, rfl, by omega, ho, hne, Below.refl _ _, hst⟩
    case round =>
      clear ho hne hst
      obtain ⟨k, rfl, hk, ho, hne, hsk⟩ := hrel
      have hwB : B ≤ wr.heap.size := Nat.le_trans hB9 hsk.1.size
      by_cases hlt : k < 5
      · have hki : (k : Int) < 5 := by omega
        have hk0 : (0 : Int) ≤ (k : Int) := by omega
        have e0 : wr.cell? ⟨h, k * 2, none⟩ = some (.string ⟨(nmT k).toArray⟩) := by
          rw [hsk.2.cell (k * 2)]
          have : k = 0 ∨ k = 1 ∨ k = 2 ∨ k = 3 ∨ k = 4 := by omega
          rcases this with rfl | rfl | rfl | rfl | rfl <;> rfl
        have e1 : wr.cell? ⟨h, k * 2 + 1, none⟩ = some (.pointer (some ⟨g, 4 + k, none⟩)) := by
          rw [hsk.2.cell (k * 2 + 1)]
          have : k = 0 ∨ k = 1 ∨ k = 2 ∨ k = 3 ∨ k = 4 := by omega
          rcases this with rfl | rfl | rfl | rfl | rfl <;> rfl
        go_upto_region 7 with fail
        have kt := Keep.new wr (.cells #[.string ⟨(nmT k).toArray⟩, .pointer (some ⟨g, 4 + k, none⟩)] 84)
        replace hsk := hsk.alloc (.cells #[.string ⟨(nmT k).toArray⟩, .pointer (some ⟨g, 4 + k, none⟩)] 84) hB9
        have hnt := ho.noBlk
        replace ho := ho.alloc (.cells #[.string ⟨(nmT k).toArray⟩, .pointer (some ⟨g, 4 + k, none⟩)] 84)
        clear e0 e1
        generalize wr.alloc (.cells #[.string ⟨(nmT k).toArray⟩, .pointer (some ⟨g, 4 + k, none⟩)] 84) = W1 at *
        generalize wr.heap.size = t at *
        have t0 := kt.cell 0
        have t1 := kt.cell 1
        have GV := Lib.hid (fun w' (hq : Below B w9 w') => (show w'.cell? ⟨g, 4 + k, none⟩ = some (.int .i64 (vlT b k)) by
          rw [(KG.out w' hq).cell (4 + k)]
          have : k = 0 ∨ k = 1 ∨ k = 2 ∨ k = 3 ∨ k = 4 := by omega
          rcases this with rfl | rfl | rfl | rfl | rfl <;> rfl))
        have gv := GV.out _ hsk.1
        have hvl := HVL.out k
        have hwl := words_len b k
        have HNO := Lib.hid (words_no (b := b) (k := k))
        have HYES := Lib.hid (words_yes (b := b) (k := k))
        by_cases hv : vlT b k = 0
        · have hv' : (vlT b k != 0) = false := by rw [hv]; rfl
          have HZ := Lib.hid (HNO.out hv)
          clear HNO HYES hv kt hwl
          go_wp2
          go_roundw
          case rel => exact ⟨k + 1, by go_num, by omega, by rw [HZ.out]; exact ho, hne, hsk⟩
          case measure => simp [intOf]; omega
        · have hv' : (vlT b k != 0) = true := by rw [bne_iff_ne]; exact hv
          have HZ := Lib.hid (HYES.out hv)
          have hs1 : B ≤ W1.heap.size := by have := hsk.1.size; omega
          have HN := Lib.hid (fun w (htb : Tab w) => itoa_any (n := vlT b k) w hvl htb)
          generalize vlT b k = n at *
          clear HNO HYES hv
          go_upto_region 8 with fail
          clear t0 t1 gv
          refine wp_region_held_drew (S := fun w' => SK B w9 h (.cells #[.string ⟨#[112, 97, 100]⟩, .pointer (some ⟨g, 4, none⟩), .string ⟨#[103, 97, 112]⟩, .pointer (some ⟨g, 5, none⟩), .string ⟨#[103, 114, 111, 119]⟩, .pointer (some ⟨g, 6, none⟩), .string ⟨#[115, 104, 114, 105, 110, 107]⟩, .pointer (some ⟨g, 7, none⟩), .string ⟨#[106, 117, 115, 116, 105, 102, 121]⟩, .pointer (some ⟨g, 8, none⟩)] 84) w' ∧ Keep t (.cells #[.string ⟨(nmT k).toArray⟩, .pointer (some ⟨g, 4 + k, none⟩)] 84) w') (by kernel_rfl) ⟨⟨hsk.1.drew, hsk.2⟩, kt⟩ (fun hS => ?_)
          have ho0 := ho.drew
          clear ho kt hsk
          generalize W1.drew = wd at *
          refine hTake (by kernel_rfl) (fun d _ _ _ _ h => by cases d <;> exact h) hS 0 (some 34) _ rfl (v := ?_) (by kernel_rfl) ?_ ?_
          rotate_left
          · intro _ _; go_simp; first | done | with_reducible rfl
          simp only [Act.put, List.setIfInBounds_toArray, List.set_cons_zero, List.set_cons_succ]
          refine hTake (by kernel_rfl) (fun d _ _ _ _ h => by cases d <;> exact h) hS 1 (some 35) _ rfl (v := ?_) (by kernel_rfl) ?_ ?_
          rotate_left
          · intro _ _; go_simp; first | done | with_reducible rfl
          simp only [Act.put, List.setIfInBounds_toArray, List.set_cons_zero, List.set_cons_succ]
          refine hTake (by kernel_rfl) (fun d _ _ _ _ h => by cases d <;> exact h) hS 2 (some 36) _ rfl (v := ?_) (by kernel_rfl) ?_ ?_
          rotate_left
          · intro w9 hS9; have q := hS9.2.cell 0; go_simp; first | done | with_reducible rfl
          simp only [Act.put, List.setIfInBounds_toArray, List.set_cons_zero, List.set_cons_succ]
          refine hTake (by kernel_rfl) (fun d _ _ _ _ h => by cases d <;> exact h) hS 3 (some 37) _ rfl (v := ?_) (by kernel_rfl) ?_ ?_
          rotate_left
          · intro _ _; go_simp; first | done | with_reducible rfl
          simp only [Act.put, List.setIfInBounds_toArray, List.set_cons_zero, List.set_cons_succ]
          refine hTake (by kernel_rfl) (fun d _ _ _ _ h => by cases d <;> exact h) hS 4 (some 38) _ rfl (v := ?_) (by kernel_rfl) ?_ ?_
          rotate_left
          · intro w9 hS9; have q := hS9.2.cell 1; go_simp; first | done | with_reducible rfl
          simp only [Act.put, List.setIfInBounds_toArray, List.set_cons_zero, List.set_cons_succ]
          refine hTake (by kernel_rfl) (fun d _ _ _ _ h => by cases d <;> exact h) hS 5 (some 39) _ rfl (v := ?_) (by kernel_rfl) ?_ ?_
          rotate_left
          · intro _ _; go_simp; first | done | with_reducible rfl
          simp only [Act.put, List.setIfInBounds_toArray, List.set_cons_zero, List.set_cons_succ]
          refine hTake (by kernel_rfl) (fun d _ _ _ _ h => by cases d <;> exact h) hS 6 (some 40) _ rfl (v := ?_) (by kernel_rfl) ?_ ?_
          rotate_left
          · intro w9 hS9; have q := GV.out _ hS9.1.1; go_simp; first | done | with_reducible rfl
          simp only [Act.put, List.setIfInBounds_toArray, List.set_cons_zero, List.set_cons_succ]
          refine wpAnyH_ready (rs := [7]) (by kernel_rfl) (by simp) ?_
          refine AllReadyH.cons (o := _) rfl (fun K9 hK9 => ?_) AllReadyH.nil
          go_simp
          refine (HN.out _ (HT9.out _ hS.1.1)).mono ?_
          rintro e w10 ⟨rfl, hx⟩
          unfold sv
          try go_wp2_with fail
          replace ho0 := ho0.below hx (Nat.le_refl _)
          refine hK9.out _ _ ⟨hS.1.ext hx hB9, keepE hS.2 hx⟩ (fun hS => ?_)
          clear hK9 K9
          try simp only [Act.put, List.setIfInBounds_toArray, List.set_cons_zero, List.set_cons_succ]
          clear hx
          refine wpAnyH_ready (rs := [8]) (by kernel_rfl) (by simp) ?_
          refine AllReadyH.cons (o := _) rfl (fun K9 hK9 => ?_) AllReadyH.nil
          go_simp
          refine hK9.out _ _ ⟨hS.1.alloc _ hB9, hS.2.alloc _⟩ (fun hS => ?_)
          clear hK9 K9
          try simp only [Act.put, List.setIfInBounds_toArray, List.set_cons_zero, List.set_cons_succ]
          refine wpAnyH_ready (rs := [9]) (by kernel_rfl) (by simp) ?_
          refine AllReadyH.cons (o := _) rfl (fun K9 hK9 => ?_) AllReadyH.nil
          refine step_app rfl _ _ _ rfl el_str rfl (ho0.alloc _) rfl (show Rd _ 1 _ (Ss [nmT k, numT n]) from two_rd _ _ _) (Ss_one _) ?hla ?hba ?hKa
          case hla => rw [Ss_length, Ss_length]; simp only [List.length_cons, List.length_nil]; omega
          case hba => exact Nat.le_trans hB9 hS.1.1.size
          intro v8 w8 ho8 hg8 hf8
          have hne8 : blk v8 ≠ some h := blk_app hf8 hne hS.1.2.lt
          have hs8 : SK B w9 h (.cells #[.string ⟨#[112, 97, 100]⟩, .pointer (some ⟨g, 4, none⟩), .string ⟨#[103, 97, 112]⟩, .pointer (some ⟨g, 5, none⟩), .string ⟨#[103, 114, 111, 119]⟩, .pointer (some ⟨g, 6, none⟩), .string ⟨#[115, 104, 114, 105, 110, 107]⟩, .pointer (some ⟨g, 7, none⟩), .string ⟨#[106, 117, 115, 116, 105, 102, 121]⟩, .pointer (some ⟨g, 8, none⟩)] 84) w8 := hS.1.app (ho0.alloc _) hg8 hB9 (Nat.le_refl _) hne
          have ht8 : Keep t (.cells #[.string ⟨(nmT k).toArray⟩, .pointer (some ⟨g, 4 + k, none⟩)] 84) w8 := by
            unfold Keep
            rw [hg8.block t hS.2.lt (fun e => hnt e.symm)]
            exact hS.2
          refine hK9.out _ _ ⟨hs8, ht8⟩ (fun hS => ?_)
          clear hK9 K9
          try simp only [Act.put, List.setIfInBounds_toArray]
          refine hTake (by kernel_rfl) (fun d _ _ _ _ h => by cases d <;> exact h) hS 10 (some 3) _ rfl (v := ?_) (by kernel_rfl) ?_ ?_
          rotate_left
          · intro _ _; go_simp; first | done | with_reducible rfl
          simp only [Act.put]
          refine wpAnyH_done (by kernel_rfl) ?_ _
          rw [← Ss_append, ← HZ.out] at ho8
          clear hS ht8 hg8 hf8 ho0
          go_wp2
          go_roundw
          case rel => exact ⟨k + 1, by go_num, by omega, ho8, hne8, hs8⟩
          case measure => simp [intOf]; omega
      · obtain rfl : k = 5 := by omega
        have HBE := Lib.hid (HB9.out.trans hsk.1)
        have hwl := words_len b 5
        have HJ := Lib.hid (join_any (l := wordsTo b 5) 32 wr ho.rd (by unfold wordsTo; simp) (by omega) (by rw [words_five]; exact Nat.le_trans HBL.out (by omega)))
        have HW := Lib.hid (words_five b)
        clear hsk hne ho
        go_wp2_with (fail)
        refine HJ.out.mono ?_
        rintro e w11 ⟨rfl, hx⟩
        rw [HW.out]
        have HBF := Lib.hid (HBX.out _ HBE.out)
        clear HBX HBE HJ HW
        go_wp2
        go_ret
        exact ⟨rfl, after HBF.out hx (Nat.le_refl _)⟩
  · have hkd' : (b.kind == 0) = false := by simp [hkd]
    have HZ := Lib.hid (words_zero hkd)
    rw [← HZ.out] at ho
    clear hkd HZ
    go_upto_region 4 with fail
    generalize (Value.slice (some ⟨q, 0, none⟩) 1 1) = vo at *
    clear cX
    -- the words vo in world X
    go_wp2_with (fail)
    refine (styles_any g _).mono ?_
    rintro e w9 ⟨rfl, hst, hx⟩
    have hne := ho.noBlk
    replace ho := ho.below hx (Nat.le_refl _)
    replace kbX := keepE kbX hx
    have hbX9 := after (Below.refl B X) hx hXs
    have hB9 : B ≤ w9.heap.size := Nat.le_trans hXs hbX9.size
    generalize X.heap.size = h at *
    have KG := Lib.hid (fun w' (hq : Below B w9 w') => (show Keep g (.cells #[.int .i64 b.parent, .int .i64 b.kind, .int .i64 b.w, .int .i64 b.h, .int .i64 b.pad, .int .i64 b.gap, .int .i64 b.grow, .int .i64 b.shrink, .int .i64 b.justify] 39) w' from (hq.block g (by omega)).trans kbX))
    have HT9 := Lib.hid (fun w' (hq : Below B w9 w') => HTX.out w' (hbX9.trans hq))
    have HB9 := Lib.hid hbX9
    clear kbX hx hbX9
    go_wp2
    go_loopw [3, 25] (fun o i wr => ∃ k : Nat, i = .int .i64 k ∧ k ≤ 5 ∧ Own wr B 1 o (Ss (wordsTo b k)) ∧ blk o ≠ some h ∧ SK B w9 h (.cells #[.string ⟨#[112, 97, 100]⟩, .pointer (some ⟨g, 4, none⟩), .string ⟨#[103, 97, 112]⟩, .pointer (some ⟨g, 5, none⟩), .string ⟨#[103, 114, 111, 119]⟩, .pointer (some ⟨g, 6, none⟩), .string ⟨#[115, 104, 114, 105, 110, 107]⟩, .pointer (some ⟨g, 7, none⟩), .string ⟨#[106, 117, 115, 116, 105, 102, 121]⟩, .pointer (some ⟨g, 8, none⟩)] 84) wr) (fun _ i _ => 5 - (intOf i).toNat)
    case atStart => exact ⟨0, rfl, by omega, ho, hne, Below.refl _ _, hst⟩
    case round =>
      clear ho hne hst
      obtain ⟨k, rfl, hk, ho, hne, hsk⟩ := hrel
      have hwB : B ≤ wr.heap.size := Nat.le_trans hB9 hsk.1.size
      by_cases hlt : k < 5
      · have hki : (k : Int) < 5 := by omega
        have hk0 : (0 : Int) ≤ (k : Int) := by omega
        have e0 : wr.cell? ⟨h, k * 2, none⟩ = some (.string ⟨(nmT k).toArray⟩) := by
          rw [hsk.2.cell (k * 2)]
          have : k = 0 ∨ k = 1 ∨ k = 2 ∨ k = 3 ∨ k = 4 := by omega
          rcases this with rfl | rfl | rfl | rfl | rfl <;> rfl
        have e1 : wr.cell? ⟨h, k * 2 + 1, none⟩ = some (.pointer (some ⟨g, 4 + k, none⟩)) := by
          rw [hsk.2.cell (k * 2 + 1)]
          have : k = 0 ∨ k = 1 ∨ k = 2 ∨ k = 3 ∨ k = 4 := by omega
          rcases this with rfl | rfl | rfl | rfl | rfl <;> rfl
        go_upto_region 7 with fail
        have kt := Keep.new wr (.cells #[.string ⟨(nmT k).toArray⟩, .pointer (some ⟨g, 4 + k, none⟩)] 84)
        replace hsk := hsk.alloc (.cells #[.string ⟨(nmT k).toArray⟩, .pointer (some ⟨g, 4 + k, none⟩)] 84) hB9
        have hnt := ho.noBlk
        replace ho := ho.alloc (.cells #[.string ⟨(nmT k).toArray⟩, .pointer (some ⟨g, 4 + k, none⟩)] 84)
        clear e0 e1
        generalize wr.alloc (.cells #[.string ⟨(nmT k).toArray⟩, .pointer (some ⟨g, 4 + k, none⟩)] 84) = W1 at *
        generalize wr.heap.size = t at *
        have t0 := kt.cell 0
        have t1 := kt.cell 1
        have GV := Lib.hid (fun w' (hq : Below B w9 w') => (show w'.cell? ⟨g, 4 + k, none⟩ = some (.int .i64 (vlT b k)) by
          rw [(KG.out w' hq).cell (4 + k)]
          have : k = 0 ∨ k = 1 ∨ k = 2 ∨ k = 3 ∨ k = 4 := by omega
          rcases this with rfl | rfl | rfl | rfl | rfl <;> rfl))
        have gv := GV.out _ hsk.1
        have hvl := HVL.out k
        have hwl := words_len b k
        have HNO := Lib.hid (words_no (b := b) (k := k))
        have HYES := Lib.hid (words_yes (b := b) (k := k))
        by_cases hv : vlT b k = 0
        · have hv' : (vlT b k != 0) = false := by rw [hv]; rfl
          have HZ := Lib.hid (HNO.out hv)
          clear HNO HYES hv kt hwl
          go_wp2
          go_roundw
          case rel => exact ⟨k + 1, by go_num, by omega, by rw [HZ.out]; exact ho, hne, hsk⟩
          case measure => simp [intOf]; omega
        · have hv' : (vlT b k != 0) = true := by rw [bne_iff_ne]; exact hv
          have HZ := Lib.hid (HYES.out hv)
          have hs1 : B ≤ W1.heap.size := by have := hsk.1.size; omega
          have HN := Lib.hid (fun w (htb : Tab w) => itoa_any (n := vlT b k) w hvl htb)
          generalize vlT b k = n at *
          clear HNO HYES hv
          go_upto_region 8 with fail
          clear t0 t1 gv
          refine wp_region_held_drew (S := fun w' => SK B w9 h (.cells #[.string ⟨#[112, 97, 100]⟩, .pointer (some ⟨g, 4, none⟩), .string ⟨#[103, 97, 112]⟩, .pointer (some ⟨g, 5, none⟩), .string ⟨#[103, 114, 111, 119]⟩, .pointer (some ⟨g, 6, none⟩), .string ⟨#[115, 104, 114, 105, 110, 107]⟩, .pointer (some ⟨g, 7, none⟩), .string ⟨#[106, 117, 115, 116, 105, 102, 121]⟩, .pointer (some ⟨g, 8, none⟩)] 84) w' ∧ Keep t (.cells #[.string ⟨(nmT k).toArray⟩, .pointer (some ⟨g, 4 + k, none⟩)] 84) w') (by kernel_rfl) ⟨⟨hsk.1.drew, hsk.2⟩, kt⟩ (fun hS => ?_)
          have ho0 := ho.drew
          clear ho kt hsk
          generalize W1.drew = wd at *
          refine hTake (by kernel_rfl) (fun d _ _ _ _ h => by cases d <;> exact h) hS 0 (some 34) _ rfl (v := ?_) (by kernel_rfl) ?_ ?_
          rotate_left
          · intro _ _; go_simp; first | done | with_reducible rfl
          simp only [Act.put, List.setIfInBounds_toArray, List.set_cons_zero, List.set_cons_succ]
          refine hTake (by kernel_rfl) (fun d _ _ _ _ h => by cases d <;> exact h) hS 1 (some 35) _ rfl (v := ?_) (by kernel_rfl) ?_ ?_
          rotate_left
          · intro _ _; go_simp; first | done | with_reducible rfl
          simp only [Act.put, List.setIfInBounds_toArray, List.set_cons_zero, List.set_cons_succ]
          refine hTake (by kernel_rfl) (fun d _ _ _ _ h => by cases d <;> exact h) hS 2 (some 36) _ rfl (v := ?_) (by kernel_rfl) ?_ ?_
          rotate_left
          · intro w9 hS9; have q := hS9.2.cell 0; go_simp; first | done | with_reducible rfl
          simp only [Act.put, List.setIfInBounds_toArray, List.set_cons_zero, List.set_cons_succ]
          refine hTake (by kernel_rfl) (fun d _ _ _ _ h => by cases d <;> exact h) hS 3 (some 37) _ rfl (v := ?_) (by kernel_rfl) ?_ ?_
          rotate_left
          · intro _ _; go_simp; first | done | with_reducible rfl
          simp only [Act.put, List.setIfInBounds_toArray, List.set_cons_zero, List.set_cons_succ]
          refine hTake (by kernel_rfl) (fun d _ _ _ _ h => by cases d <;> exact h) hS 4 (some 38) _ rfl (v := ?_) (by kernel_rfl) ?_ ?_
          rotate_left
          · intro w9 hS9; have q := hS9.2.cell 1; go_simp; first | done | with_reducible rfl
          simp only [Act.put, List.setIfInBounds_toArray, List.set_cons_zero, List.set_cons_succ]
          refine hTake (by kernel_rfl) (fun d _ _ _ _ h => by cases d <;> exact h) hS 5 (some 39) _ rfl (v := ?_) (by kernel_rfl) ?_ ?_
          rotate_left
          · intro _ _; go_simp; first | done | with_reducible rfl
          simp only [Act.put, List.setIfInBounds_toArray, List.set_cons_zero, List.set_cons_succ]
          refine hTake (by kernel_rfl) (fun d _ _ _ _ h => by cases d <;> exact h) hS 6 (some 40) _ rfl (v := ?_) (by kernel_rfl) ?_ ?_
          rotate_left
          · intro w9 hS9; have q := GV.out _ hS9.1.1; go_simp; first | done | with_reducible rfl
          simp only [Act.put, List.setIfInBounds_toArray, List.set_cons_zero, List.set_cons_succ]
          refine wpAnyH_ready (rs := [7]) (by kernel_rfl) (by simp) ?_
          refine AllReadyH.cons (o := _) rfl (fun K9 hK9 => ?_) AllReadyH.nil
          go_simp
          refine (HN.out _ (HT9.out _ hS.1.1)).mono ?_
          rintro e w10 ⟨rfl, hx⟩
          unfold sv
          try go_wp2_with fail
          replace ho0 := ho0.below hx (Nat.le_refl _)
          refine hK9.out _ _ ⟨hS.1.ext hx hB9, keepE hS.2 hx⟩ (fun hS => ?_)
          clear hK9 K9
          try simp only [Act.put, List.setIfInBounds_toArray, List.set_cons_zero, List.set_cons_succ]
          clear hx
          refine wpAnyH_ready (rs := [8]) (by kernel_rfl) (by simp) ?_
          refine AllReadyH.cons (o := _) rfl (fun K9 hK9 => ?_) AllReadyH.nil
          go_simp
          refine hK9.out _ _ ⟨hS.1.alloc _ hB9, hS.2.alloc _⟩ (fun hS => ?_)
          clear hK9 K9
          try simp only [Act.put, List.setIfInBounds_toArray, List.set_cons_zero, List.set_cons_succ]
          refine wpAnyH_ready (rs := [9]) (by kernel_rfl) (by simp) ?_
          refine AllReadyH.cons (o := _) rfl (fun K9 hK9 => ?_) AllReadyH.nil
          refine step_app rfl _ _ _ rfl el_str rfl (ho0.alloc _) rfl (show Rd _ 1 _ (Ss [nmT k, numT n]) from two_rd _ _ _) (Ss_one _) ?hlb ?hbb ?hKb
          case hlb => rw [Ss_length, Ss_length]; simp only [List.length_cons, List.length_nil]; omega
          case hbb => exact Nat.le_trans hB9 hS.1.1.size
          intro v8 w8 ho8 hg8 hf8
          have hne8 : blk v8 ≠ some h := blk_app hf8 hne hS.1.2.lt
          have hs8 : SK B w9 h (.cells #[.string ⟨#[112, 97, 100]⟩, .pointer (some ⟨g, 4, none⟩), .string ⟨#[103, 97, 112]⟩, .pointer (some ⟨g, 5, none⟩), .string ⟨#[103, 114, 111, 119]⟩, .pointer (some ⟨g, 6, none⟩), .string ⟨#[115, 104, 114, 105, 110, 107]⟩, .pointer (some ⟨g, 7, none⟩), .string ⟨#[106, 117, 115, 116, 105, 102, 121]⟩, .pointer (some ⟨g, 8, none⟩)] 84) w8 := hS.1.app (ho0.alloc _) hg8 hB9 (Nat.le_refl _) hne
          have ht8 : Keep t (.cells #[.string ⟨(nmT k).toArray⟩, .pointer (some ⟨g, 4 + k, none⟩)] 84) w8 := by
            unfold Keep
            rw [hg8.block t hS.2.lt (fun e => hnt e.symm)]
            exact hS.2
          refine hK9.out _ _ ⟨hs8, ht8⟩ (fun hS => ?_)
          clear hK9 K9
          try simp only [Act.put, List.setIfInBounds_toArray]
          refine hTake (by kernel_rfl) (fun d _ _ _ _ h => by cases d <;> exact h) hS 10 (some 3) _ rfl (v := ?_) (by kernel_rfl) ?_ ?_
          rotate_left
          · intro _ _; go_simp; first | done | with_reducible rfl
          simp only [Act.put]
          refine wpAnyH_done (by kernel_rfl) ?_ _
          rw [← Ss_append, ← HZ.out] at ho8
          clear hS ht8 hg8 hf8 ho0
          go_wp2
          go_roundw
          case rel => exact ⟨k + 1, by go_num, by omega, ho8, hne8, hs8⟩
          case measure => simp [intOf]; omega
      · obtain rfl : k = 5 := by omega
        have HBE := Lib.hid (HB9.out.trans hsk.1)
        have hwl := words_len b 5
        have HJ := Lib.hid (join_any (l := wordsTo b 5) 32 wr ho.rd (by unfold wordsTo; simp) (by omega) (by rw [words_five]; exact Nat.le_trans HBL.out (by omega)))
        have HW := Lib.hid (words_five b)
        clear hsk hne ho
        go_wp2_with (fail)
        refine HJ.out.mono ?_
        rintro e w11 ⟨rfl, hx⟩
        rw [HW.out]
        have HBF := Lib.hid (HBX.out _ HBE.out)
        clear HBX HBE HJ HW
        go_wp2
        go_ret
        exact ⟨rfl, after HBF.out hx (Nat.le_refl _)⟩
end Go.Proofs.YtdlggpphfkjidaaGreatDoor
