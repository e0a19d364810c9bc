/-
  impl.ValidTree answers vldB.
-/
import Derived.Test.YtdlggpphfkjidaaGreatDoorPath
import Derived.Test.YtdlggpphfkjidaaGreatDoorReg
namespace Go.Proofs.YtdlggpphfkjidaaGreatDoor
open Go Go.RowKit

theorem after {B : Nat} {w w1 w2 : World} (h : Below B w w1) (h2 : Ext w1 w2) (hB : B ≤ w.heap.size) : Below B w w2 :=
  h.trans (h2.mono (Nat.le_trans hB h.size))
theorem cellOn {w1 w2 : World} {b o : Nat} {v : Option Value} (h2 : Ext w1 w2) (hb : b < w1.heap.size) (h : w1.cell? ⟨b, o, none⟩ = v) : w2.cell? ⟨b, o, none⟩ = v := by
  rw [h2.cell (by exact hb)]
  exact h
/-- a box that has just been laid into a variable -/
theorem cells9_new (w : World) (x : Bx) (e : TypeId) : Cells9 (w.alloc (.cells #[.int .i64 x.parent, .int .i64 x.kind, .int .i64 x.w, .int .i64 x.h, .int .i64 x.pad, .int .i64 x.gap, .int .i64 x.grow, .int .i64 x.shrink, .int .i64 x.justify] e)).drew w.heap.size 0 x := by
  constructor <;> (show (w.alloc _).cell? _ = _; rw [cell_of_heap (heap_alloc_new w _)]; rfl)

/-- box k is in order beside those before it -/
def goodAt (l : List Bx) (k : Nat) : Prop :=
  okB (bx l k) = true ∧ (0 < k → 0 ≤ par l k ∧ par l k < k ∧ (par l k).toNat ∈ anc l (k - 1)) ∧ (anc l k).length ≤ 6
/-- a box has not too many boxes -/
def kidAt (l : List Bx) (k : Nat) : Prop := (kid l k).length ≤ 8 ∧ ((bx l k).kind = 0 → kid l k = [])

theorem goodAt_down {l : List Bx} {k : Nat} (h0 : par l 0 = -1) (h : ∀ j, j < k → goodAt l j) {i : Nat} (hk : i < k) : Down l i := by
  intro j hj
  rcases Nat.eq_zero_or_pos j with h1 | h1
  · subst h1; rw [h0]; omega
  · exact ((h j (by omega)).2.1 h1).2.1
theorem vld_of {l : List Bx} (h1 : 1 ≤ l.length) (h2 : l.length ≤ 16) (h0 : par l 0 = -1) (hg : ∀ j, j < l.length → goodAt l j) (hk : ∀ j, j < l.length → kidAt l j) : vldB l = true :=
  vldB_iff.2 ⟨h1, h2, h0, fun i hi => (hg i hi).1, fun i hp hi => (hg i hi).2.1 hp, fun i hi => (hg i hi).2.2, fun i hi => hk i hi⟩
theorem vld_not_good {l : List Bx} {k : Nat} (hk : k < l.length) (h : ¬ goodAt l k) : vldB l = false := by
  rw [Bool.eq_false_iff]
  intro hv
  have hv := vldB_iff.1 hv
  exact h ⟨hv.ok k hk, fun h0 => hv.par k h0 hk, hv.depth k hk⟩
theorem vld_not_kid {l : List Bx} {k : Nat} (hk : k < l.length) (h : ¬ kidAt l k) : vldB l = false := by
  rw [Bool.eq_false_iff]
  intro hv
  exact h ((vldB_iff.1 hv).kids k hk)

set_option maxHeartbeats 8000000 in
theorem vt_long {v : Value} {l : List Bx} (w : World) (hv : Rd w 9 v (Bs l)) (hl : l.length ≤ 16) (hpos : 1 ≤ l.length) (h0 : par l 0 = -1) :
    Calls Tryz.prog 16 #[v] w fun e w' => e = .returned (.bool (vldB l)) ∧ Ext w w' := by
  have hrd := hv
  obtain ⟨a, c, rfl, hn, hc, hcell⟩ := hv.boxes
  unfold maxLen at hc
  obtain ⟨b, off, rfl, hbl, hC⟩ := hcell 0 _ (bx_get (by omega))
  have hp0 : ((bx l 0).parent != -1) = false := by simp; exact h0
  have hin : inR (l.length : Int) 1 16 = true := by rw [inR_iff]; omega
  obtain ⟨c00, _⟩ := hC 0 _ (bx_get (by omega))
  have HC := Lib.hid hC
  have H0 := Lib.hid h0
  simp only [Nat.zero_mul, Nat.add_zero] at c00
  clear hcell hC h0
  go_enter Tryz.func16, Tryz.ntmps16
  go_wp2_with (go_at_call 35; refine (within_any _ _ _ _).mono ?_; rintro e w' ⟨rfl, rfl⟩)
  clear c00 hp0 hin
  go_loopw [21] (fun i' wr => ∃ k : Nat, k ≤ l.length ∧ i' = .int .i64 k ∧ Hid (∀ j, j < k → goodAt l j) ∧ Below w.heap.size w wr) (fun i' _ => l.length - (intOf i').toNat)
  case atStart => exact ⟨0, by omega, rfl, fun j hj => by omega, Below.refl _ _⟩
  case round =>
    obtain ⟨k, hk, rfl, hg, hb⟩ := hrel
    have hsz := hb.size
    by_cases hlt : k < l.length
    · obtain ⟨c0, c1, c2, c3, c4, c5, c6, c7, c8⟩ := (HC.out k _ (bx_get hlt)).below hb hbl
      by_cases hok : okB (bx l k) = true
      · have hok' := hok
        clear hok
        by_cases hk0 : k = 0
        · have hdk : Down l ((k : Int)).toNat := by
            rw [Int.toNat_natCast]
            intro j hj
            obtain rfl : j = 0 := by omega
            rw [H0.out]
            omega
          have Hdk := Lib.hid hdk
          have Hk0 := Lib.hid hk0
          clear hdk
          have hgt : decide (0 < k) = false := by simp [hk0]
          have hgt2 : decide ((0 : Int) < (k : Int)) = false := by simp [hk0]
          clear hk0
          go_wp2
          refine wp_region_held_drew (S := fun w' => Below w.heap.size w w' ∧ wr.heap.size < w'.heap.size ∧ Cells9 w' wr.heap.size 0 (bx l k)) (by kernel_rfl) ?_ (fun hS => ?_)
          · exact ⟨(hb.alloc (by omega) _).drew, by simp, cells9_new _ _ _⟩
          refine hTake (by kernel_rfl) (fun d _ _ _ _ h => by cases d <;> exact h) hS 0 (some 26) _ rfl (v := ?_) (by kernel_rfl) ?_ ?_
          rotate_left
          · intro w9 hS9; obtain ⟨_, _, ⟨d0, d1, d2, d3, d4, d5, d6, d7, d8⟩⟩ := hS9; go_simp; first | done | with_reducible rfl
          simp only [Act.put, List.setIfInBounds_toArray, List.set_cons_zero, List.set_cons_succ]
          refine wpAnyH_ready (rs := [1]) (by kernel_rfl) (by simp) ?_
          refine AllReadyH.cons (o := _) rfl (fun K9 hK9 => ?_) AllReadyH.nil
          go_simp
          refine (styled_any (bx l k) _).mono ?_; rintro e w' ⟨he, hx⟩; rw [hok'] at he; subst he
          try go_wp2_with fail
          refine hK9.out _ _ ?_ (fun hS => ?_)
          · obtain ⟨hS1, hS2, hS3⟩ := hS; exact ⟨after hS1 hx (Nat.le_refl _), Nat.lt_of_lt_of_le hS2 hx.size, hS3.below hx (by exact hS2)⟩
          clear hK9 K9
          try simp only [Act.put, List.setIfInBounds_toArray, List.set_cons_zero, List.set_cons_succ]
          refine hTake (by kernel_rfl) (fun d _ _ _ _ h => by cases d <;> exact h) hS 2 (some 28) _ rfl (v := ?_) (by kernel_rfl) ?_ ?_
          rotate_left
          · intro w9 hS9; obtain ⟨_, _, ⟨d0, d1, d2, d3, d4, d5, d6, d7, d8⟩⟩ := hS9; go_simp; first | done | with_reducible rfl
          simp only [Act.put, List.setIfInBounds_toArray, List.set_cons_zero, List.set_cons_succ]
          refine hTake (by kernel_rfl) (fun d _ _ _ _ h => by cases d <;> exact h) hS 3 (some 29) _ rfl (v := ?_) (by kernel_rfl) ?_ ?_
          rotate_left
          · intro w9 hS9; obtain ⟨_, _, ⟨d0, d1, d2, d3, d4, d5, d6, d7, d8⟩⟩ := hS9; go_simp; first | done | with_reducible rfl
          simp only [Act.put, List.setIfInBounds_toArray, List.set_cons_zero, List.set_cons_succ]
          refine hTake (by kernel_rfl) (fun d _ _ _ _ h => by cases d <;> exact h) hS 4 (some 30) _ rfl (v := ?_) (by kernel_rfl) ?_ ?_
          rotate_left
          · intro w9 hS9; obtain ⟨_, _, ⟨d0, d1, d2, d3, d4, d5, d6, d7, d8⟩⟩ := hS9; go_simp; first | done | with_reducible rfl
          simp only [Act.put, List.setIfInBounds_toArray, List.set_cons_zero, List.set_cons_succ]
          refine hTake (by kernel_rfl) (fun d _ _ _ _ h => by cases d <;> exact h) hS 5 (some 31) _ rfl (v := ?_) (by kernel_rfl) ?_ ?_
          rotate_left
          · intro w9 hS9; obtain ⟨_, _, ⟨d0, d1, d2, d3, d4, d5, d6, d7, d8⟩⟩ := hS9; go_simp; first | done | with_reducible rfl
          simp only [Act.put, List.setIfInBounds_toArray, List.set_cons_zero, List.set_cons_succ]
          refine hTake (by kernel_rfl) (fun d _ _ _ _ h => by cases d <;> exact h) hS 6 (some 32) _ rfl (v := ?_) (by kernel_rfl) ?_ ?_
          rotate_left
          · intro w9 hS9; obtain ⟨_, _, ⟨d0, d1, d2, d3, d4, d5, d6, d7, d8⟩⟩ := hS9; go_simp; first | done | with_reducible rfl
          simp only [Act.put, List.setIfInBounds_toArray, List.set_cons_zero, List.set_cons_succ]
          refine hSkips (by kernel_rfl) (fun d _ _ _ _ h => by cases d <;> exact h) hS [7, 8, 9, 10, 11, 12, 13, 14, 15, 16, 17, 18, 19, 20, 21] [some 33, some 34, some 35, some 36, some 37, some 38, some 39, some 40, some 41, some 42, some 43, some 44, some 45, some 46, some 47] (by kernel_rfl) ?_
          simp only [putUndef, listAll, List.foldl_cons, List.foldl_nil, Act.put, List.setIfInBounds_toArray, List.set_cons_zero, List.set_cons_succ]
          refine hTake (by kernel_rfl) (fun d _ _ _ _ h => by cases d <;> exact h) hS 22 (some 48) _ rfl (v := ?_) (by kernel_rfl) ?_ ?_
          rotate_left
          · intro w9 hS9; obtain ⟨_, _, ⟨d0, d1, d2, d3, d4, d5, d6, d7, d8⟩⟩ := hS9; go_simp; first | done | with_reducible rfl
          simp only [Act.put, List.setIfInBounds_toArray, List.set_cons_zero, List.set_cons_succ]
          refine hTake (by kernel_rfl) (fun d _ _ _ _ h => by cases d <;> exact h) hS 23 (some 49) _ rfl (v := ?_) (by kernel_rfl) ?_ ?_
          rotate_left
          · intro w9 hS9; obtain ⟨_, _, ⟨d0, d1, d2, d3, d4, d5, d6, d7, d8⟩⟩ := hS9; go_simp; first | done | with_reducible rfl
          simp only [Act.put, List.setIfInBounds_toArray, List.set_cons_zero, List.set_cons_succ]
          refine wpAnyH_done (by kernel_rfl) ?_ _
          go_wp2_with (fail)
          refine (path_int (l := l) (i := (k : Int)) _ (by omega) (by omega) (hrd.below hS.1 (Nat.le_refl _)) Hdk.out (by omega)).mono ?_
          rintro e w2 ⟨vq, rfl, hoq, hx2⟩
          obtain ⟨aq, cq, rfl, hnq, hcq, _⟩ := hoq.rd.ints
          unfold maxLen at hcq
          rw [ni_length, List.length_reverse] at hnq
          have hb2 := after hS.1 hx2 (Nat.le_refl _)
          simp only [ni_length, List.length_reverse, Int.toNat_natCast] at *
          clear hoq hS hx2
          by_cases h6 : (anc l k).length ≤ 6
          · have hgk : goodAt l k := ⟨hok', fun h => by have := Hk0.out; omega, h6⟩
            have hg2 : Hid (∀ j, j < k + 1 → goodAt l j) := fun j hj => by
              rcases Nat.lt_or_ge j k with h | h
              · exact hg.out j h
              · obtain rfl : j = k := by omega
                exact hgk
            clear hgk
            go_wp2
            go_roundw
            case rel => exact ⟨k + 1, by omega, by go_num, hg2, hb2⟩
            case measure => simp [intOf]; omega
          · have hng : ¬ goodAt l k := fun hg1 => h6 hg1.2.2
            have Hng := Lib.hid hng
            clear hng
            go_wp2
            go_ret
            exact ⟨by rw [vld_not_good hlt Hng.out]; rfl, hb2⟩
        · have hkp : 0 < k := by omega
          have hwr : IntKind.i64.wrap ((k : Int) - 1) = (k : Int) - 1 := IntWalk.i64_in _ (by omega)
          by_cases hw : inR (bx l k).parent 0 ((k : Int) - 1) = true
          · have hw' := hw
            rw [inR_iff] at hw
            have hdn : Down l ((k : Int) - 1).toNat := goodAt_down H0.out hg (by omega)
            have hdk : Down l ((k : Int)).toNat := by
              rw [Int.toNat_natCast]
              intro j hj
              rcases Nat.lt_or_ge j k with h | h
              · exact goodAt_down H0.out hg h j (Nat.le_refl _)
              · obtain rfl : j = k := by omega
                unfold par
                omega
            have Hdk := Lib.hid hdk
            clear hdk
            by_cases hm : (bx l k).parent ∈ ni (anc l ((k : Int) - 1).toNat).reverse
            · have hm' : decide ((bx l k).parent ∈ ni (anc l ((k : Int) - 1).toNat).reverse) = true := by simp only [hm, decide_true]
              have Hm := Lib.hid hm
              have Hdn := Lib.hid hdn
              clear hm hk0
              go_wp2
              refine wp_region_held_drew (S := fun w' => Below w.heap.size w w' ∧ wr.heap.size < w'.heap.size ∧ Cells9 w' wr.heap.size 0 (bx l k)) (by kernel_rfl) ?_ (fun hS => ?_)
              · exact ⟨(hb.alloc (by omega) _).drew, by simp, cells9_new _ _ _⟩
              refine hTake (by kernel_rfl) (fun d _ _ _ _ h => by cases d <;> exact h) hS 0 (some 26) _ rfl (v := ?_) (by kernel_rfl) ?_ ?_
              rotate_left
              · intro w9 hS9; obtain ⟨_, _, ⟨d0, d1, d2, d3, d4, d5, d6, d7, d8⟩⟩ := hS9; go_simp; first | done | with_reducible rfl
              simp only [Act.put, List.setIfInBounds_toArray, List.set_cons_zero, List.set_cons_succ]
              refine wpAnyH_ready (rs := [1]) (by kernel_rfl) (by simp) ?_
              refine AllReadyH.cons (o := _) rfl (fun K9 hK9 => ?_) AllReadyH.nil
              go_simp
              refine (styled_any (bx l k) _).mono ?_; rintro e w' ⟨he, hx⟩; rw [hok'] at he; subst he
              try go_wp2_with fail
              refine hK9.out _ _ ?_ (fun hS => ?_)
              · obtain ⟨hS1, hS2, hS3⟩ := hS; exact ⟨after hS1 hx (Nat.le_refl _), Nat.lt_of_lt_of_le hS2 hx.size, hS3.below hx (by exact hS2)⟩
              clear hK9 K9
              try simp only [Act.put, List.setIfInBounds_toArray, List.set_cons_zero, List.set_cons_succ]
              refine hTake (by kernel_rfl) (fun d _ _ _ _ h => by cases d <;> exact h) hS 2 (some 28) _ rfl (v := ?_) (by kernel_rfl) ?_ ?_
              rotate_left
              · intro w9 hS9; obtain ⟨_, _, ⟨d0, d1, d2, d3, d4, d5, d6, d7, d8⟩⟩ := hS9; go_simp; first | done | with_reducible rfl
              simp only [Act.put, List.setIfInBounds_toArray, List.set_cons_zero, List.set_cons_succ]
              refine hTake (by kernel_rfl) (fun d _ _ _ _ h => by cases d <;> exact h) hS 3 (some 29) _ rfl (v := ?_) (by kernel_rfl) ?_ ?_
              rotate_left
              · intro w9 hS9; obtain ⟨_, _, ⟨d0, d1, d2, d3, d4, d5, d6, d7, d8⟩⟩ := hS9; go_simp; first | done | with_reducible rfl
              simp only [Act.put, List.setIfInBounds_toArray, List.set_cons_zero, List.set_cons_succ]
              refine hTake (by kernel_rfl) (fun d _ _ _ _ h => by cases d <;> exact h) hS 4 (some 30) _ rfl (v := ?_) (by kernel_rfl) ?_ ?_
              rotate_left
              · intro w9 hS9; obtain ⟨_, _, ⟨d0, d1, d2, d3, d4, d5, d6, d7, d8⟩⟩ := hS9; go_simp; first | done | with_reducible rfl
              simp only [Act.put, List.setIfInBounds_toArray, List.set_cons_zero, List.set_cons_succ]
              refine hTake (by kernel_rfl) (fun d _ _ _ _ h => by cases d <;> exact h) hS 5 (some 31) _ rfl (v := ?_) (by kernel_rfl) ?_ ?_
              rotate_left
              · intro w9 hS9; obtain ⟨_, _, ⟨d0, d1, d2, d3, d4, d5, d6, d7, d8⟩⟩ := hS9; go_simp; first | done | with_reducible rfl
              simp only [Act.put, List.setIfInBounds_toArray, List.set_cons_zero, List.set_cons_succ]
              refine hTake (by kernel_rfl) (fun d _ _ _ _ h => by cases d <;> exact h) hS 6 (some 32) _ rfl (v := ?_) (by kernel_rfl) ?_ ?_
              rotate_left
              · intro w9 hS9; obtain ⟨_, _, ⟨d0, d1, d2, d3, d4, d5, d6, d7, d8⟩⟩ := hS9; go_simp; first | done | with_reducible rfl
              simp only [Act.put, List.setIfInBounds_toArray, List.set_cons_zero, List.set_cons_succ]
              refine hTake (by kernel_rfl) (fun d _ _ _ _ h => by cases d <;> exact h) hS 7 (some 33) _ rfl (v := ?_) (by kernel_rfl) ?_ ?_
              rotate_left
              · intro w9 hS9; obtain ⟨_, _, ⟨d0, d1, d2, d3, d4, d5, d6, d7, d8⟩⟩ := hS9; go_simp; first | done | with_reducible rfl
              simp only [Act.put, List.setIfInBounds_toArray, List.set_cons_zero, List.set_cons_succ]
              refine hTake (by kernel_rfl) (fun d _ _ _ _ h => by cases d <;> exact h) hS 8 (some 34) _ rfl (v := ?_) (by kernel_rfl) ?_ ?_
              rotate_left
              · intro w9 hS9; obtain ⟨_, _, ⟨d0, d1, d2, d3, d4, d5, d6, d7, d8⟩⟩ := hS9; go_simp; first | done | with_reducible rfl
              simp only [Act.put, List.setIfInBounds_toArray, List.set_cons_zero, List.set_cons_succ]
              refine hTake (by kernel_rfl) (fun d _ _ _ _ h => by cases d <;> exact h) hS 9 (some 35) _ rfl (v := ?_) (by kernel_rfl) ?_ ?_
              rotate_left
              · intro w9 hS9; obtain ⟨_, _, ⟨d0, d1, d2, d3, d4, d5, d6, d7, d8⟩⟩ := hS9; go_simp; first | done | with_reducible rfl
              simp only [Act.put, List.setIfInBounds_toArray, List.set_cons_zero, List.set_cons_succ]
              refine hTake (by kernel_rfl) (fun d _ _ _ _ h => by cases d <;> exact h) hS 10 (some 36) _ rfl (v := ?_) (by kernel_rfl) ?_ ?_
              rotate_left
              · intro w9 hS9; obtain ⟨_, _, ⟨d0, d1, d2, d3, d4, d5, d6, d7, d8⟩⟩ := hS9; go_simp; first | done | with_reducible rfl
              simp only [Act.put, List.setIfInBounds_toArray, List.set_cons_zero, List.set_cons_succ]
              refine wpAnyH_ready (rs := [11]) (by kernel_rfl) (by simp) ?_
              refine AllReadyH.cons (o := _) rfl (fun K9 hK9 => ?_) AllReadyH.nil
              go_simp
              refine (within_any _ _ _ _).mono ?_; rintro e w' ⟨he, rfl⟩; rw [hw'] at he; subst he
              try go_wp2_with fail
              refine hK9.out _ _ ?_ (fun hS => ?_)
              · exact hS
              clear hK9 K9
              try simp only [Act.put, List.setIfInBounds_toArray, List.set_cons_zero, List.set_cons_succ]
              refine hTake (by kernel_rfl) (fun d _ _ _ _ h => by cases d <;> exact h) hS 12 (some 38) _ rfl (v := ?_) (by kernel_rfl) ?_ ?_
              rotate_left
              · intro w9 hS9; obtain ⟨_, _, ⟨d0, d1, d2, d3, d4, d5, d6, d7, d8⟩⟩ := hS9; go_simp; first | done | with_reducible rfl
              simp only [Act.put, List.setIfInBounds_toArray, List.set_cons_zero, List.set_cons_succ]
              refine hTake (by kernel_rfl) (fun d _ _ _ _ h => by cases d <;> exact h) hS 13 (some 39) _ rfl (v := ?_) (by kernel_rfl) ?_ ?_
              rotate_left
              · intro w9 hS9; obtain ⟨_, _, ⟨d0, d1, d2, d3, d4, d5, d6, d7, d8⟩⟩ := hS9; go_simp; first | done | with_reducible rfl
              simp only [Act.put, List.setIfInBounds_toArray, List.set_cons_zero, List.set_cons_succ]
              refine hTake (by kernel_rfl) (fun d _ _ _ _ h => by cases d <;> exact h) hS 14 (some 40) _ rfl (v := ?_) (by kernel_rfl) ?_ ?_
              rotate_left
              · intro w9 hS9; obtain ⟨_, _, ⟨d0, d1, d2, d3, d4, d5, d6, d7, d8⟩⟩ := hS9; go_simp; first | done | with_reducible rfl
              simp only [Act.put, List.setIfInBounds_toArray, List.set_cons_zero, List.set_cons_succ]
              refine hTake (by kernel_rfl) (fun d _ _ _ _ h => by cases d <;> exact h) hS 15 (some 41) _ rfl (v := ?_) (by kernel_rfl) ?_ ?_
              rotate_left
              · intro w9 hS9; obtain ⟨_, _, ⟨d0, d1, d2, d3, d4, d5, d6, d7, d8⟩⟩ := hS9; go_simp; first | done | with_reducible rfl
              simp only [Act.put, List.setIfInBounds_toArray, List.set_cons_zero, List.set_cons_succ]
              refine hTake (by kernel_rfl) (fun d _ _ _ _ h => by cases d <;> exact h) hS 17 (some 43) _ rfl (v := ?_) (by kernel_rfl) ?_ ?_
              rotate_left
              · intro w9 hS9; obtain ⟨_, _, ⟨d0, d1, d2, d3, d4, d5, d6, d7, d8⟩⟩ := hS9; go_simp; first | done | with_reducible rfl
              simp only [Act.put, List.setIfInBounds_toArray, List.set_cons_zero, List.set_cons_succ]
              refine hTake (by kernel_rfl) (fun d _ _ _ _ h => by cases d <;> exact h) hS 18 (some 44) _ rfl (v := ?_) (by kernel_rfl) ?_ ?_
              rotate_left
              · intro w9 hS9; obtain ⟨_, _, ⟨d0, d1, d2, d3, d4, d5, d6, d7, d8⟩⟩ := hS9; go_simp; first | done | with_reducible rfl
              simp only [Act.put, List.setIfInBounds_toArray, List.set_cons_zero, List.set_cons_succ]
              refine wpAnyH_ready (rs := [16]) (by kernel_rfl) (by simp) ?_
              refine AllReadyH.cons (o := _) rfl (fun K9 hK9 => ?_) AllReadyH.nil
              go_simp
              refine (path_int (l := l) _ (by omega) (by omega) (hrd.below hS.1 (Nat.le_refl _)) hdn (by omega)).mono ?_; rintro e w' ⟨vp, rfl, hop, hx⟩
              try go_wp2_with fail
              refine hK9.out _ _ ?_ (fun hS => ?_)
              · obtain ⟨hS1, hS2, hS3⟩ := hS; exact ⟨after hS1 hx (Nat.le_refl _), Nat.lt_of_lt_of_le hS2 hx.size, hS3.below hx (by exact hS2)⟩
              clear hK9 K9
              try simp only [Act.put, List.setIfInBounds_toArray, List.set_cons_zero, List.set_cons_succ]
              refine wpAnyH_ready (rs := [19]) (by kernel_rfl) (by simp) ?_
              refine AllReadyH.cons (o := _) rfl (fun K9 hK9 => ?_) AllReadyH.nil
              go_simp
              refine (Contains_any _ _ hop.rd).mono ?_; rintro e w' ⟨he, rfl⟩; rw [hm'] at he; subst he
              try go_wp2_with fail
              refine hK9.out _ _ ?_ (fun hS => ?_)
              · exact hS
              clear hK9 K9
              try simp only [Act.put, List.setIfInBounds_toArray, List.set_cons_zero, List.set_cons_succ]
              refine hTake (by kernel_rfl) (fun d _ _ _ _ h => by cases d <;> exact h) hS 20 (some 46) _ rfl (v := ?_) (by kernel_rfl) ?_ ?_
              rotate_left
              · intro w9 hS9; obtain ⟨_, _, ⟨d0, d1, d2, d3, d4, d5, d6, d7, d8⟩⟩ := hS9; go_simp; first | done | with_reducible rfl
              simp only [Act.put, List.setIfInBounds_toArray, List.set_cons_zero, List.set_cons_succ]
              refine hTake (by kernel_rfl) (fun d _ _ _ _ h => by cases d <;> exact h) hS 21 (some 47) _ rfl (v := ?_) (by kernel_rfl) ?_ ?_
              rotate_left
              · intro w9 hS9; obtain ⟨_, _, ⟨d0, d1, d2, d3, d4, d5, d6, d7, d8⟩⟩ := hS9; go_simp; first | done | with_reducible rfl
              simp only [Act.put, List.setIfInBounds_toArray, List.set_cons_zero, List.set_cons_succ]
              refine hTake (by kernel_rfl) (fun d _ _ _ _ h => by cases d <;> exact h) hS 22 (some 48) _ rfl (v := ?_) (by kernel_rfl) ?_ ?_
              rotate_left
              · intro w9 hS9; obtain ⟨_, _, ⟨d0, d1, d2, d3, d4, d5, d6, d7, d8⟩⟩ := hS9; go_simp; first | done | with_reducible rfl
              simp only [Act.put, List.setIfInBounds_toArray, List.set_cons_zero, List.set_cons_succ]
              refine hTake (by kernel_rfl) (fun d _ _ _ _ h => by cases d <;> exact h) hS 23 (some 49) _ rfl (v := ?_) (by kernel_rfl) ?_ ?_
              rotate_left
              · intro w9 hS9; obtain ⟨_, _, ⟨d0, d1, d2, d3, d4, d5, d6, d7, d8⟩⟩ := hS9; go_simp; first | done | with_reducible rfl
              simp only [Act.put, List.setIfInBounds_toArray, List.set_cons_zero, List.set_cons_succ]
              refine wpAnyH_done (by kernel_rfl) ?_ _
              go_wp2_with (fail)
              refine (path_int (l := l) (i := (k : Int)) _ (by omega) (by omega) (hrd.below hS.1 (Nat.le_refl _)) Hdk.out (by omega)).mono ?_
              rintro e w2 ⟨vq, rfl, hoq, hx2⟩
              obtain ⟨aq, cq, rfl, hnq, hcq, _⟩ := hoq.rd.ints
              unfold maxLen at hcq
              rw [ni_length, List.length_reverse] at hnq
              have hb2 := after hS.1 hx2 (Nat.le_refl _)
              simp only [ni_length, List.length_reverse, Int.toNat_natCast] at *
              clear hoq hS hx2
              by_cases h6 : (anc l k).length ≤ 6
              · have hgk : goodAt l k := ⟨hok', fun _ => ⟨hw.1, by unfold par; omega, by
                  have := Hm.out
                  rw [mem_ni] at this
                  obtain ⟨n, hn1, hn2⟩ := this
                  rw [List.mem_reverse] at hn1
                  unfold par
                  rw [← hn2, Int.toNat_natCast, show k - 1 = ((k : Int) - 1).toNat from by omega]
                  exact hn1⟩, h6⟩
                have hg2 : Hid (∀ j, j < k + 1 → goodAt l j) := fun j hj => by
                  rcases Nat.lt_or_ge j k with h | h
                  · exact hg.out j h
                  · obtain rfl : j = k := by omega
                    exact hgk
                clear hgk
                go_wp2
                go_roundw
                case rel => exact ⟨k + 1, by omega, by go_num, hg2, hb2⟩
                case measure => simp [intOf]; omega
              · have hng : ¬ goodAt l k := fun hg1 => h6 hg1.2.2
                have Hng := Lib.hid hng
                clear hng
                go_wp2
                go_ret
                exact ⟨by rw [vld_not_good hlt Hng.out]; rfl, hb2⟩
            · have hm' : decide ((bx l k).parent ∈ ni (anc l ((k : Int) - 1).toNat).reverse) = false := by simp only [hm, decide_false]
              have Hm := Lib.hid hm
              have Hdn := Lib.hid hdn
              clear hm hk0
              go_wp2
              refine wp_region_held_drew (S := fun w' => Below w.heap.size w w' ∧ wr.heap.size < w'.heap.size ∧ Cells9 w' wr.heap.size 0 (bx l k)) (by kernel_rfl) ?_ (fun hS => ?_)
              · exact ⟨(hb.alloc (by omega) _).drew, by simp, cells9_new _ _ _⟩
              refine hTake (by kernel_rfl) (fun d _ _ _ _ h => by cases d <;> exact h) hS 0 (some 26) _ rfl (v := ?_) (by kernel_rfl) ?_ ?_
              rotate_left
              · intro w9 hS9; obtain ⟨_, _, ⟨d0, d1, d2, d3, d4, d5, d6, d7, d8⟩⟩ := hS9; go_simp; first | done | with_reducible rfl
              simp only [Act.put, List.setIfInBounds_toArray, List.set_cons_zero, List.set_cons_succ]
              refine wpAnyH_ready (rs := [1]) (by kernel_rfl) (by simp) ?_
              refine AllReadyH.cons (o := _) rfl (fun K9 hK9 => ?_) AllReadyH.nil
              go_simp
              refine (styled_any (bx l k) _).mono ?_; rintro e w' ⟨he, hx⟩; rw [hok'] at he; subst he
              try go_wp2_with fail
              refine hK9.out _ _ ?_ (fun hS => ?_)
              · obtain ⟨hS1, hS2, hS3⟩ := hS; exact ⟨after hS1 hx (Nat.le_refl _), Nat.lt_of_lt_of_le hS2 hx.size, hS3.below hx (by exact hS2)⟩
              clear hK9 K9
              try simp only [Act.put, List.setIfInBounds_toArray, List.set_cons_zero, List.set_cons_succ]
              refine hTake (by kernel_rfl) (fun d _ _ _ _ h => by cases d <;> exact h) hS 2 (some 28) _ rfl (v := ?_) (by kernel_rfl) ?_ ?_
              rotate_left
              · intro w9 hS9; obtain ⟨_, _, ⟨d0, d1, d2, d3, d4, d5, d6, d7, d8⟩⟩ := hS9; go_simp; first | done | with_reducible rfl
              simp only [Act.put, List.setIfInBounds_toArray, List.set_cons_zero, List.set_cons_succ]
              refine hTake (by kernel_rfl) (fun d _ _ _ _ h => by cases d <;> exact h) hS 3 (some 29) _ rfl (v := ?_) (by kernel_rfl) ?_ ?_
              rotate_left
              · intro w9 hS9; obtain ⟨_, _, ⟨d0, d1, d2, d3, d4, d5, d6, d7, d8⟩⟩ := hS9; go_simp; first | done | with_reducible rfl
              simp only [Act.put, List.setIfInBounds_toArray, List.set_cons_zero, List.set_cons_succ]
              refine hTake (by kernel_rfl) (fun d _ _ _ _ h => by cases d <;> exact h) hS 4 (some 30) _ rfl (v := ?_) (by kernel_rfl) ?_ ?_
              rotate_left
              · intro w9 hS9; obtain ⟨_, _, ⟨d0, d1, d2, d3, d4, d5, d6, d7, d8⟩⟩ := hS9; go_simp; first | done | with_reducible rfl
              simp only [Act.put, List.setIfInBounds_toArray, List.set_cons_zero, List.set_cons_succ]
              refine hTake (by kernel_rfl) (fun d _ _ _ _ h => by cases d <;> exact h) hS 5 (some 31) _ rfl (v := ?_) (by kernel_rfl) ?_ ?_
              rotate_left
              · intro w9 hS9; obtain ⟨_, _, ⟨d0, d1, d2, d3, d4, d5, d6, d7, d8⟩⟩ := hS9; go_simp; first | done | with_reducible rfl
              simp only [Act.put, List.setIfInBounds_toArray, List.set_cons_zero, List.set_cons_succ]
              refine hTake (by kernel_rfl) (fun d _ _ _ _ h => by cases d <;> exact h) hS 6 (some 32) _ rfl (v := ?_) (by kernel_rfl) ?_ ?_
              rotate_left
              · intro w9 hS9; obtain ⟨_, _, ⟨d0, d1, d2, d3, d4, d5, d6, d7, d8⟩⟩ := hS9; go_simp; first | done | with_reducible rfl
              simp only [Act.put, List.setIfInBounds_toArray, List.set_cons_zero, List.set_cons_succ]
              refine hTake (by kernel_rfl) (fun d _ _ _ _ h => by cases d <;> exact h) hS 7 (some 33) _ rfl (v := ?_) (by kernel_rfl) ?_ ?_
              rotate_left
              · intro w9 hS9; obtain ⟨_, _, ⟨d0, d1, d2, d3, d4, d5, d6, d7, d8⟩⟩ := hS9; go_simp; first | done | with_reducible rfl
              simp only [Act.put, List.setIfInBounds_toArray, List.set_cons_zero, List.set_cons_succ]
              refine hTake (by kernel_rfl) (fun d _ _ _ _ h => by cases d <;> exact h) hS 8 (some 34) _ rfl (v := ?_) (by kernel_rfl) ?_ ?_
              rotate_left
              · intro w9 hS9; obtain ⟨_, _, ⟨d0, d1, d2, d3, d4, d5, d6, d7, d8⟩⟩ := hS9; go_simp; first | done | with_reducible rfl
              simp only [Act.put, List.setIfInBounds_toArray, List.set_cons_zero, List.set_cons_succ]
              refine hTake (by kernel_rfl) (fun d _ _ _ _ h => by cases d <;> exact h) hS 9 (some 35) _ rfl (v := ?_) (by kernel_rfl) ?_ ?_
              rotate_left
              · intro w9 hS9; obtain ⟨_, _, ⟨d0, d1, d2, d3, d4, d5, d6, d7, d8⟩⟩ := hS9; go_simp; first | done | with_reducible rfl
              simp only [Act.put, List.setIfInBounds_toArray, List.set_cons_zero, List.set_cons_succ]
              refine hTake (by kernel_rfl) (fun d _ _ _ _ h => by cases d <;> exact h) hS 10 (some 36) _ rfl (v := ?_) (by kernel_rfl) ?_ ?_
              rotate_left
              · intro w9 hS9; obtain ⟨_, _, ⟨d0, d1, d2, d3, d4, d5, d6, d7, d8⟩⟩ := hS9; go_simp; first | done | with_reducible rfl
              simp only [Act.put, List.setIfInBounds_toArray, List.set_cons_zero, List.set_cons_succ]
              refine wpAnyH_ready (rs := [11]) (by kernel_rfl) (by simp) ?_
              refine AllReadyH.cons (o := _) rfl (fun K9 hK9 => ?_) AllReadyH.nil
              go_simp
              refine (within_any _ _ _ _).mono ?_; rintro e w' ⟨he, rfl⟩; rw [hw'] at he; subst he
              try go_wp2_with fail
              refine hK9.out _ _ ?_ (fun hS => ?_)
              · exact hS
              clear hK9 K9
              try simp only [Act.put, List.setIfInBounds_toArray, List.set_cons_zero, List.set_cons_succ]
              refine hTake (by kernel_rfl) (fun d _ _ _ _ h => by cases d <;> exact h) hS 12 (some 38) _ rfl (v := ?_) (by kernel_rfl) ?_ ?_
              rotate_left
              · intro w9 hS9; obtain ⟨_, _, ⟨d0, d1, d2, d3, d4, d5, d6, d7, d8⟩⟩ := hS9; go_simp; first | done | with_reducible rfl
              simp only [Act.put, List.setIfInBounds_toArray, List.set_cons_zero, List.set_cons_succ]
              refine hTake (by kernel_rfl) (fun d _ _ _ _ h => by cases d <;> exact h) hS 13 (some 39) _ rfl (v := ?_) (by kernel_rfl) ?_ ?_
              rotate_left
              · intro w9 hS9; obtain ⟨_, _, ⟨d0, d1, d2, d3, d4, d5, d6, d7, d8⟩⟩ := hS9; go_simp; first | done | with_reducible rfl
              simp only [Act.put, List.setIfInBounds_toArray, List.set_cons_zero, List.set_cons_succ]
              refine hTake (by kernel_rfl) (fun d _ _ _ _ h => by cases d <;> exact h) hS 14 (some 40) _ rfl (v := ?_) (by kernel_rfl) ?_ ?_
              rotate_left
              · intro w9 hS9; obtain ⟨_, _, ⟨d0, d1, d2, d3, d4, d5, d6, d7, d8⟩⟩ := hS9; go_simp; first | done | with_reducible rfl
              simp only [Act.put, List.setIfInBounds_toArray, List.set_cons_zero, List.set_cons_succ]
              refine hTake (by kernel_rfl) (fun d _ _ _ _ h => by cases d <;> exact h) hS 15 (some 41) _ rfl (v := ?_) (by kernel_rfl) ?_ ?_
              rotate_left
              · intro w9 hS9; obtain ⟨_, _, ⟨d0, d1, d2, d3, d4, d5, d6, d7, d8⟩⟩ := hS9; go_simp; first | done | with_reducible rfl
              simp only [Act.put, List.setIfInBounds_toArray, List.set_cons_zero, List.set_cons_succ]
              refine hTake (by kernel_rfl) (fun d _ _ _ _ h => by cases d <;> exact h) hS 17 (some 43) _ rfl (v := ?_) (by kernel_rfl) ?_ ?_
              rotate_left
              · intro w9 hS9; obtain ⟨_, _, ⟨d0, d1, d2, d3, d4, d5, d6, d7, d8⟩⟩ := hS9; go_simp; first | done | with_reducible rfl
              simp only [Act.put, List.setIfInBounds_toArray, List.set_cons_zero, List.set_cons_succ]
              refine hTake (by kernel_rfl) (fun d _ _ _ _ h => by cases d <;> exact h) hS 18 (some 44) _ rfl (v := ?_) (by kernel_rfl) ?_ ?_
              rotate_left
              · intro w9 hS9; obtain ⟨_, _, ⟨d0, d1, d2, d3, d4, d5, d6, d7, d8⟩⟩ := hS9; go_simp; first | done | with_reducible rfl
              simp only [Act.put, List.setIfInBounds_toArray, List.set_cons_zero, List.set_cons_succ]
              refine wpAnyH_ready (rs := [16]) (by kernel_rfl) (by simp) ?_
              refine AllReadyH.cons (o := _) rfl (fun K9 hK9 => ?_) AllReadyH.nil
              go_simp
              refine (path_int (l := l) _ (by omega) (by omega) (hrd.below hS.1 (Nat.le_refl _)) hdn (by omega)).mono ?_; rintro e w' ⟨vp, rfl, hop, hx⟩
              try go_wp2_with fail
              refine hK9.out _ _ ?_ (fun hS => ?_)
              · obtain ⟨hS1, hS2, hS3⟩ := hS; exact ⟨after hS1 hx (Nat.le_refl _), Nat.lt_of_lt_of_le hS2 hx.size, hS3.below hx (by exact hS2)⟩
              clear hK9 K9
              try simp only [Act.put, List.setIfInBounds_toArray, List.set_cons_zero, List.set_cons_succ]
              refine wpAnyH_ready (rs := [19]) (by kernel_rfl) (by simp) ?_
              refine AllReadyH.cons (o := _) rfl (fun K9 hK9 => ?_) AllReadyH.nil
              go_simp
              refine (Contains_any _ _ hop.rd).mono ?_; rintro e w' ⟨he, rfl⟩; rw [hm'] at he; subst he
              try go_wp2_with fail
              refine hK9.out _ _ ?_ (fun hS => ?_)
              · exact hS
              clear hK9 K9
              try simp only [Act.put, List.setIfInBounds_toArray, List.set_cons_zero, List.set_cons_succ]
              refine hTake (by kernel_rfl) (fun d _ _ _ _ h => by cases d <;> exact h) hS 20 (some 46) _ rfl (v := ?_) (by kernel_rfl) ?_ ?_
              rotate_left
              · intro w9 hS9; obtain ⟨_, _, ⟨d0, d1, d2, d3, d4, d5, d6, d7, d8⟩⟩ := hS9; go_simp; first | done | with_reducible rfl
              simp only [Act.put, List.setIfInBounds_toArray, List.set_cons_zero, List.set_cons_succ]
              refine hTake (by kernel_rfl) (fun d _ _ _ _ h => by cases d <;> exact h) hS 21 (some 47) _ rfl (v := ?_) (by kernel_rfl) ?_ ?_
              rotate_left
              · intro w9 hS9; obtain ⟨_, _, ⟨d0, d1, d2, d3, d4, d5, d6, d7, d8⟩⟩ := hS9; go_simp; first | done | with_reducible rfl
              simp only [Act.put, List.setIfInBounds_toArray, List.set_cons_zero, List.set_cons_succ]
              refine hTake (by kernel_rfl) (fun d _ _ _ _ h => by cases d <;> exact h) hS 22 (some 48) _ rfl (v := ?_) (by kernel_rfl) ?_ ?_
              rotate_left
              · intro w9 hS9; obtain ⟨_, _, ⟨d0, d1, d2, d3, d4, d5, d6, d7, d8⟩⟩ := hS9; go_simp; first | done | with_reducible rfl
              simp only [Act.put, List.setIfInBounds_toArray, List.set_cons_zero, List.set_cons_succ]
              refine hTake (by kernel_rfl) (fun d _ _ _ _ h => by cases d <;> exact h) hS 23 (some 49) _ rfl (v := ?_) (by kernel_rfl) ?_ ?_
              rotate_left
              · intro w9 hS9; obtain ⟨_, _, ⟨d0, d1, d2, d3, d4, d5, d6, d7, d8⟩⟩ := hS9; go_simp; first | done | with_reducible rfl
              simp only [Act.put, List.setIfInBounds_toArray, List.set_cons_zero, List.set_cons_succ]
              refine wpAnyH_done (by kernel_rfl) ?_ _
              go_wp2
              go_ret
              have hng : ¬ goodAt l k := fun hg1 => by
                have h3 := (hg1.2.1 hkp).2.2
                apply Hm.out
                rw [mem_ni]
                have h4 := (hg1.2.1 hkp).1
                unfold par at h3 h4
                refine ⟨(bx l k).parent.toNat, ?_, by omega⟩
                rw [List.mem_reverse, show ((k : Int) - 1).toNat = k - 1 from by omega]
                exact h3
              exact ⟨by rw [vld_not_good hlt hng]; rfl, hS.1⟩
          · have hw' : inR (bx l k).parent 0 ((k : Int) - 1) = false := by simpa using hw
            clear hw hk0
            go_wp2
            refine wp_region_held_drew (S := fun w' => Below w.heap.size w w' ∧ wr.heap.size < w'.heap.size ∧ Cells9 w' wr.heap.size 0 (bx l k)) (by kernel_rfl) ?_ (fun hS => ?_)
            · exact ⟨(hb.alloc (by omega) _).drew, by simp, cells9_new _ _ _⟩
            refine hTake (by kernel_rfl) (fun d _ _ _ _ h => by cases d <;> exact h) hS 0 (some 26) _ rfl (v := ?_) (by kernel_rfl) ?_ ?_
            rotate_left
            · intro w9 hS9; obtain ⟨_, _, ⟨d0, d1, d2, d3, d4, d5, d6, d7, d8⟩⟩ := hS9; go_simp; first | done | with_reducible rfl
            simp only [Act.put, List.setIfInBounds_toArray, List.set_cons_zero, List.set_cons_succ]
            refine wpAnyH_ready (rs := [1]) (by kernel_rfl) (by simp) ?_
            refine AllReadyH.cons (o := _) rfl (fun K9 hK9 => ?_) AllReadyH.nil
            go_simp
            refine (styled_any (bx l k) _).mono ?_; rintro e w' ⟨he, hx⟩; rw [hok'] at he; subst he
            try go_wp2_with fail
            refine hK9.out _ _ ?_ (fun hS => ?_)
            · obtain ⟨hS1, hS2, hS3⟩ := hS; exact ⟨after hS1 hx (Nat.le_refl _), Nat.lt_of_lt_of_le hS2 hx.size, hS3.below hx (by exact hS2)⟩
            clear hK9 K9
            try simp only [Act.put, List.setIfInBounds_toArray, List.set_cons_zero, List.set_cons_succ]
            refine hTake (by kernel_rfl) (fun d _ _ _ _ h => by cases d <;> exact h) hS 2 (some 28) _ rfl (v := ?_) (by kernel_rfl) ?_ ?_
            rotate_left
            · intro w9 hS9; obtain ⟨_, _, ⟨d0, d1, d2, d3, d4, d5, d6, d7, d8⟩⟩ := hS9; go_simp; first | done | with_reducible rfl
            simp only [Act.put, List.setIfInBounds_toArray, List.set_cons_zero, List.set_cons_succ]
            refine hTake (by kernel_rfl) (fun d _ _ _ _ h => by cases d <;> exact h) hS 3 (some 29) _ rfl (v := ?_) (by kernel_rfl) ?_ ?_
            rotate_left
            · intro w9 hS9; obtain ⟨_, _, ⟨d0, d1, d2, d3, d4, d5, d6, d7, d8⟩⟩ := hS9; go_simp; first | done | with_reducible rfl
            simp only [Act.put, List.setIfInBounds_toArray, List.set_cons_zero, List.set_cons_succ]
            refine hTake (by kernel_rfl) (fun d _ _ _ _ h => by cases d <;> exact h) hS 4 (some 30) _ rfl (v := ?_) (by kernel_rfl) ?_ ?_
            rotate_left
            · intro w9 hS9; obtain ⟨_, _, ⟨d0, d1, d2, d3, d4, d5, d6, d7, d8⟩⟩ := hS9; go_simp; first | done | with_reducible rfl
            simp only [Act.put, List.setIfInBounds_toArray, List.set_cons_zero, List.set_cons_succ]
            refine hTake (by kernel_rfl) (fun d _ _ _ _ h => by cases d <;> exact h) hS 5 (some 31) _ rfl (v := ?_) (by kernel_rfl) ?_ ?_
            rotate_left
            · intro w9 hS9; obtain ⟨_, _, ⟨d0, d1, d2, d3, d4, d5, d6, d7, d8⟩⟩ := hS9; go_simp; first | done | with_reducible rfl
            simp only [Act.put, List.setIfInBounds_toArray, List.set_cons_zero, List.set_cons_succ]
            refine hTake (by kernel_rfl) (fun d _ _ _ _ h => by cases d <;> exact h) hS 6 (some 32) _ rfl (v := ?_) (by kernel_rfl) ?_ ?_
            rotate_left
            · intro w9 hS9; obtain ⟨_, _, ⟨d0, d1, d2, d3, d4, d5, d6, d7, d8⟩⟩ := hS9; go_simp; first | done | with_reducible rfl
            simp only [Act.put, List.setIfInBounds_toArray, List.set_cons_zero, List.set_cons_succ]
            refine hTake (by kernel_rfl) (fun d _ _ _ _ h => by cases d <;> exact h) hS 7 (some 33) _ rfl (v := ?_) (by kernel_rfl) ?_ ?_
            rotate_left
            · intro w9 hS9; obtain ⟨_, _, ⟨d0, d1, d2, d3, d4, d5, d6, d7, d8⟩⟩ := hS9; go_simp; first | done | with_reducible rfl
            simp only [Act.put, List.setIfInBounds_toArray, List.set_cons_zero, List.set_cons_succ]
            refine hTake (by kernel_rfl) (fun d _ _ _ _ h => by cases d <;> exact h) hS 8 (some 34) _ rfl (v := ?_) (by kernel_rfl) ?_ ?_
            rotate_left
            · intro w9 hS9; obtain ⟨_, _, ⟨d0, d1, d2, d3, d4, d5, d6, d7, d8⟩⟩ := hS9; go_simp; first | done | with_reducible rfl
            simp only [Act.put, List.setIfInBounds_toArray, List.set_cons_zero, List.set_cons_succ]
            refine hTake (by kernel_rfl) (fun d _ _ _ _ h => by cases d <;> exact h) hS 9 (some 35) _ rfl (v := ?_) (by kernel_rfl) ?_ ?_
            rotate_left
            · intro w9 hS9; obtain ⟨_, _, ⟨d0, d1, d2, d3, d4, d5, d6, d7, d8⟩⟩ := hS9; go_simp; first | done | with_reducible rfl
            simp only [Act.put, List.setIfInBounds_toArray, List.set_cons_zero, List.set_cons_succ]
            refine hTake (by kernel_rfl) (fun d _ _ _ _ h => by cases d <;> exact h) hS 10 (some 36) _ rfl (v := ?_) (by kernel_rfl) ?_ ?_
            rotate_left
            · intro w9 hS9; obtain ⟨_, _, ⟨d0, d1, d2, d3, d4, d5, d6, d7, d8⟩⟩ := hS9; go_simp; first | done | with_reducible rfl
            simp only [Act.put, List.setIfInBounds_toArray, List.set_cons_zero, List.set_cons_succ]
            refine wpAnyH_ready (rs := [11]) (by kernel_rfl) (by simp) ?_
            refine AllReadyH.cons (o := _) rfl (fun K9 hK9 => ?_) AllReadyH.nil
            go_simp
            refine (within_any _ _ _ _).mono ?_; rintro e w' ⟨he, rfl⟩; rw [hw'] at he; subst he
            try go_wp2_with fail
            refine hK9.out _ _ ?_ (fun hS => ?_)
            · exact hS
            clear hK9 K9
            try simp only [Act.put, List.setIfInBounds_toArray, List.set_cons_zero, List.set_cons_succ]
            refine hTake (by kernel_rfl) (fun d _ _ _ _ h => by cases d <;> exact h) hS 12 (some 38) _ rfl (v := ?_) (by kernel_rfl) ?_ ?_
            rotate_left
            · intro w9 hS9; obtain ⟨_, _, ⟨d0, d1, d2, d3, d4, d5, d6, d7, d8⟩⟩ := hS9; go_simp; first | done | with_reducible rfl
            simp only [Act.put, List.setIfInBounds_toArray, List.set_cons_zero, List.set_cons_succ]
            refine hSkips (by kernel_rfl) (fun d _ _ _ _ h => by cases d <;> exact h) hS [13, 14, 15, 16, 17, 18, 19] [some 39, some 40, some 41, some 42, some 43, some 44, some 45] (by kernel_rfl) ?_
            simp only [putUndef, listAll, List.foldl_cons, List.foldl_nil, Act.put, List.setIfInBounds_toArray, List.set_cons_zero, List.set_cons_succ]
            refine hTake (by kernel_rfl) (fun d _ _ _ _ h => by cases d <;> exact h) hS 20 (some 46) _ rfl (v := ?_) (by kernel_rfl) ?_ ?_
            rotate_left
            · intro w9 hS9; obtain ⟨_, _, ⟨d0, d1, d2, d3, d4, d5, d6, d7, d8⟩⟩ := hS9; go_simp; first | done | with_reducible rfl
            simp only [Act.put, List.setIfInBounds_toArray, List.set_cons_zero, List.set_cons_succ]
            refine hTake (by kernel_rfl) (fun d _ _ _ _ h => by cases d <;> exact h) hS 21 (some 47) _ rfl (v := ?_) (by kernel_rfl) ?_ ?_
            rotate_left
            · intro w9 hS9; obtain ⟨_, _, ⟨d0, d1, d2, d3, d4, d5, d6, d7, d8⟩⟩ := hS9; go_simp; first | done | with_reducible rfl
            simp only [Act.put, List.setIfInBounds_toArray, List.set_cons_zero, List.set_cons_succ]
            refine hTake (by kernel_rfl) (fun d _ _ _ _ h => by cases d <;> exact h) hS 22 (some 48) _ rfl (v := ?_) (by kernel_rfl) ?_ ?_
            rotate_left
            · intro w9 hS9; obtain ⟨_, _, ⟨d0, d1, d2, d3, d4, d5, d6, d7, d8⟩⟩ := hS9; go_simp; first | done | with_reducible rfl
            simp only [Act.put, List.setIfInBounds_toArray, List.set_cons_zero, List.set_cons_succ]
            refine hTake (by kernel_rfl) (fun d _ _ _ _ h => by cases d <;> exact h) hS 23 (some 49) _ rfl (v := ?_) (by kernel_rfl) ?_ ?_
            rotate_left
            · intro w9 hS9; obtain ⟨_, _, ⟨d0, d1, d2, d3, d4, d5, d6, d7, d8⟩⟩ := hS9; go_simp; first | done | with_reducible rfl
            simp only [Act.put, List.setIfInBounds_toArray, List.set_cons_zero, List.set_cons_succ]
            refine wpAnyH_done (by kernel_rfl) ?_ _
            go_wp2
            go_ret
            have hng : ¬ goodAt l k := fun hg1 => by
              have := hg1.2.1 hkp
              unfold par at this
              rw [inR_no] at hw'
              exact hw' (by omega)
            exact ⟨by rw [vld_not_good hlt hng]; rfl, hS.1⟩
      · have hok' : okB (bx l k) = false := by simpa using hok
        clear hok
        go_wp2
        refine wp_region_held_drew (S := fun w' => Below w.heap.size w w' ∧ wr.heap.size < w'.heap.size ∧ Cells9 w' wr.heap.size 0 (bx l k)) (by kernel_rfl) ?_ (fun hS => ?_)
        · exact ⟨(hb.alloc (by omega) _).drew, by simp, cells9_new _ _ _⟩
        refine hTake (by kernel_rfl) (fun d _ _ _ _ h => by cases d <;> exact h) hS 0 (some 26) _ rfl (v := ?_) (by kernel_rfl) ?_ ?_
        rotate_left
        · intro w9 hS9; obtain ⟨_, _, ⟨d0, d1, d2, d3, d4, d5, d6, d7, d8⟩⟩ := hS9; go_simp; first | done | with_reducible rfl
        simp only [Act.put, List.setIfInBounds_toArray, List.set_cons_zero, List.set_cons_succ]
        refine wpAnyH_ready (rs := [1]) (by kernel_rfl) (by simp) ?_
        refine AllReadyH.cons (o := _) rfl (fun K9 hK9 => ?_) AllReadyH.nil
        go_simp
        refine (styled_any (bx l k) _).mono ?_; rintro e w' ⟨he, hx⟩; rw [hok'] at he; subst he
        try go_wp2_with fail
        refine hK9.out _ _ ?_ (fun hS => ?_)
        · obtain ⟨hS1, hS2, hS3⟩ := hS; exact ⟨after hS1 hx (Nat.le_refl _), Nat.lt_of_lt_of_le hS2 hx.size, hS3.below hx (by exact hS2)⟩
        clear hK9 K9
        try simp only [Act.put, List.setIfInBounds_toArray, List.set_cons_zero, List.set_cons_succ]
        refine hTake (by kernel_rfl) (fun d _ _ _ _ h => by cases d <;> exact h) hS 2 (some 28) _ rfl (v := ?_) (by kernel_rfl) ?_ ?_
        rotate_left
        · intro w9 hS9; obtain ⟨_, _, ⟨d0, d1, d2, d3, d4, d5, d6, d7, d8⟩⟩ := hS9; go_simp; first | done | with_reducible rfl
        simp only [Act.put, List.setIfInBounds_toArray, List.set_cons_zero, List.set_cons_succ]
        refine hTake (by kernel_rfl) (fun d _ _ _ _ h => by cases d <;> exact h) hS 3 (some 29) _ rfl (v := ?_) (by kernel_rfl) ?_ ?_
        rotate_left
        · intro w9 hS9; obtain ⟨_, _, ⟨d0, d1, d2, d3, d4, d5, d6, d7, d8⟩⟩ := hS9; go_simp; first | done | with_reducible rfl
        simp only [Act.put, List.setIfInBounds_toArray, List.set_cons_zero, List.set_cons_succ]
        refine hSkips (by kernel_rfl) (fun d _ _ _ _ h => by cases d <;> exact h) hS [4, 5, 6, 7, 8, 9, 10, 11, 12, 13, 14, 15, 16, 17, 18, 19, 20, 21, 22] [some 30, some 31, some 32, some 33, some 34, some 35, some 36, some 37, some 38, some 39, some 40, some 41, some 42, some 43, some 44, some 45, some 46, some 47, some 48] (by kernel_rfl) ?_
        simp only [putUndef, listAll, List.foldl_cons, List.foldl_nil, Act.put, List.setIfInBounds_toArray, List.set_cons_zero, List.set_cons_succ]
        refine hTake (by kernel_rfl) (fun d _ _ _ _ h => by cases d <;> exact h) hS 23 (some 49) _ rfl (v := ?_) (by kernel_rfl) ?_ ?_
        rotate_left
        · intro w9 hS9; obtain ⟨_, _, ⟨d0, d1, d2, d3, d4, d5, d6, d7, d8⟩⟩ := hS9; go_simp; first | done | with_reducible rfl
        simp only [Act.put, List.setIfInBounds_toArray, List.set_cons_zero, List.set_cons_succ]
        refine wpAnyH_done (by kernel_rfl) ?_ _
        go_wp2
        go_ret
        have hng : ¬ goodAt l k := fun hg1 => by
          rw [hg1.1] at hok'
          cases hok'
        exact ⟨by rw [vld_not_good hlt hng]; rfl, hS.1⟩
    · obtain rfl : k = l.length := by omega
      go_wp2
      clear hlt
      go_loopw [58] (fun i' wr => ∃ k : Nat, k ≤ l.length ∧ i' = .int .i64 k ∧ Hid (∀ j, j < k → kidAt l j) ∧ Below w.heap.size w wr) (fun i' _ => l.length - (intOf i').toNat)
      case atStart => exact ⟨0, by omega, rfl, fun j hj => by omega, hb⟩
      case round =>
        clear hb hsz
        obtain ⟨k, hk, rfl, hq, hb⟩ := hrel
        have hsz := hb.size
        by_cases hlt : k < l.length
        · obtain ⟨c0, c1, c2, c3, c4, c5, c6, c7, c8⟩ := (HC.out k _ (bx_get hlt)).below hb hbl
          go_wp2_with (fail)
          refine (kids_any (l := l) (k : Int) _ (hrd.below (hb.alloc (by omega) _) (Nat.le_refl _)) (by omega)).mono ?_
          rintro e w2 ⟨vq, rfl, hoq, hx2⟩
          obtain ⟨aq, cq, rfl, hnq, hcq, _⟩ := hoq.rd.ints
          unfold maxLen at hcq
          simp only [ni_length] at *
          have hb2 := after (hb.alloc (by omega) _) hx2 (Nat.le_refl _)
          have hck : w2.cell? ⟨_, 1, none⟩ = some (.int .i64 (bx l k).kind) := cellOn hx2 (by simp) ((cells9_new _ _ _).c1 : World.cell? (World.drew _) _ = _)
          clear hoq hx2 c0 c1 c2 c3 c4 c5 c6 c7 c8
          by_cases h8 : (kid l (k : Int)).length ≤ 8
          · by_cases hkd : (bx l k).kind = 0
            · have hkd' : ((bx l k).kind == 0) = true := by simp [hkd]
              by_cases hm0 : 0 < (kid l (k : Int)).length
              · have hng : ¬ kidAt l k := fun h => by rw [h.2 hkd] at hm0; simp at hm0
                have Hng := Lib.hid hng
                clear hng hkd
                go_wp2
                go_ret
                exact ⟨by rw [vld_not_kid hlt Hng.out]; rfl, hb2⟩
              · have hgk : kidAt l k := ⟨h8, fun _ => List.eq_nil_of_length_eq_zero (by omega)⟩
                have hq2 : Hid (∀ j, j < k + 1 → kidAt l j) := fun j hj => by
                  rcases Nat.lt_or_ge j k with h | h
                  · exact hq.out j h
                  · obtain rfl : j = k := by omega
                    exact hgk
                clear hgk hkd
                go_wp2
                go_roundw
                case rel => exact ⟨k + 1, by omega, by go_num, hq2, hb2⟩
                case measure => simp [intOf]; omega
            · have hkd' : ((bx l k).kind == 0) = false := by simp [hkd]
              have hgk : kidAt l k := ⟨h8, fun h => absurd h hkd⟩
              have hq2 : Hid (∀ j, j < k + 1 → kidAt l j) := fun j hj => by
                rcases Nat.lt_or_ge j k with h | h
                · exact hq.out j h
                · obtain rfl : j = k := by omega
                  exact hgk
              clear hgk hkd
              go_wp2
              go_roundw
              case rel => exact ⟨k + 1, by omega, by go_num, hq2, hb2⟩
              case measure => simp [intOf]; omega
          · have hng : ¬ kidAt l k := fun h => h8 h.1
            have Hng := Lib.hid hng
            clear hng
            go_wp2
            go_ret
            exact ⟨by rw [vld_not_kid hlt Hng.out]; rfl, hb2⟩
        · obtain rfl : k = l.length := by omega
          go_wp2
          go_ret
          exact ⟨by rw [vld_of hpos hl H0.out hg.out hq.out]; rfl, hb⟩
end Go.Proofs.YtdlggpphfkjidaaGreatDoor
