/-
  The generator of trees: someTree.
-/
import Derived.Test.YtdlggpphfkjidaaGreatDoorSome
import Derived.Test.YtdlggpphfkjidaaGreatDoorSAdd
namespace Go.Proofs.YtdlggpphfkjidaaGreatDoor
open Go Go.RowKit

theorem Own.oneAt {w : World} {g base size : Nat} (cs : Array Value) (e : TypeId) (hg : g = w.heap.size) (hb : base ≤ w.heap.size) (hs : cs.size = size) : Own (w.alloc (.cells cs e)) base size (.slice (some ⟨g, 0, none⟩) 1 1) cs.toList := by
  subst hg
  have := Own.made w cs e base size 1 1 hb (Nat.le_refl _) (by decide) (by omega)
  rwa [List.take_of_length_le (by simp; omega)] at this

set_option maxRecDepth 100000 in
set_option maxHeartbeats 4000000 in
theorem someTree_any {R m : Nat} (w : World) (h : Rdr R w m) (hm : m ≤ 80000) :
    Calls Tryz.prog 39 #[.pointer (some ⟨R, 0, none⟩)] w fun e w' => ∃ v, e = .returned v ∧ ∃ l : List Bx, 1 ≤ l.length ∧ l.length ≤ 16 ∧ Own w' w.heap.size 9 v (Bs l) ∧ Rdr R w' (m + 300) ∧ ExtR R w w' := by
  have hRl := h.lt
  go_enter Tryz.func39, Tryz.ntmps39
  go_wp2_with (fail)
  refine (someBox_any _ h (by omega)).mono ?_
  rintro e w1 ⟨x, rfl, hok, hr1, hx1⟩
  have hR1 := hr1.lt
  have hb1 : Bel R w.heap.size w (w1.alloc (.cells (x.at (-1)).arr 39)) := bel_alloc hx1 (Nat.le_refl _) _
  have hr2 : Rdr R (w1.alloc (.cells (x.at (-1)).arr 39)) (m + 8) := hr1.ext (Below.of_alloc _ _)
  have hk2 : Keep w1.heap.size (.cells (x.at (-1)).arr 39) (w1.alloc (.cells (x.at (-1)).arr 39)) := Keep.new _ _
  have hs1 := hx1.size
  unfold Bx.agg
  clear hx1 hr1
  go_upto_region 3 with fail
  change Code.wp _ _ _ _ (w1.alloc (.cells (x.at (-1)).arr 39))
  generalize w1.alloc (.cells (x.at (-1)).arr 39) = W at *
  have d0 : W.cell? ⟨w1.heap.size, 0, none⟩ = some (.int .i64 (-1)) := hk2.cell 0
  have d1 : W.cell? ⟨w1.heap.size, 1, none⟩ = some (.int .i64 x.kind) := hk2.cell 1
  go_cut [18] (fun s18 wx => ∃ bb : Bool, s18 = .bool bb ∧ Keep w1.heap.size (.cells (x.at (-1)).arr 39) wx ∧ Rdr R wx (m + 9) ∧ Bel R w.heap.size w wx)
  case first =>
    by_cases hk : x.kind = 0
    · have hk' : (x.kind == 0) = true := by simp [hk]
      clear hk
      go_wp2_with (fail)
      refine (pick_any 8 _ hr2 (by omega)).mono ?_
      rintro e w3 ⟨r3, rfl, ⟨r30, r31⟩, hr3, hx3⟩
      have hb3 := afterR hb1 hx3 (by omega)
      have hk3 := hk2.extR hx3 (by omega)
      by_cases hr : r3 > 0
      · go_wp2_with (fail)
        go_meet
        case rel => exact ⟨_, rfl, hk3, hr3, hb3⟩
      · go_wp2_with (fail)
        go_meet
        case rel => exact ⟨_, rfl, hk3, hr3, hb3⟩
    · have hk' : (x.kind == 0) = false := by simp [hk]
      clear hk
      go_wp2_with (fail)
      go_meet
      case rel => exact ⟨_, rfl, hk2, hr2.mono (by omega), hb1⟩
  case rest =>
    obtain ⟨bb, rfl, hk3, hr3, hb3⟩ := hcut
    clear hk2 hr2 hb1 d0 d1
    go_upto_if 18 with fail
    go_cut [] (fun wx => ∃ y : Bx, Keep w1.heap.size (.cells y.arr 39) wx ∧ Rdr R wx (m + 10) ∧ Bel R w.heap.size w wx)
    case first =>
      have hR3 := hr3.lt
      cases bb
      · go_wp2_with (fail)
        go_meet
        case rel => exact ⟨_, hk3, hr3.mono (by omega), hb3⟩
      · go_wp2_with (fail)
        refine (pick_any 3 _ hr3 (by omega)).mono ?_
        rintro e w5 ⟨r5, rfl, ⟨r50, r51⟩, hr5, hx5⟩
        have r51 := r51 (by omega)
        have hb5 := afterR hb3 hx5 (by have := hb3.size; omega)
        have hk5 := hk3.extR hx5 (by omega)
        have d1 : w5.cell? ⟨w1.heap.size, 1, none⟩ = some (.int .i64 x.kind) := hk5.cell 1
        have d2 : w5.cell? ⟨w1.heap.size, 2, none⟩ = some (.int .i64 x.w) := hk5.cell 2
        have d3 : w5.cell? ⟨w1.heap.size, 3, none⟩ = some (.int .i64 x.h) := hk5.cell 3
        have f1 : w5.frozen? ⟨w1.heap.size, 1, none⟩ = false := hk5.frozen 1
        have f2 : w5.frozen? ⟨w1.heap.size, 2, none⟩ = false := hk5.frozen 2
        have f3 : w5.frozen? ⟨w1.heap.size, 3, none⟩ = false := hk5.frozen 3
        go_wp2_with (fail)
        go_meet
        case rel =>
          refine ⟨⟨-1, 1 + r5, 0, 0, x.pad, x.gap, x.grow, x.shrink, x.justify⟩, ((hk5.store 1 _).store 2 _).store 3 _, ?_, ?_⟩
          · exact ((hr5.setCell (p := ⟨w1.heap.size, 1, none⟩) hR1 _).setCell (p := ⟨w1.heap.size, 2, none⟩) hR1 _).setCell (p := ⟨w1.heap.size, 3, none⟩) hR1 _
          · exact bel_setCell (bel_setCell (bel_setCell hb5 (p := ⟨w1.heap.size, 1, none⟩) hs1 _) (p := ⟨w1.heap.size, 2, none⟩) hs1 _) (p := ⟨w1.heap.size, 3, none⟩) hs1 _
    case rest =>
      obtain ⟨y, hk4, hr4, hb4⟩ := hcut
      have d0 : wc.cell? ⟨w1.heap.size, 0, none⟩ = some (.int .i64 y.parent) := hk4.cell 0
      have d1 : wc.cell? ⟨w1.heap.size, 1, none⟩ = some (.int .i64 y.kind) := hk4.cell 1
      have d2 : wc.cell? ⟨w1.heap.size, 2, none⟩ = some (.int .i64 y.w) := hk4.cell 2
      have d3 : wc.cell? ⟨w1.heap.size, 3, none⟩ = some (.int .i64 y.h) := hk4.cell 3
      have d4 : wc.cell? ⟨w1.heap.size, 4, none⟩ = some (.int .i64 y.pad) := hk4.cell 4
      have d5 : wc.cell? ⟨w1.heap.size, 5, none⟩ = some (.int .i64 y.gap) := hk4.cell 5
      have d6 : wc.cell? ⟨w1.heap.size, 6, none⟩ = some (.int .i64 y.grow) := hk4.cell 6
      have d7 : wc.cell? ⟨w1.heap.size, 7, none⟩ = some (.int .i64 y.shrink) := hk4.cell 7
      have d8 : wc.cell? ⟨w1.heap.size, 8, none⟩ = some (.int .i64 y.justify) := hk4.cell 8
      have hRc := hr4.lt
      have hsc := hb4.size
      have ho5 : Own (wc.alloc (.cells y.arr 39)) w.heap.size 9 (.slice (some ⟨wc.heap.size, 0, none⟩) 1 1) (Bs [y]) := Own.oneAt y.arr _ rfl hsc rfl
      have hb5 : Bel R w.heap.size w (wc.alloc (.cells y.arr 39)) := bel_alloc hb4 (Nat.le_refl _) _
      have hr5 := hr4.ext (Below.of_alloc wc (.cells y.arr 39))
      clear hk4
      go_wp2_with (fail)
      refine (one_any (l := [5, 8, 3, 12, 1, 0, 20]) _ (hr5.ext (Below.of_alloc _ _)) (by omega) (heapAt _ (by simp)) (by omega) (by simp) (by simp)).mono ?_
      rintro e w6 ⟨n6, rfl, hn6, hr6, hx6⟩
      have hb6 := afterR (bel_alloc hb5 (Nat.le_refl _) _) hx6 (Nat.le_refl _)
      have ho6 := (ho5.alloc _).bel hx6 hRl
      have q6 : 0 ≤ n6 ∧ n6 ≤ 20 := by simp at hn6; omega
      clear hx6 hr5 hb5 ho5 hn6 d0 d1 d2 d3 d4 d5 d6 d7 d8 hr4 hb4
      go_wp2
      go_loopw [4, 5] (fun s n w' => ∃ (l : List Bx) (k : Int), n = .int .i64 k ∧ 0 ≤ k ∧ k ≤ 20 ∧ 1 ≤ l.length ∧ l.length ≤ 16 ∧ Own w' w.heap.size 9 s (Bs l) ∧ Rdr R w' (m + 11 + 9 * (20 - k.toNat)) ∧ Bel R w.heap.size w w') (fun _ n _ => (intOf n).toNat)
      case atStart => exact ⟨[y], n6, rfl, q6.1, q6.2, by simp, by simp, ho6, hr6.mono (by omega), hb6⟩
      case round =>
        obtain ⟨l, k, rfl, hk0, hk20, hl1, hl16, hok, hrk, hbk⟩ := hrel
        by_cases hk : k > 0
        · obtain ⟨a, c, rfl, hn, hc, _⟩ := hok.rd.boxes
          unfold maxLen at hc
          have hsk := hbk.size
          go_wp2_with (fail)
          refine (pick_any (l.length : Int) _ hrk (by omega)).mono ?_
          rintro e w7 ⟨r7, rfl, ⟨r70, r71⟩, hr7, hx7⟩
          have hb7 := afterR hbk hx7 (Nat.le_refl _)
          have ho7 := hok.bel hx7 hRl
          clear hx7 hrk hbk hok
          go_wp2_with (fail)
          refine (someBox_any _ hr7 (by omega)).mono ?_
          rintro e w8 ⟨x8, rfl, _, hr8, hx8⟩
          have hb8 := afterR hb7 hx8 (Nat.le_refl _)
          have ho8 := ho7.bel hx8 hRl
          have hs8 := hb8.size
          clear hx8 hr7 hb7 ho7
          go_wp2_with (fail)
          refine (sAddBox_any (l := l) r7 x8 _ ho8.rd (by omega)).mono ?_
          rintro e w9 ⟨v9, rfl, ho9, hx9⟩
          have hb9 := afterE hb8 hx9 (Nat.le_refl _)
          have hr9 := hr8.ext hx9
          have ho8' := ho8.below hx9 (Nat.le_refl _)
          have ho9 := ho9.weak hs8
          clear hx9 hr8 hb8 ho8
          by_cases hok : addOk l r7 x8 = true
          · rw [hok] at ho9 ⊢
            have hv : Valid (addL l r7.toNat x8) := by
              unfold addOk at hok
              rw [Bool.and_eq_true] at hok
              exact vldB_iff.1 hok.2
            have hv1 := hv.lo
            have hv2 := hv.hi
            clear hv
            change Own w9 w.heap.size 9 v9 (Bs (addL l r7.toNat x8)) at ho9
            go_wp2
            go_roundw
            case rel => exact ⟨_, k - 1, by go_num, by omega, by omega, hv1, hv2, ho9, hr9.mono (by omega), hb9⟩
            case measure => simp [intOf]; omega
          · have hok' : addOk l r7 x8 = false := by simpa using hok
            rw [hok'] at ho9 ⊢
            clear ho9
            go_wp2
            go_roundw
            case rel => exact ⟨l, k - 1, by go_num, by omega, by omega, hl1, hl16, ho8', hr9.mono (by omega), hb9⟩
            case measure => simp [intOf]; omega
        · obtain rfl : k = 0 := by omega
          go_wp2
          go_ret
          exact ⟨_, rfl, l, hl1, hl16, hok, hrk.mono (by omega), hbk⟩
end Go.Proofs.YtdlggpphfkjidaaGreatDoor
