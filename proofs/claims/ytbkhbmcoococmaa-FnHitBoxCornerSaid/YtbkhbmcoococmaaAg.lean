/-
  The generator of trees: someTree.
-/
import Derived.Test.YtbkhbmcoococmaaAd
import Derived.Test.YtbkhbmcoococmaaSAdd
import Derived.Test.YtbkhbmcoococmaaSNat
import Derived.Test.YtbkhbmcoococmaaNS
import Derived.Test.YtbkhbmcoococmaaAf
import Derived.Test.YtbkhbmcoococmaaAc
import Derived.Test.YtbkhbmcoococmaaSVal
import Derived.Test.YtbkhbmcoococmaaAe
namespace Go.Proofs.Ytbkhbmcoococmaa
open Go Go.RowKit
theorem Own.oneAt {w : World} {g base size : Nat} (cs : Array Value) (e : TypeId) (hg : g = w.heap.size) (hb : base ≤ w.heap.size) (hs : cs.size = size) : Own (w.alloc (.cells cs e)) base size (.slice (some ⟨g, 0, none⟩) 1 1) cs.toList := by
  subst hg
  have := Own.made w cs e base size 1 1 hb (Nat.le_refl _) (by decide) (by omega)
  rwa [List.take_of_length_le (by simp; omega)] at this
set_option maxRecDepth 100000 in
set_option maxHeartbeats 4000000 in
theorem someTree_any {R m : Nat} (w : World) (h : Rdr R w m) (hm : m ≤ 80000) :
    Calls Try.prog 82 #[.pointer (some ⟨R, 0, none⟩)] w fun e w' => ∃ v, e = .returned v ∧ ∃ l : List Bx, 1 ≤ l.length ∧ l.length ≤ 16 ∧ Own w' w.heap.size 9 v (Bs l) ∧ Rdr R w' (m + 300) ∧ ExtR R w w' := by
  have hRl := h.lt
  go_enter Try.func82, Try.ntmps82
  go_wp2_with (fail)
  refine (someBox_any _ h (by omega)).mono ?_
  rintro e w1 ⟨x, rfl, hok, hr1, hx1⟩
  have hR1 := hr1.lt
  have hb1 : Bel R w.heap.size w (w1.alloc (.cells (x.at (-1)).arr 30)) := bel_alloc hx1 (Nat.le_refl _) _
  have hr2 : Rdr R (w1.alloc (.cells (x.at (-1)).arr 30)) (m + 8) := hr1.ext (Below.of_alloc _ _)
  have hk2 : Keep w1.heap.size (.cells (x.at (-1)).arr 30) (w1.alloc (.cells (x.at (-1)).arr 30)) := Keep.new _ _
  have hs1 := hx1.size
  unfold Bx.agg
  clear hx1 hr1
  go_upto_region 3 with fail
  change Code.wp _ _ _ _ (w1.alloc (.cells (x.at (-1)).arr 30))
  generalize w1.alloc (.cells (x.at (-1)).arr 30) = W at *
  have d0 : W.cell? ⟨w1.heap.size, 0, none⟩ = some (.int .i64 (-1)) := hk2.cell 0
  have d1 : W.cell? ⟨w1.heap.size, 1, none⟩ = some (.int .i64 x.kind) := hk2.cell 1
  go_cut [18] (fun s18 wx => ∃ bb : Bool, s18 = .bool bb ∧ Keep w1.heap.size (.cells (x.at (-1)).arr 30) wx ∧ Rdr R wx (m + 9) ∧ Bel R w.heap.size w wx)
  case first =>
    by_cases hk : x.kind = 0
    · have hk' : (x.kind == 0) = true := by simp [hk]
      clear hk
      go_wp2_with (fail)
      refine (pick_any 8 _ hr2 (by omega)).mono ?_
      rintro e w3 ⟨r3, rfl, ⟨r30, r31⟩, hr3, hx3⟩
      have hb3 := afterR hb1 hx3 (by omega)
      have hk3 := hk2.extR hx3 (by omega)
      by_cases hr : r3 > 0
      · go_wp2_with (fail)
        go_meet
        case rel => exact ⟨_, rfl, hk3, hr3, hb3⟩
      · go_wp2_with (fail)
        go_meet
        case rel => exact ⟨_, rfl, hk3, hr3, hb3⟩
    · have hk' : (x.kind == 0) = false := by simp [hk]
      clear hk
      go_wp2_with (fail)
      go_meet
      case rel => exact ⟨_, rfl, hk2, hr2.mono (by omega), hb1⟩
  case rest =>
    obtain ⟨bb, rfl, hk3, hr3, hb3⟩ := hcut
    clear hk2 hr2 hb1 d0 d1
    go_upto_if 18 with fail
    go_cut [] (fun wx => ∃ y : Bx, Keep w1.heap.size (.cells y.arr 30) wx ∧ Rdr R wx (m + 10) ∧ Bel R w.heap.size w wx)
    case first =>
      have hR3 := hr3.lt
      cases bb
      · go_wp2_with (fail)
        go_meet
        case rel => exact ⟨_, hk3, hr3.mono (by omega), hb3⟩
      · go_wp2_with (fail)
        refine (pick_any 3 _ hr3 (by omega)).mono ?_
        rintro e w5 ⟨r5, rfl, ⟨r50, r51⟩, hr5, hx5⟩
        have r51 := r51 (by omega)
        have hb5 := afterR hb3 hx5 (by have := hb3.size; omega)
        have hk5 := hk3.extR hx5 (by omega)
        have d1 : w5.cell? ⟨w1.heap.size, 1, none⟩ = some (.int .i64 x.kind) := hk5.cell 1
        have d2 : w5.cell? ⟨w1.heap.size, 2, none⟩ = some (.int .i64 x.w) := hk5.cell 2
        have d3 : w5.cell? ⟨w1.heap.size, 3, none⟩ = some (.int .i64 x.h) := hk5.cell 3
        have f1 : w5.frozen? ⟨w1.heap.size, 1, none⟩ = false := hk5.frozen 1
        have f2 : w5.frozen? ⟨w1.heap.size, 2, none⟩ = false := hk5.frozen 2
        have f3 : w5.frozen? ⟨w1.heap.size, 3, none⟩ = false := hk5.frozen 3
        go_wp2_with (fail)
        go_meet
        case rel =>
          refine ⟨⟨-1, 1 + r5, 0, 0, x.pad, x.gap, x.grow, x.shrink, x.justify⟩, ((hk5.store 1 _).store 2 _).store 3 _, ?_, ?_⟩
          · exact ((hr5.setCell (p := ⟨w1.heap.size, 1, none⟩) hR1 _).setCell (p := ⟨w1.heap.size, 2, none⟩) hR1 _).setCell (p := ⟨w1.heap.size, 3, none⟩) hR1 _
          · exact bel_setCell (bel_setCell (bel_setCell hb5 (p := ⟨w1.heap.size, 1, none⟩) hs1 _) (p := ⟨w1.heap.size, 2, none⟩) hs1 _) (p := ⟨w1.heap.size, 3, none⟩) hs1 _
    case rest =>
      obtain ⟨y, hk4, hr4, hb4⟩ := hcut
      have d0 : wc.cell? ⟨w1.heap.size, 0, none⟩ = some (.int .i64 y.parent) := hk4.cell 0
      have d1 : wc.cell? ⟨w1.heap.size, 1, none⟩ = some (.int .i64 y.kind) := hk4.cell 1
      have d2 : wc.cell? ⟨w1.heap.size, 2, none⟩ = some (.int .i64 y.w) := hk4.cell 2
      have d3 : wc.cell? ⟨w1.heap.size, 3, none⟩ = some (.int .i64 y.h) := hk4.cell 3
      have d4 : wc.cell? ⟨w1.heap.size, 4, none⟩ = some (.int .i64 y.pad) := hk4.cell 4
      have d5 : wc.cell? ⟨w1.heap.size, 5, none⟩ = some (.int .i64 y.gap) := hk4.cell 5
      have d6 : wc.cell? ⟨w1.heap.size, 6, none⟩ = some (.int .i64 y.grow) := hk4.cell 6
      have d7 : wc.cell? ⟨w1.heap.size, 7, none⟩ = some (.int .i64 y.shrink) := hk4.cell 7
      have d8 : wc.cell? ⟨w1.heap.size, 8, none⟩ = some (.int .i64 y.justify) := hk4.cell 8
      have hRc := hr4.lt
      have hsc := hb4.size
      have ho5 : Own (wc.alloc (.cells y.arr 30)) w.heap.size 9 (.slice (some ⟨wc.heap.size, 0, none⟩) 1 1) (Bs [y]) := Own.oneAt y.arr _ rfl hsc rfl
      have hb5 : Bel R w.heap.size w (wc.alloc (.cells y.arr 30)) := bel_alloc hb4 (Nat.le_refl _) _
      have hr5 := hr4.ext (Below.of_alloc wc (.cells y.arr 30))
      clear hk4
      go_wp2_with (fail)
      refine (one_any (l := [5, 8, 3, 12, 1, 0, 20]) _ (hr5.ext (Below.of_alloc _ _)) (by omega) (heapAt _ (by simp)) (by omega) (by simp) (by simp)).mono ?_
      rintro e w6 ⟨n6, rfl, hn6, hr6, hx6⟩
      have hb6 := afterR (bel_alloc hb5 (Nat.le_refl _) _) hx6 (Nat.le_refl _)
      have ho6 := (ho5.alloc _).bel hx6 hRl
      have q6 : 0 ≤ n6 ∧ n6 ≤ 20 := by simp at hn6; omega
      clear hx6 hr5 hb5 ho5 hn6 d0 d1 d2 d3 d4 d5 d6 d7 d8 hr4 hb4
      go_wp2
      go_loopw [4, 5] (fun s n w' => ∃ (l : List Bx) (k : Int), n = .int .i64 k ∧ 0 ≤ k ∧ k ≤ 20 ∧ 1 ≤ l.length ∧ l.length ≤ 16 ∧ Own w' w.heap.size 9 s (Bs l) ∧ Rdr R w' (m + 11 + 9 * (20 - k.toNat)) ∧ Bel R w.heap.size w w') (fun _ n _ => (intOf n).toNat)
      case atStart => exact ⟨[y], n6, rfl, q6.1, q6.2, by simp, by simp, ho6, hr6.mono (by omega), hb6⟩
      case round =>
        obtain ⟨l, k, rfl, hk0, hk20, hl1, hl16, hok, hrk, hbk⟩ := hrel
        by_cases hk : k > 0
        · obtain ⟨a, c, rfl, hn, hc, _⟩ := hok.rd.boxes
          unfold maxLen at hc
          have hsk := hbk.size
          go_wp2_with (fail)
          refine (pick_any (l.length : Int) _ hrk (by omega)).mono ?_
          rintro e w7 ⟨r7, rfl, ⟨r70, r71⟩, hr7, hx7⟩
          have hb7 := afterR hbk hx7 (Nat.le_refl _)
          have ho7 := hok.bel hx7 hRl
          clear hx7 hrk hbk hok
          go_wp2_with (fail)
          refine (someBox_any _ hr7 (by omega)).mono ?_
          rintro e w8 ⟨x8, rfl, _, hr8, hx8⟩
          have hb8 := afterR hb7 hx8 (Nat.le_refl _)
          have ho8 := ho7.bel hx8 hRl
          have hs8 := hb8.size
          clear hx8 hr7 hb7 ho7
          go_wp2_with (fail)
          refine (sAddBox_any (l := l) r7 x8 _ ho8.rd (by omega)).mono ?_
          rintro e w9 ⟨v9, rfl, ho9, hx9⟩
          have hb9 := afterE hb8 hx9 (Nat.le_refl _)
          have hr9 := hr8.ext hx9
          have ho8' := ho8.below hx9 (Nat.le_refl _)
          have ho9 := ho9.weak hs8
          clear hx9 hr8 hb8 ho8
          by_cases hok : addOk l r7 x8 = true
          · rw [hok] at ho9 ⊢
            have hv : Valid (addL l r7.toNat x8) := by
              unfold addOk at hok
              rw [Bool.and_eq_true] at hok
              exact vldB_iff.1 hok.2
            have hv1 := hv.lo
            have hv2 := hv.hi
            clear hv
            change Own w9 w.heap.size 9 v9 (Bs (addL l r7.toNat x8)) at ho9
            go_wp2
            go_roundw
            case rel => exact ⟨_, k - 1, by go_num, by omega, by omega, hv1, hv2, ho9, hr9.mono (by omega), hb9⟩
            case measure => simp [intOf]; omega
          · have hok' : addOk l r7 x8 = false := by simpa using hok
            rw [hok'] at ho9 ⊢
            clear ho9
            go_wp2
            go_roundw
            case rel => exact ⟨l, k - 1, by go_num, by omega, by omega, hl1, hl16, ho8', hr9.mono (by omega), hb9⟩
            case measure => simp [intOf]; omega
        · obtain rfl : k = 0 := by omega
          go_wp2
          go_ret
          exact ⟨_, rfl, l, hl1, hl16, hok, hrk.mono (by omega), hbk⟩
end Go.Proofs.Ytbkhbmcoococmaa
namespace Go.Proofs.Ytbkhbmcoococmaa
open Go Go.RowKit
theorem Bs_set1 {l : List Bx} {i f : Nat} {u : Value} {y : Bx} (hi : i < l.length) (hf : f < 9) (hy : y.vals = (bx l i).vals.set f u) : Bs (l.set i y) = (Bs l).set (i * 9 + f) u := by
  apply List.ext_getElem?
  intro q
  have hl := Bs_length l
  by_cases hq : q < l.length * 9
  · obtain ⟨k, hk⟩ : ∃ k, k = q / 9 := ⟨_, rfl⟩
    obtain ⟨j, hj⟩ : ∃ j, j = q % 9 := ⟨_, rfl⟩
    have hqe : q = k * 9 + j := by omega
    have hj9 : j < 9 := by omega
    have hkl : k < l.length := by omega
    clear hk hj
    subst hqe
    rw [List.getElem?_set]
    by_cases hki : k = i
    · subst hki
      rw [Bs_get (b := y) (by simp [hkl]) hj9, hy, List.getElem?_set]
      by_cases hjf : f = j
      · subst hjf
        rw [if_pos rfl, if_pos rfl, if_pos (by rw [Bx.vals_length]; omega), if_pos (by omega)]
      · rw [if_neg hjf, if_neg (by omega), Bs_get (bx_get hkl) hj9]
    · rw [if_neg (by omega), Bs_get (b := bx l k) (by rw [List.getElem?_set_ne (by omega)]; exact bx_get hkl) hj9, Bs_get (bx_get hkl) hj9]
  · rw [List.getElem?_eq_none (by rw [Bs_length, List.length_set]; omega), List.getElem?_eq_none (by simp only [List.length_set, hl]; omega)]
theorem Own.set1 {w : World} {base : Nat} {v : Value} {l : List Bx} (h : Own w base 9 v (Bs l)) {b off n c : Nat} (hv : v = .slice (some ⟨b, off, none⟩) n c) {i f : Nat} (hi : i < l.length) (hf : f < 9) {u : Value} {y : Bx} (hy : y.vals = (bx l i).vals.set f u) :
    Own (w.setCell ⟨b, off + i * 9 + f, none⟩ u) base 9 v (Bs (l.set i y)) := by
  rw [Nat.add_assoc]
  have hl := Bs_length l
  obtain ⟨b', off', n', c', e, _, _, _, _, _, _, hset⟩ := h.cells (by intro e; rw [e] at hl; simp at hl; omega)
  rw [hv] at e
  cases e
  rw [Bs_set1 hi hf hy]
  exact hset _ u (by omega)
theorem Own.cellF {w : World} {base b off n c : Nat} {l : List Bx} (h : Own w base 9 (.slice (some ⟨b, off, none⟩) n c) (Bs l)) {i : Nat} (hi : i < l.length) :
    Cells9 w b (off + i * 9) (bx l i) ∧ (∀ j, w.frozen? ⟨b, off + i * 9 + j, none⟩ = false) := by
  have hl := Bs_length l
  obtain ⟨b', off', n', c', e, _, _, _, _, _, hfz, _⟩ := h.cells (by intro e; rw [e] at hl; simp at hl; omega)
  cases e
  obtain ⟨a2, c2, e, _, _, hC⟩ := h.rd.boxes
  cases e
  obtain ⟨b3, off3, e, _, hC⟩ := hC i _ (bx_get hi)
  cases e
  exact ⟨hC i _ (bx_get hi), fun j => by rw [Nat.add_assoc]; exact hfz _⟩
theorem Own.tail {w : World} {base b off n c : Nat} {x : Bx} {l : List Bx} (h : Own w base 9 (.slice (some ⟨b, off, none⟩) (n + 1) (c + 1)) (Bs (x :: l))) : Own w base 9 (.slice (some ⟨b, off + 9, none⟩) n c) (Bs l) := by
  obtain ⟨a', n', c', e, hl, hn, hc, h⟩ := h
  cases e
  refine ⟨_, n, c, rfl, ?_, by omega, by omega, ?_⟩
  · rw [Bs_length] at hl ⊢
    simp at hl
    omega
  · rcases h with h | ⟨g, off', cur, e, e', hg, hh, hs, ht⟩
    · omega
    · cases e'
      refine .inr ⟨_, _, cur, e, rfl, hg, hh, by omega, ?_⟩
      have := congrArg (List.drop 9) ht
      rw [Bs_cons, List.drop_left' (Bx.vals_length x), List.drop_take, List.drop_drop] at this
      rw [← this]
      congr 1
      omega
set_option maxRecDepth 100000 in
set_option maxHeartbeats 4000000 in
theorem anyTree_any {R m : Nat} (w : World) (h : Rdr R w m) (hm : m ≤ 70000) :
    Calls Try.prog 45 #[.pointer (some ⟨R, 0, none⟩)] w fun e w' => ∃ v, e = .returned v ∧ ∃ l : List Bx, l.length ≤ 16 ∧ Own w' w.heap.size 9 v (Bs l) ∧ Rdr R w' (m + 310) ∧ ExtR R w w' := by
  have hRl := h.lt
  go_enter Try.func45, Try.ntmps45
  go_wp2_with (fail)
  refine (someTree_any _ h (by omega)).mono ?_
  rintro e w1 ⟨v, rfl, l, hl1, hl16, ho1, hr1, hb1⟩
  obtain ⟨a, c, rfl, hn, hc, hcell⟩ := ho1.rd.boxes
  unfold maxLen at hc
  have Hn := Lib.hid hn
  clear hcell
  go_wp2_with (fail)
  refine (pick_any (l.length : Int) _ hr1 (by omega)).mono ?_
  rintro e w2 ⟨at2, rfl, ⟨h20, h21⟩, hr2, hx2⟩
  have h21 := h21 (by omega)
  obtain ⟨i, rfl⟩ := Int.eq_ofNat_of_zero_le h20
  have hi : i < l.length := by omega
  have hb2 := afterR hb1 hx2 (Nat.le_refl _)
  have ho2 := ho1.bel hx2 hRl
  clear hx2 hr1 hb1 ho1
  go_wp2_with (fail)
  refine (pick_any 30 _ hr2 (by omega)).mono ?_
  rintro e w3 ⟨how, rfl, _, hr3, hx3⟩
  have hb3 := afterR hb2 hx3 (Nat.le_refl _)
  have ho3 := ho2.bel hx3 hRl
  clear hx3 hr2 hb2 ho2
  obtain ⟨b, off, n', c', e, _, hblk, hwb, hbl, _, hfz, _⟩ := ho3.cells (by
    intro e
    have := congrArg List.length e
    rw [Bs_length, List.length_nil] at this
    omega)
  cases e
  have hs3 := hb3.size
  by_cases h0 : how = 0
  · subst h0
    go_wp2_with (fail)
    refine (pick_any 5 _ hr3 (by omega)).mono ?_
    rintro e w4 ⟨r, rfl, ⟨hr0, hr1⟩, hr4, hx4⟩
    have hr1 := hr1 (by omega)
    have hb3' := hb3
    have ho3' := ho3
    have hb4 := afterR hb3' hx4 (Nat.le_refl _)
    have ho4 := ho3'.bel hx4 hRl
    obtain ⟨hC, hF⟩ := ho4.cellF hi
    have g := hC.c0
    have f := hF 0
    try simp only [Nat.add_zero] at f
    have hr5 := hr4.setCell (p := ⟨b, off + i * 9, none⟩) (show R < b by omega) (.int .i64 (r - 1))
    have hb5 := bel_setCell hb4 (p := ⟨b, off + i * 9, none⟩) hwb (.int .i64 (r - 1))
    have ho5 := ho4.set1 rfl hi (f := 0) (by omega) (u := .int .i64 (r - 1)) (y := { bx l i with parent := (r - 1) }) rfl
    try simp only [Nat.add_zero] at ho5
    clear hx4 hr3 hb3 ho3 hC hF hr4 hb4 ho4 hfz
    go_wp2
    go_ret
    exact ⟨_, rfl, l.set i { bx l i with parent := (r - 1) }, by simpa using hl16, ho5, hr5.mono (by omega), hb5⟩
  by_cases h1 : how = 1
  · subst h1
    go_wp2_with (fail)
    refine (one_any (l := [0, 4, -1, 1]) _ (hr3.ext (Below.of_alloc _ _)) (by omega) (heapAt _ (by simp)) (by have := hr3.lt; omega) (by simp) (by simp)).mono ?_
    rintro e w4 ⟨r, rfl, _, hr4, hx4⟩
    have hb3' := bel_alloc hb3 (Nat.le_refl _) (.cells (Is [0, 4, -1, 1]).toArray 3)
    have ho3' := ho3.alloc (.cells (Is [0, 4, -1, 1]).toArray 3)
    have hb4 := afterR hb3' hx4 (Nat.le_refl _)
    have ho4 := ho3'.bel hx4 hRl
    obtain ⟨hC, hF⟩ := ho4.cellF hi
    have g := hC.c1
    have f := hF 1
    try simp only [Nat.add_zero] at f
    have hr5 := hr4.setCell (p := ⟨b, off + i * 9 + 1, none⟩) (show R < b by omega) (.int .i64 r)
    have hb5 := bel_setCell hb4 (p := ⟨b, off + i * 9 + 1, none⟩) hwb (.int .i64 r)
    have ho5 := ho4.set1 rfl hi (f := 1) (by omega) (u := .int .i64 r) (y := { bx l i with kind := r }) rfl
    clear hx4 hr3 hb3 ho3 hC hF hr4 hb4 ho4 hfz
    go_wp2
    go_ret
    exact ⟨_, rfl, l.set i { bx l i with kind := r }, by simpa using hl16, ho5, hr5.mono (by omega), hb5⟩
  by_cases h2 : how = 2
  · subst h2
    go_wp2_with (fail)
    refine (one_any (l := [1, 101, -1]) _ (hr3.ext (Below.of_alloc _ _)) (by omega) (heapAt _ (by simp)) (by have := hr3.lt; omega) (by simp) (by simp)).mono ?_
    rintro e w4 ⟨r, rfl, _, hr4, hx4⟩
    have hb3' := bel_alloc hb3 (Nat.le_refl _) (.cells (Is [1, 101, -1]).toArray 3)
    have ho3' := ho3.alloc (.cells (Is [1, 101, -1]).toArray 3)
    have hb4 := afterR hb3' hx4 (Nat.le_refl _)
    have ho4 := ho3'.bel hx4 hRl
    obtain ⟨hC, hF⟩ := ho4.cellF hi
    have g := hC.c2
    have f := hF 2
    try simp only [Nat.add_zero] at f
    have hr5 := hr4.setCell (p := ⟨b, off + i * 9 + 2, none⟩) (show R < b by omega) (.int .i64 r)
    have hb5 := bel_setCell hb4 (p := ⟨b, off + i * 9 + 2, none⟩) hwb (.int .i64 r)
    have ho5 := ho4.set1 rfl hi (f := 2) (by omega) (u := .int .i64 r) (y := { bx l i with w := r }) rfl
    clear hx4 hr3 hb3 ho3 hC hF hr4 hb4 ho4 hfz
    go_wp2
    go_ret
    exact ⟨_, rfl, l.set i { bx l i with w := r }, by simpa using hl16, ho5, hr5.mono (by omega), hb5⟩
  by_cases h3 : how = 3
  · subst h3
    go_wp2_with (fail)
    refine (one_any (l := [51, -1]) _ (hr3.ext (Below.of_alloc _ _)) (by omega) (heapAt _ (by simp)) (by have := hr3.lt; omega) (by simp) (by simp)).mono ?_
    rintro e w4 ⟨r, rfl, _, hr4, hx4⟩
    have hb3' := bel_alloc hb3 (Nat.le_refl _) (.cells (Is [51, -1]).toArray 3)
    have ho3' := ho3.alloc (.cells (Is [51, -1]).toArray 3)
    have hb4 := afterR hb3' hx4 (Nat.le_refl _)
    have ho4 := ho3'.bel hx4 hRl
    obtain ⟨hC, hF⟩ := ho4.cellF hi
    have g := hC.c4
    have f := hF 4
    try simp only [Nat.add_zero] at f
    have hr5 := hr4.setCell (p := ⟨b, off + i * 9 + 4, none⟩) (show R < b by omega) (.int .i64 r)
    have hb5 := bel_setCell hb4 (p := ⟨b, off + i * 9 + 4, none⟩) hwb (.int .i64 r)
    have ho5 := ho4.set1 rfl hi (f := 4) (by omega) (u := .int .i64 r) (y := { bx l i with pad := r }) rfl
    clear hx4 hr3 hb3 ho3 hC hF hr4 hb4 ho4 hfz
    go_wp2
    go_ret
    exact ⟨_, rfl, l.set i { bx l i with pad := r }, by simpa using hl16, ho5, hr5.mono (by omega), hb5⟩
  by_cases h4 : how = 4
  · subst h4
    have hc1 : 1 ≤ c := by omega
    cases l with
    | nil => simp at hl1
    | cons x l =>
      obtain ⟨c, rfl⟩ : ∃ c2, c = c2 + 1 := ⟨c - 1, by omega⟩
      have ho4 := ho3.tail (n := l.length)
      clear hfz
      rcases Nat.eq_zero_or_pos c with hc0 | hc0
      · subst hc0
        cases l with
        | cons y l => have := Hn.out; simp at this
        | nil =>
          go_wp2
          go_ret
          exact ⟨_, rfl, [], by simp, Own.empty _ w.heap.size 9 _, hr3.mono (by omega), hb3⟩
      · go_wp2
        go_ret
        exact ⟨_, rfl, l, by simp at hl16; omega, ho4, hr3.mono (by omega), hb3⟩
  have n0 : (how == 0) = false := by simp [h0]
  have n1 : (how == 1) = false := by simp [h1]
  have n2 : (how == 2) = false := by simp [h2]
  have n3 : (how == 3) = false := by simp [h3]
  have n4 : (how == 4) = false := by simp [h4]
  clear h0 h1 h2 h3 h4 hfz
  go_wp2
  go_ret
  exact ⟨_, rfl, l, hl16, ho3, hr3.mono (by omega), hb3⟩
end Go.Proofs.Ytbkhbmcoococmaa
namespace Go.Proofs.Ytbkhbmcoococmaa
open Go Go.RowKit
/-- a tree has room in a screen -/
def fitS (l : List Bx) (a b : Int) : Bool := vldB l && (decide ((natS l 0).1 ≤ a) && decide ((natS l 0).2 ≤ b))
end Go.Proofs.Ytbkhbmcoococmaa
namespace Go.Proofs.Ytbkhbmcoococmaa
open Go Go.RowKit
set_option maxHeartbeats 1000000 in
theorem someAt_any {R m : Nat} {v : Value} {l : List Bx} (w : World) (h : Rdr R w m) (hm : m ≤ 60000) (hv : Rd w 9 v (Bs l)) (hl : l.length ≤ 16) :
    Calls Try.prog 65 #[.pointer (some ⟨R, 0, none⟩), v] w fun e w' => ∃ r : Int, e = .returned (.int .i64 r) ∧ -1 ≤ r ∧ r ≤ 16 ∧ Rdr R w' (m + 2) ∧ ExtR R w w' := by
  obtain ⟨a, c, rfl, hn, hc, _⟩ := hv.boxes
  unfold maxLen at hc
  have hRl := h.lt
  go_enter Try.func65, Try.ntmps65
  go_wp2_with (fail)
  refine (pick_any 10 _ h (by omega)).mono ?_
  rintro e w1 ⟨r1, rfl, _, hr1, hx1⟩
  have hR1 := hr1.lt
  by_cases h1 : r1 = 0
  · subst h1
    go_wp2_with (fail)
    refine (one_any (l := [-1, (l.length : Int), 0]) _ (hr1.ext (Below.of_alloc _ _)) (by omega) (heapAt _ rfl) (by omega) (by simp) (by simp)).mono ?_
    rintro e w2 ⟨r2, rfl, hm2, hr2, hx2⟩
    have q2 : -1 ≤ r2 ∧ r2 ≤ 16 := by simp at hm2; omega
    have hb2 := afterR (bel_alloc hx1 (Nat.le_refl _) _) hx2 (Nat.le_refl _)
    clear hm2
    go_wp2
    go_ret
    exact ⟨r2, rfl, q2.1, q2.2, hr2, hb2⟩
  · have h1' : (r1 == 0) = false := by simp [h1]
    clear h1
    have hmax : (max (1 : Int) (l.length : Int)) ≤ 16 := by omega
    have hmax1 : 1 ≤ (max (1 : Int) (l.length : Int)) := by omega
    go_wp2_with (fail)
    all_goals
      refine (pick_any _ _ hr1 (by omega)).mono ?_
      rintro e w2 ⟨r2, rfl, ⟨h20, h21⟩, hr2, hx2⟩
      have h21 := h21 (by omega)
      have hb2 := afterR hx1 hx2 (Nat.le_refl _)
      go_wp2
      go_ret
      exact ⟨r2, rfl, by omega, by omega, hr2, hb2⟩
theorem setBx_other (w : World) {b k : Nat} (o : Nat) (x : Bx) (h : k ≠ b) : (setBx w b o x).heap[k]? = w.heap[k]? := by
  unfold setBx
  rw [Below.heap_setCell _ _ _ _ h, Below.heap_setCell _ _ _ _ h, Below.heap_setCell _ _ _ _ h, Below.heap_setCell _ _ _ _ h, Below.heap_setCell _ _ _ _ h, Below.heap_setCell _ _ _ _ h, Below.heap_setCell _ _ _ _ h, Below.heap_setCell _ _ _ _ h, Below.heap_setCell _ _ _ _ h]
theorem Own.setBxOther {w : World} {base size b : Nat} {v : Value} {xs : List Value} (h : Own w base size v xs) (hp : blk v ≠ some b) (o : Nat) (x : Bx) : Own (setBx w b o x) base size v xs := by
  have h0 := h.setOther (p := ⟨b, o, none⟩) hp (.int .i64 x.parent)
  have h1 := h0.setOther (p := ⟨b, o + 1, none⟩) hp (.int .i64 x.kind)
  have h2 := h1.setOther (p := ⟨b, o + 2, none⟩) hp (.int .i64 x.w)
  have h3 := h2.setOther (p := ⟨b, o + 3, none⟩) hp (.int .i64 x.h)
  have h4 := h3.setOther (p := ⟨b, o + 4, none⟩) hp (.int .i64 x.pad)
  have h5 := h4.setOther (p := ⟨b, o + 5, none⟩) hp (.int .i64 x.gap)
  have h6 := h5.setOther (p := ⟨b, o + 6, none⟩) hp (.int .i64 x.grow)
  have h7 := h6.setOther (p := ⟨b, o + 7, none⟩) hp (.int .i64 x.shrink)
  exact h7.setOther (p := ⟨b, o + 8, none⟩) hp (.int .i64 x.justify)
theorem Keep.fz9 {k : Nat} {cs : Array Value} {e : TypeId} {w : World} (h : Keep k (.cells cs e) w) : w.frozen? ⟨k, 0, none⟩ = false ∧ w.frozen? ⟨k, 1, none⟩ = false ∧ w.frozen? ⟨k, 2, none⟩ = false ∧ w.frozen? ⟨k, 3, none⟩ = false ∧ w.frozen? ⟨k, 4, none⟩ = false ∧ w.frozen? ⟨k, 5, none⟩ = false ∧ w.frozen? ⟨k, 6, none⟩ = false ∧ w.frozen? ⟨k, 7, none⟩ = false ∧ w.frozen? ⟨k, 8, none⟩ = false :=
  ⟨h.frozen _, h.frozen _, h.frozen _, h.frozen _, h.frozen _, h.frozen _, h.frozen _, h.frozen _, h.frozen _⟩
theorem Keep.c9 {k : Nat} {x : Bx} {e : TypeId} {w : World} (h : Keep k (.cells x.arr e) w) : w.cell? ⟨k, 0, none⟩ = some (.int .i64 x.parent) ∧ w.cell? ⟨k, 1, none⟩ = some (.int .i64 x.kind) ∧ w.cell? ⟨k, 2, none⟩ = some (.int .i64 x.w) ∧ w.cell? ⟨k, 3, none⟩ = some (.int .i64 x.h) ∧ w.cell? ⟨k, 4, none⟩ = some (.int .i64 x.pad) ∧ w.cell? ⟨k, 5, none⟩ = some (.int .i64 x.gap) ∧ w.cell? ⟨k, 6, none⟩ = some (.int .i64 x.grow) ∧ w.cell? ⟨k, 7, none⟩ = some (.int .i64 x.shrink) ∧ w.cell? ⟨k, 8, none⟩ = some (.int .i64 x.justify) :=
  ⟨h.cell 0, h.cell 1, h.cell 2, h.cell 3, h.cell 4, h.cell 5, h.cell 6, h.cell 7, h.cell 8⟩
end Go.Proofs.Ytbkhbmcoococmaa
namespace Go.Proofs.Ytbkhbmcoococmaa
open Go Go.RowKit
set_option maxHeartbeats 1000000 in
theorem someSide_any {R m : Nat} (w : World) (h : Rdr R w m) (hm : m ≤ 90000) :
    Calls Try.prog 46 #[.pointer (some ⟨R, 0, none⟩)] w fun e w' => ∃ r : Int, e = .returned (.int .i64 r) ∧ -1 ≤ r ∧ r ≤ 10001 ∧ Rdr R w' (m + 1) ∧ ExtR R w w' := by
  have hRl := h.lt
  go_enter Try.func46, Try.ntmps46
  go_wp2_with (fail)
  refine (one_any (l := [100, 200, 300, 50, 0, 500, 10000, 10001, -1, 150, 320]) _ (h.ext (Below.of_alloc _ _)) (by omega) (heapAt _ rfl) (by omega) (by simp) (by simp)).mono ?_
  rintro e w2 ⟨r2, rfl, hm2, hr2, hx2⟩
  have q2 : -1 ≤ r2 ∧ r2 ≤ 10001 := by simp at hm2; omega
  have hb2 := afterR (bel_of (Below.of_alloc _ _)) hx2 (Nat.le_refl _)
  clear hm2
  go_wp2
  go_ret
  exact ⟨r2, rfl, q2.1, q2.2, hr2, hb2⟩
set_option maxHeartbeats 1000000 in
theorem DrawLayoutTree_any {v : Value} (w : World) (hv : RdBytes w v) :
    Calls Try.prog 15 #[v] w fun e w' => ∃ (v' : Value) (sw sh : Int), e = .returned (.tuple #[v', .int .i64 sw, .int .i64 sh]) ∧ ∃ l : List Bx, l.length ≤ 16 ∧ (-1 ≤ sw ∧ sw ≤ 10001) ∧ (-1 ≤ sh ∧ sh ≤ 10001) ∧ Own w' w.heap.size 9 v' (Bs l) ∧ Ext w w' := by
  go_enter Try.func15, Try.ntmps15
  go_wp2_with (fail)
  refine (newReader_any _ hv).mono ?_
  rintro e w1 ⟨rfl, hr1, hx1⟩
  go_wp2_with (fail)
  refine (anyTree_any _ hr1 (by omega)).mono ?_
  rintro e w2 ⟨v2, rfl, l, hl, ho2, hr2, hx2⟩
  have hb2 := afterR (bel_of hx1) hx2 (Nat.le_refl _)
  have hR := hr2.lt
  have hR1 := hr1.lt
  have hs1 := hx1.size
  clear hr1 hx1 hx2
  go_wp2_with (fail)
  refine (someSide_any _ hr2 (by omega)).mono ?_
  rintro e w3 ⟨i, rfl, hi0, hi1, hr3, hx3⟩
  have hb3 := afterR hb2 hx3 (Nat.le_refl _)
  have ho3 := ho2.bel hx3 hR1
  clear hr2 ho2 hx3 hb2
  go_wp2_with (fail)
  refine (someSide_any _ hr3 (by omega)).mono ?_
  rintro e w4 ⟨j, rfl, hj0, hj1, hr4, hx4⟩
  have hb4 := below_of_bel (afterR hb3 hx4 (Nat.le_refl _)) (Nat.le_refl _)
  have ho4 := ho3.bel hx4 hR1
  go_wp2
  go_ret3
  exact ⟨_, i, j, rfl, l, hl, ⟨hi0, hi1⟩, ⟨hj0, hj1⟩, ho4.weak hs1, hb4⟩
set_option maxHeartbeats 1000000 in
theorem DrawRectOf_any {v : Value} (w : World) (hv : RdBytes w v) :
    Calls Try.prog 28 #[v] w fun e w' => ∃ (v' : Value) (sw sh i : Int), e = .returned (.tuple #[v', .int .i64 sw, .int .i64 sh, .int .i64 i]) ∧ ∃ l : List Bx, l.length ≤ 16 ∧ (-1 ≤ sw ∧ sw ≤ 10001) ∧ (-1 ≤ sh ∧ sh ≤ 10001) ∧ (-1 ≤ i ∧ i ≤ 16) ∧ Own w' w.heap.size 9 v' (Bs l) ∧ Ext w w' := by
  go_enter Try.func28, Try.ntmps28
  go_wp2_with (fail)
  refine (newReader_any _ hv).mono ?_
  rintro e w1 ⟨rfl, hr1, hx1⟩
  go_wp2_with (fail)
  refine (anyTree_any _ hr1 (by omega)).mono ?_
  rintro e w2 ⟨v2, rfl, l, hl, ho2, hr2, hx2⟩
  have hb2 := afterR (bel_of hx1) hx2 (Nat.le_refl _)
  have hR := hr2.lt
  have hR1 := hr1.lt
  have hs1 := hx1.size
  clear hr1 hx1 hx2
  go_wp2_with (fail)
  refine (someSide_any _ hr2 (by omega)).mono ?_
  rintro e w3 ⟨i, rfl, hi0, hi1, hr3, hx3⟩
  have hb3 := afterR hb2 hx3 (Nat.le_refl _)
  have ho3 := ho2.bel hx3 hR1
  clear hr2 ho2 hx3 hb2
  go_wp2_with (fail)
  refine (someSide_any _ hr3 (by omega)).mono ?_
  rintro e w4 ⟨j, rfl, hj0, hj1, hr4, hx4⟩
  have hb4 := afterR hb3 hx4 (Nat.le_refl _)
  have ho4 := ho3.bel hx4 hR1
  clear hr3 ho3 hx4 hb3
  go_wp2_with (fail)
  refine (someAt_any (l := l) _ hr4 (by omega) ho4.rd hl).mono ?_
  rintro e w5 ⟨k, rfl, hk0, hk1, hr5, hx5⟩
  have hb5 := below_of_bel (afterR hb4 hx5 (Nat.le_refl _)) (Nat.le_refl _)
  have ho5 := ho4.bel hx5 hR1
  go_wp2
  refine bodyPost_ret (v := .tuple #[v2, .int .i64 i, .int .i64 j, .int .i64 k]) ?_ rfl ?_
  · simp [results, Try.results28, go_sem]
  exact ⟨_, i, j, k, rfl, l, hl, ⟨hi0, hi1⟩, ⟨hj0, hj1⟩, ⟨hk0, hk1⟩, ho5.weak hs1, hb5⟩
set_option maxHeartbeats 1000000 in
theorem DrawSpilling_any {v : Value} (w : World) (hv : RdBytes w v) :
    Calls Try.prog 40 #[v] w fun e w' => ∃ (v' : Value) (sw sh : Int), e = .returned (.tuple #[v', .int .i64 sw, .int .i64 sh]) ∧ ∃ l : List Bx, l.length ≤ 16 ∧ (-1 ≤ sw ∧ sw ≤ 10001) ∧ (-1 ≤ sh ∧ sh ≤ 10001) ∧ Own w' w.heap.size 9 v' (Bs l) ∧ Ext w w' := by
  go_enter Try.func40, Try.ntmps40
  go_wp2_with (fail)
  refine (DrawLayoutTree_any _ hv).mono ?_
  rintro e w1 ⟨v2, i, j, rfl, l, hl, hi, hj, ho, hb⟩
  go_wp2
  go_ret3
  exact ⟨_, i, j, rfl, l, hl, hi, hj, ho, hb⟩
end Go.Proofs.Ytbkhbmcoococmaa
namespace Go.Proofs.Ytbkhbmcoococmaa
open Go Go.RowKit
theorem nW_nat {l : List Bx} {i : Nat} (h : inB l (i : Int) = true) : nW l (i : Int) = (natS l i).1 := by
  unfold nW
  rw [if_pos h, Int.toNat_natCast]
theorem nH_nat {l : List Bx} {i : Nat} (h : inB l (i : Int) = true) : nH l (i : Int) = (natS l i).2 := by
  unfold nH
  rw [if_pos h, Int.toNat_natCast]
theorem n_leaf {l : List Bx} {i : Nat} (h : inB l (i : Int) = true) (hk : (bx l i).kind = 0) : nW l (i : Int) = (bx l i).w + 2 * (bx l i).pad ∧ nH l (i : Int) = (bx l i).h + 2 * (bx l i).pad := by
  obtain ⟨hv, h0, hi⟩ := inB_iff.1 h
  rw [nW_nat h, nH_nat h, natS_leaf hv (by omega) hk]
  exact ⟨rfl, rfl⟩
theorem foldK_ge (b : Bx) (hb : 0 ≤ b.gap) : ∀ (r : List (Int × Int)) (k : Nat) (acc : Int × Int), (∀ s, s ∈ r → 0 ≤ s.1 ∧ 0 ≤ s.2) → acc.1 ≤ (foldK b k acc r).1 ∧ acc.2 ≤ (foldK b k acc r).2
  | [], _, _, _ => ⟨Int.le_refl _, Int.le_refl _⟩
  | s :: r, k, acc, hs => by
    have h := foldK_ge b hb r (k + 1) (addK b k acc s) (fun t ht => hs t (List.mem_cons_of_mem _ ht))
    have h0 := hs s List.mem_cons_self
    have h1 : acc.1 ≤ (addK b k acc s).1 ∧ acc.2 ≤ (addK b k acc s).2 := by
      unfold addK
      split <;> (dsimp only; split <;> omega)
    exact ⟨Int.le_trans h1.1 h.1, Int.le_trans h1.2 h.2⟩
theorem n_box {l : List Bx} {i : Nat} (h : inB l (i : Int) = true) : 2 * (bx l i).pad ≤ nW l (i : Int) ∧ 2 * (bx l i).pad ≤ nH l (i : Int) := by
  obtain ⟨hv, h0, hi⟩ := inB_iff.1 h
  have hi : i < l.length := by omega
  have hb := okB_bounds (hv.ok i hi)
  have hg := foldK_ge (bx l i) (by omega) (kidS l i) 0 ((bx l i).w, (bx l i).h) (fun s hs => by
    unfold kidS at hs
    obtain ⟨k, hk, rfl⟩ := List.mem_map.1 hs
    have := natS_sz hv (mem_kid.1 hk).1
    exact ⟨this.1, this.2.2.1⟩)
  rw [nW_nat h, nH_nat h, natS_eq (fun k hk => hv.down hk k (Nat.le_refl _)) hi]
  dsimp only at hg ⊢
  omega
theorem n_empty {l : List Bx} {i : Nat} (h : inB l (i : Int) = true) (hk : (bx l i).kind ≠ 0) (he : kid l (i : Int) = []) : nW l (i : Int) = 2 * (bx l i).pad ∧ nH l (i : Int) = 2 * (bx l i).pad := by
  obtain ⟨hv, h0, hi⟩ := inB_iff.1 h
  have hi : i < l.length := by omega
  have ho := hv.ok i hi
  rw [okB_eq] at ho
  simp only [Bool.and_eq_true, Bool.or_eq_true, beq_iff_eq] at ho
  rcases ho.2 with h1 | h1
  · exact absurd h1 hk
  · have hs : kidS l i = [] := by unfold kidS; rw [he]; rfl
    rw [nW_nat h, nH_nat h, natS_eq (fun k hk => hv.down hk k (Nat.le_refl _)) hi, hs]
    simp only [foldK]
    omega
theorem n_sz {l : List Bx} {i : Int} : 0 ≤ nW l i ∧ nW l i ≤ 24126426575199000 ∧ 0 ≤ nH l i ∧ nH l i ≤ 24126426575199000 := by
  unfold nW nH
  by_cases h : inB l i = true
  · obtain ⟨hv, h0, hi⟩ := inB_iff.1 h
    have := natS_sz hv (i := i.toNat) (by omega)
    rw [if_pos h, if_pos h]
    exact this
  · rw [if_neg h, if_neg h]
    omega
end Go.Proofs.Ytbkhbmcoococmaa
namespace Go.Proofs.Ytbkhbmcoococmaa
open Go Go.RowKit
/-- a list of numbers that is empty -/
theorem Rd.len {w : World} {v : Value} {l : List Int} (h : Rd w 1 v (Is l)) : ∃ a c, v = .slice a l.length c ∧ l.length ≤ c ∧ c ≤ maxLen := by
  obtain ⟨a, n, c, rfl, hl, hn, hc, _⟩ := h
  rw [Is_length] at hl
  obtain rfl : n = l.length := by omega
  exact ⟨a, c, rfl, hn, hc⟩
theorem mem_inB {l : List Bx} {i k : Nat} (h : inB l (i : Int) = true) (hk : k ∈ kid l (i : Int)) : inB l (k : Int) = true := by
  have := (mem_kid.1 hk).1
  exact inB_iff.2 ⟨(inB_iff.1 h).1, by omega, by omega⟩
theorem n_kid {l : List Bx} {i k : Nat} (h : inB l (i : Int) = true) (hk : k ∈ kid l (i : Int)) : nW l (k : Int) + 2 * (bx l i).pad ≤ nW l (i : Int) ∧ nH l (k : Int) + 2 * (bx l i).pad ≤ nH l (i : Int) := by
  obtain ⟨hv, h0, hi⟩ := inB_iff.1 h
  rw [nW_nat h, nH_nat h, nW_nat (mem_inB h hk), nH_nat (mem_inB h hk)]
  exact nat_kid hv (by omega) hk
end Go.Proofs.Ytbkhbmcoococmaa
namespace Go.Proofs.Ytbkhbmcoococmaa
open Go Go.RowKit
end Go.Proofs.Ytbkhbmcoococmaa
namespace Go.Proofs.Ytbkhbmcoococmaa
open Go Go.RowKit
/-! ### dirty boxes -/
def inMarks (l : List Bx) (ms : List Int) : Prop := ∀ m, m ∈ ms → 0 ≤ m ∧ m < l.length
/-- a valid tree and at most 16 numbers of its boxes -/
def mkB (l : List Bx) (ms : List Int) : Bool := vldB l && (decide (ms.length ≤ 16) && ms.all fun m => inR m 0 ((l.length : Int) - 1))
theorem mkB_iff {l : List Bx} {ms : List Int} : mkB l ms = true ↔ Valid l ∧ ms.length ≤ 16 ∧ inMarks l ms := by
  unfold mkB inMarks
  simp only [Bool.and_eq_true, vldB_iff, decide_eq_true_eq, List.all_eq_true, inR_iff]
  constructor
  · rintro ⟨h1, h2, h3⟩
    exact ⟨h1, h2, fun m hm => by have := h3 m hm; omega⟩
  · rintro ⟨h1, h2, h3⟩
    exact ⟨h1, h2, fun m hm => by have := h3 m hm; omega⟩
def rootB (l : List Bx) (ms : List Int) (i : Nat) : Bool := decide ((i : Int) ∈ ms) && ms.all fun m => decide (m = (i : Int)) || !arB l m.toNat i
def covB (l : List Bx) (ms : List Int) (i : Nat) : Bool := ms.any fun m => arB l m.toNat i
/-- the marked boxes around which no other marked one is -/
def rootsL (l : List Bx) (ms : List Int) : List Nat := (List.range l.length).filter (rootB l ms)
/-- the boxes around which a marked one is -/
def covL (l : List Bx) (ms : List Int) : List Nat := (List.range l.length).filter (covB l ms)
theorem arB_anc {l : List Bx} {a i : Nat} : arB l a i = true ↔ a ∈ anc l i := by simp [arB]
theorem anc_antisymm {l : List Bx} (hv : Valid l) {a b : Nat} (ha : a < l.length) (hb : b < l.length) (h1 : a ∈ anc l b) (h2 : b ∈ anc l a) : a = b := by
  have := anc_le _ (hv.down hb) _ h1
  have := anc_le _ (hv.down ha) _ h2
  omega
theorem rootB_iff {l : List Bx} {ms : List Int} {i : Nat} : rootB l ms i = true ↔ (i : Int) ∈ ms ∧ ∀ m, m ∈ ms → m.toNat ∈ anc l i → m = i := by
  unfold rootB
  simp only [Bool.and_eq_true, decide_eq_true_eq, List.all_eq_true, Bool.or_eq_true, Bool.not_eq_true']
  constructor
  · rintro ⟨h1, h2⟩
    refine ⟨h1, fun m hm ha => ?_⟩
    rcases h2 m hm with h | h
    · exact h
    · rw [arB_anc.2 ha] at h
      cases h
  · rintro ⟨h1, h2⟩
    refine ⟨h1, fun m hm => ?_⟩
    by_cases h : m.toNat ∈ anc l i
    · exact .inl (h2 m hm h)
    · right
      rw [Bool.eq_false_iff]
      exact fun h3 => h (arB_anc.1 h3)
theorem mem_roots {l : List Bx} {ms : List Int} {i : Nat} : i ∈ rootsL l ms ↔ i < l.length ∧ (i : Int) ∈ ms ∧ ∀ m, m ∈ ms → m.toNat ∈ anc l i → m = i := by
  unfold rootsL
  rw [List.mem_filter, List.mem_range, rootB_iff]
theorem mem_cov {l : List Bx} {ms : List Int} {i : Nat} : i ∈ covL l ms ↔ i < l.length ∧ ∃ m, m ∈ ms ∧ m.toNat ∈ anc l i := by
  unfold covL covB
  rw [List.mem_filter, List.mem_range, List.any_eq_true]
  simp only [arB_anc]
theorem roots_sorted (l : List Bx) (ms : List Int) : (rootsL l ms).Pairwise (· < ·) := List.Pairwise.filter _ List.pairwise_lt_range
theorem cov_sorted (l : List Bx) (ms : List Int) : (covL l ms).Pairwise (· < ·) := List.Pairwise.filter _ List.pairwise_lt_range
/-- no root is around another one -/
theorem roots_apart {l : List Bx} {ms : List Int} {a b : Nat} (ha : a ∈ rootsL l ms) (hb : b ∈ rootsL l ms) (h : a ∈ anc l b) : a = b := by
  have h1 := mem_roots.1 ha
  have h2 := (mem_roots.1 hb).2.2 a h1.2.1 (by simpa using h)
  omega
/-- each marked box is in a root -/
theorem roots_cover {l : List Bx} {ms : List Int} (hv : Valid l) (hm : inMarks l ms) : ∀ (m : Nat), (m : Int) ∈ ms → ∃ r, r ∈ rootsL l ms ∧ r ∈ anc l m := by
  intro m
  induction m using Nat.strongRecOn with
  | _ m ih =>
    intro h
    have hml : m < l.length := by have := hm _ h; omega
    by_cases hr : m ∈ rootsL l ms
    · exact ⟨m, hr, anc_self (hv.down hml)⟩
    · have : ∃ x, x ∈ ms ∧ x.toNat ∈ anc l m ∧ x ≠ m := by
        false_or_by_contra
        rename_i hn
        refine hr (mem_roots.2 ⟨hml, h, fun x hx ha => ?_⟩)
        false_or_by_contra
        rename_i hne
        exact hn ⟨x, hx, ha, hne⟩
      obtain ⟨x, hx, ha, hne⟩ := this
      have hx0 := hm x hx
      have hxl := anc_le _ (hv.down hml) _ ha
      obtain ⟨r, h1, h2⟩ := ih x.toNat (by omega) (by rw [show ((x.toNat : Nat) : Int) = x from by omega]; exact hx)
      exact ⟨r, h1, anc_trans _ (hv.down hml) ha h2⟩
theorem roots_in {l : List Bx} {ms : List Int} : inMarks l (ni (rootsL l ms)) := by
  intro m hm
  obtain ⟨k, hk, rfl⟩ := mem_ni.1 hm
  have := (mem_roots.1 hk).1
  omega
theorem roots_len {l : List Bx} {ms : List Int} (hv : Valid l) : (rootsL l ms).length ≤ 16 := by
  have h := List.length_filter_le (rootB l ms) (List.range l.length)
  rw [List.length_range] at h
  have := hv.hi
  unfold rootsL
  omega
theorem cov_len {l : List Bx} {ms : List Int} : (covL l ms).length ≤ l.length := by
  have h := List.length_filter_le (covB l ms) (List.range l.length)
  rw [List.length_range] at h
  exact h
/-- roots are their own roots -/
theorem roots_roots {l : List Bx} {ms : List Int} : rootsL l (ni (rootsL l ms)) = rootsL l ms := by
  apply sorted_ext _ _ (roots_sorted _ _) (roots_sorted _ _)
  intro i
  constructor
  · intro h
    exact mem_ni_nat.1 (mem_roots.1 h).2.1
  · intro h
    refine mem_roots.2 ⟨(mem_roots.1 h).1, mem_ni_nat.2 h, fun m hm ha => ?_⟩
    obtain ⟨k, hk, rfl⟩ := mem_ni.1 hm
    rw [roots_apart hk h (by simpa using ha)]
theorem single_of {r : List Nat} {p : Nat} (hs : r.Pairwise (· < ·)) (h : ∀ x, x ∈ r ↔ x = p) : r = [p] :=
  sorted_ext _ _ hs (List.pairwise_singleton _ _) fun x => by rw [h, List.mem_singleton]
theorem roots_first {l : List Bx} {ms : List Int} (hv : Valid l) (hm : inMarks l ms) (h0 : (0 : Int) ∈ ms) : rootsL l ms = [0] := by
  apply single_of (roots_sorted _ _)
  intro x
  constructor
  · intro hx
    have h1 := mem_roots.1 hx
    have := h1.2.2 0 h0 (anc_zero hv x h1.1)
    omega
  · rintro rfl
    have hl := hv.lo
    refine mem_roots.2 ⟨by omega, h0, fun m hmm ha => ?_⟩
    have h1 := hm m hmm
    have h2 := anc_le _ (hv.down (i := 0) (by omega)) _ ha
    omega
theorem roots_one {l : List Bx} {a p : Nat} (hv : Valid l) (ha : a < l.length) (hp : p ∈ anc l a) : rootsL l [(a : Int), (p : Int)] = [p] := by
  have hpl := anc_le _ (hv.down ha) _ hp
  apply single_of (roots_sorted _ _)
  intro x
  constructor
  · intro hx
    have h1 := mem_roots.1 hx
    have h2 := h1.2.1
    simp only [List.mem_cons, List.not_mem_nil, or_false] at h2
    rcases h2 with h2 | h2
    · obtain rfl : x = a := by omega
      have := h1.2.2 (p : Int) (by simp) (by simpa using hp)
      omega
    · omega
  · rintro rfl
    refine mem_roots.2 ⟨by omega, by simp, fun m hm hx => ?_⟩
    simp only [List.mem_cons, List.not_mem_nil, or_false] at hm
    rcases hm with rfl | rfl
    · have := anc_antisymm hv ha (by omega) (by simpa using hx) hp
      omega
    · rfl
theorem roots_self {l : List Bx} {a : Nat} (_hv : Valid l) (ha : a < l.length) : rootsL l [(a : Int)] = [a] := by
  apply single_of (roots_sorted _ _)
  intro x
  rw [mem_roots]
  constructor
  · rintro ⟨_, h, _⟩
    simp only [List.mem_cons, List.not_mem_nil, or_false] at h
    omega
  · rintro rfl
    exact ⟨ha, by simp, fun m hm _ => by simpa using hm⟩
theorem cov_roots {l : List Bx} {ms : List Int} (hv : Valid l) (hm : inMarks l ms) : covL l (ni (rootsL l ms)) = covL l ms := by
  apply sorted_ext _ _ (cov_sorted _ _) (cov_sorted _ _)
  intro i
  rw [mem_cov, mem_cov]
  constructor
  · rintro ⟨h, m, hmm, ha⟩
    obtain ⟨k, hk, rfl⟩ := mem_ni.1 hmm
    exact ⟨h, k, (mem_roots.1 hk).2.1, ha⟩
  · rintro ⟨h, m, hmm, ha⟩
    have h0 := hm m hmm
    obtain ⟨r, h1, h2⟩ := roots_cover hv hm m.toNat (by rw [show ((m.toNat : Nat) : Int) = m from by omega]; exact hmm)
    exact ⟨h, r, mem_ni_nat.2 h1, by simpa using anc_trans _ (hv.down h) ha h2⟩
theorem cov_all {l : List Bx} (hv : Valid l) : covL l [0] = List.range l.length := by
  apply sorted_ext _ _ (cov_sorted _ _) List.pairwise_lt_range
  intro i
  rw [mem_cov, List.mem_range]
  constructor
  · exact fun h => h.1
  · exact fun h => ⟨h, 0, by simp, by simpa using anc_zero hv i h⟩
theorem cov_none (l : List Bx) : covL l [] = [] := by
  rw [List.eq_nil_iff_forall_not_mem]
  intro i h
  obtain ⟨_, m, hm, _⟩ := mem_cov.1 h
  cases hm
/-- the sum of the counts of boxes that are not around each other -/
def sumC (l : List Bx) (r : List Nat) : Nat := (r.map (cnt l)).foldl (· + ·) 0
theorem foldl_add : ∀ (r : List Nat) (c : Nat), r.foldl (· + ·) c = c + r.foldl (· + ·) 0
  | [], c => by simp
  | x :: r, c => by
    rw [List.foldl_cons, List.foldl_cons, foldl_add r (c + x), foldl_add r (0 + x)]
    omega
theorem sumC_snoc (l : List Bx) (r : List Nat) (x : Nat) : sumC l (r ++ [x]) = sumC l r + cnt l x := by
  unfold sumC
  rw [List.map_append, List.foldl_append]
  rfl
theorem sumC_cons (l : List Bx) (r : List Nat) (x : Nat) : sumC l (x :: r) = cnt l x + sumC l r := by
  unfold sumC
  rw [List.map_cons, List.foldl_cons, foldl_add]
  omega
theorem filter_or : ∀ (p q : Nat → Bool) (r : List Nat), (∀ x, x ∈ r → ¬ (p x = true ∧ q x = true)) → (r.filter fun x => p x || q x).length = (r.filter p).length + (r.filter q).length
  | _, _, [], _ => rfl
  | p, q, x :: r, h => by
    have ih := filter_or p q r fun y hy => h y (List.mem_cons_of_mem _ hy)
    have hx := h x List.mem_cons_self
    by_cases h1 : p x = true
    · have h2 : q x = false := by
        rw [Bool.eq_false_iff]
        exact fun h2 => hx ⟨h1, h2⟩
      simp only [List.filter_cons, h1, h2, Bool.or_false, if_true, List.length_cons, ih]
      simp
      omega
    · have h1' : p x = false := by simpa using h1
      by_cases h2 : q x = true
      · simp only [List.filter_cons, h1', h2, Bool.or_true, if_true, List.length_cons, ih]
        simp
        omega
      · have h2' : q x = false := by simpa using h2
        simp only [List.filter_cons, h1', h2', Bool.or_self]
        simp
        exact ih
theorem cov_sum {l : List Bx} (hv : Valid l) : ∀ (r : List Nat), r.Pairwise (fun a b => ¬ a ∈ anc l b ∧ ¬ b ∈ anc l a) → (∀ x, x ∈ r → x < l.length) → (covL l (ni r)).length = sumC l r
  | [], _, _ => by
    rw [show ni [] = [] from rfl, cov_none]
    rfl
  | a :: r, hp, hr => by
    have hp' := List.pairwise_cons.1 hp
    have ih := cov_sum hv r hp'.2 fun x hx => hr x (List.mem_cons_of_mem _ hx)
    have e : covL l (ni (a :: r)) = (List.range l.length).filter fun i => arB l a i || covB l (ni r) i := by
      unfold covL
      apply List.filter_congr
      intro i _
      rfl
    rw [e, filter_or, sumC_cons, ← ih]
    · rfl
    · intro i hi
      rw [List.mem_range] at hi
      rintro ⟨h1, h2⟩
      rw [arB_anc] at h1
      obtain ⟨m, hm, h3⟩ := List.any_eq_true.1 h2
      rw [arB_anc] at h3
      obtain ⟨k, hk, rfl⟩ := mem_ni.1 hm
      rw [Int.toNat_natCast] at h3
      have hak := hp'.1 k hk
      -- of two boxes around one, one is around the other
      have key : ∀ (a k : Nat), a ≤ k → k < l.length → a ∈ anc l i → k ∈ anc l i → a ∈ anc l k := by
        intro a k hak hkl ha hk
        have hki := anc_le _ (hv.down hi) _ hk
        obtain ⟨d, hd⟩ : ∃ d, i = k + d := ⟨i - k, by omega⟩
        exact between hv d k (by omega) hak (by rw [← hd]; exact ha)
      have hkl := hr k (List.mem_cons_of_mem _ hk)
      have hal := hr a List.mem_cons_self
      rcases Nat.le_total a k with h | h
      · exact hak.1 (key a k h hkl h1 h3)
      · exact hak.2 (key k a h hal h3 h1)
theorem pairwise_of : ∀ (r : List Nat) (R : Nat → Nat → Prop), r.Pairwise (· < ·) → (∀ a b, a ∈ r → b ∈ r → a < b → R a b) → r.Pairwise R
  | [], _, _, _ => List.Pairwise.nil
  | x :: r, R, h, hR => by
    have h' := List.pairwise_cons.1 h
    exact List.pairwise_cons.2 ⟨fun y hy => hR x y List.mem_cons_self (List.mem_cons_of_mem _ hy) (h'.1 y hy), pairwise_of r R h'.2 fun a b ha hb => hR a b (List.mem_cons_of_mem _ ha) (List.mem_cons_of_mem _ hb)⟩
theorem dirty_sum {l : List Bx} {ms : List Int} (hv : Valid l) (hm : inMarks l ms) : sumC l (rootsL l ms) = (covL l ms).length := by
  rw [← cov_roots hv hm]
  symm
  apply cov_sum hv
  · apply pairwise_of _ _ (roots_sorted _ _)
    intro a b ha hb hlt
    exact ⟨fun h => by have := roots_apart ha hb h; omega, fun h => by have := roots_apart hb ha h; omega⟩
  · exact fun x hx => (mem_roots.1 hx).1
/-- the roots that are left if a box is clean -/
def cleanL (l : List Bx) (ms : List Int) (a : Nat) : List Nat := (rootsL l ms).filter fun i => !arB l a i
theorem mem_clean {l : List Bx} {ms : List Int} {a i : Nat} : i ∈ cleanL l ms a ↔ i ∈ rootsL l ms ∧ ¬ a ∈ anc l i := by
  unfold cleanL
  rw [List.mem_filter]
  constructor
  · rintro ⟨h1, h2⟩
    exact ⟨h1, fun h => by rw [arB_anc.2 h] at h2; cases h2⟩
  · rintro ⟨h1, h2⟩
    refine ⟨h1, ?_⟩
    have : arB l a i = false := by
      rw [Bool.eq_false_iff]
      exact fun h => h2 (arB_anc.1 h)
    rw [this]
    rfl
theorem clean_first {l : List Bx} {ms : List Int} (hv : Valid l) : cleanL l ms 0 = [] := by
  rw [List.eq_nil_iff_forall_not_mem]
  intro i h
  have := mem_clean.1 h
  exact this.2 (anc_zero hv i (mem_roots.1 this.1).1)
/-- some of the roots are their own roots -/
theorem roots_some {l : List Bx} {ms : List Int} {r : List Nat} (hs : r.Pairwise (· < ·)) (hr : ∀ x, x ∈ r → x ∈ rootsL l ms) : rootsL l (ni r) = r := by
  apply sorted_ext _ _ (roots_sorted _ _) hs
  intro i
  constructor
  · exact fun h => mem_ni_nat.1 (mem_roots.1 h).2.1
  · intro h
    refine mem_roots.2 ⟨(mem_roots.1 (hr i h)).1, mem_ni_nat.2 h, fun m hm ha => ?_⟩
    obtain ⟨k, hk, rfl⟩ := mem_ni.1 hm
    rw [roots_apart (hr k hk) (hr i h) (by simpa using ha)]
theorem clean_head {l : List Bx} {ms : List Int} (hv : Valid l) {x : Nat} {r : List Nat} (hs : (x :: r).Pairwise (· < ·)) (hr : ∀ y, y ∈ x :: r → y ∈ rootsL l ms) : cleanL l (ni (x :: r)) x = r := by
  unfold cleanL
  rw [roots_some hs hr]
  have hx := hr x List.mem_cons_self
  have h0 : arB l x x = true := arB_anc.2 (anc_self (hv.down (mem_roots.1 hx).1))
  rw [List.filter_cons, h0]
  simp only [Bool.not_true, Bool.false_eq_true, if_false]
  rw [List.filter_eq_self]
  intro y hy
  have hlt := (List.pairwise_cons.1 hs).1 y hy
  have : arB l x y = false := by
    rw [Bool.eq_false_iff]
    intro h
    have := roots_apart hx (hr y (List.mem_cons_of_mem _ hy)) (arB_anc.1 h)
    omega
  rw [this]
  rfl
/-! ### a part, made box by box -/
def partToBx (l : List Bx) (a k j : Nat) : Bx := if j < k then (bx l (a + j)).at (par l (a + j) - a) else bx l (a + j)
def partTo (l : List Bx) (a k : Nat) : List Bx := (List.range (cntS l a)).map (partToBx l a k)
theorem partTo_length (l : List Bx) (a k : Nat) : (partTo l a k).length = cntS l a := by simp [partTo]
theorem partTo_get {l : List Bx} {a k j : Nat} (hj : j < cntS l a) : (partTo l a k)[j]? = some (partToBx l a k j) := by simp [partTo, hj]
theorem partTo_bx {l : List Bx} {a k j : Nat} (hj : j < cntS l a) : bx (partTo l a k) j = partToBx l a k j := bx_of (partTo_get hj)
theorem partTo_zero {l : List Bx} {a : Nat} : partTo l a 0 = (l.drop a).take (cntS l a) := by
  have hle := cntS_le l a
  apply List.ext_getElem?
  intro j
  rcases Nat.lt_or_ge j (cntS l a) with h | h
  · rw [partTo_get h, List.getElem?_take, if_pos h, List.getElem?_drop, bx_get (by omega)]
    unfold partToBx
    rw [if_neg (by omega)]
  · rw [List.getElem?_eq_none (by rw [partTo_length]; exact h), List.getElem?_eq_none (by rw [List.length_take]; omega)]
theorem partTo_succ {l : List Bx} {a k : Nat} : (partTo l a k).set k ({ bx (partTo l a k) k with parent := par l (a + k) - a }) = partTo l a (k + 1) := by
  apply List.ext_getElem?
  intro j
  rcases Nat.lt_or_ge j (cntS l a) with h | h
  · rw [partTo_get h, List.getElem?_set, partTo_length]
    by_cases h2 : k = j
    · subst h2
      rw [if_pos rfl, if_pos h, partTo_bx h]
      unfold partToBx
      rw [if_neg (Nat.lt_irrefl k), if_pos (Nat.lt_succ_self k)]
      rfl
    · rw [if_neg h2, partTo_get h]
      unfold partToBx
      by_cases h3 : j < k
      · rw [if_pos h3, if_pos (by omega)]
      · rw [if_neg h3, if_neg (by omega)]
  · rw [List.getElem?_eq_none (by rw [List.length_set, partTo_length]; exact h), List.getElem?_eq_none (by rw [partTo_length]; exact h)]
theorem partTo_full {l : List Bx} {a : Nat} (hc : 0 < cntS l a) : (partTo l a (cntS l a)).set 0 ({ bx (partTo l a (cntS l a)) 0 with parent := -1 }) = partL l a := by
  apply List.ext_getElem?
  intro j
  rcases Nat.lt_or_ge j (cntS l a) with h | h
  · have e : (partL l a)[j]? = some (partBx l a j) := by simp [partL, h]
    rw [e, List.getElem?_set, partTo_length]
    by_cases h2 : 0 = j
    · subst h2
      rw [if_pos rfl, if_pos h, partTo_bx h]
      unfold partToBx partBx
      rw [if_pos hc, if_pos rfl]
      rfl
    · rw [if_neg h2, partTo_get h]
      unfold partToBx partBx
      rw [if_pos h, if_neg (by omega)]
  · rw [List.getElem?_eq_none (by rw [List.length_set, partTo_length]; exact h), List.getElem?_eq_none (by rw [partL_length]; exact h)]
end Go.Proofs.Ytbkhbmcoococmaa
namespace Go.Proofs.Ytbkhbmcoococmaa
open Go Go.RowKit
set_option maxHeartbeats 1000000 in
theorem around_any {v : Value} {l : List Bx} {a i : Int} (w : World) (ha : 0 ≤ a) (h0 : 0 ≤ i) (hi : i < l.length) (hv : Rd w 9 v (Bs l)) (hd : Down l i.toNat) (hl : l.length ≤ 1048577) :
    Calls Try.prog 81 #[v, .int .i64 a, .int .i64 i] w fun e w' => e = .returned (.bool (arB l a.toNat i.toNat)) ∧ Ext w w' := by
  have hf : Hid (decide (a ∈ ni (anc l i.toNat).reverse) = arB l a.toNat i.toNat) := by
    show _ = _
    unfold arB
    rw [decide_eq_decide]
    obtain ⟨k, rfl⟩ := Int.eq_ofNat_of_zero_le ha
    rw [mem_ni_nat, List.mem_reverse, Int.toNat_natCast]
  go_enter Try.func81, Try.ntmps81
  go_wp2_with (fail)
  refine (path_int (l := l) (i := i) _ h0 hi hv hd hl).mono ?_
  rintro e w1 ⟨v1, rfl, ho, hx⟩
  go_wp2_with (fail)
  refine (Contains_any (l := ni (anc l i.toNat).reverse) a _ ho.rd).mono ?_
  rintro e w2 ⟨rfl, rfl⟩
  rw [hf.out]
  go_wp2
  go_ret
  exact ⟨rfl, hx⟩
def cntTo (l : List Bx) (a n : Nat) : Nat := ((List.range n).filter fun i => arB l a i).length
theorem cntTo_succ (l : List Bx) (a n : Nat) : cntTo l a (n + 1) = cntTo l a n + (if arB l a n then 1 else 0) := by
  unfold cntTo
  rw [List.range_succ, List.filter_append, List.length_append]
  by_cases h : arB l a n = true <;> simp [h]
theorem cntTo_le (l : List Bx) (a n : Nat) : cntTo l a n ≤ n := by
  have := List.length_filter_le (fun i => arB l a i) (List.range n)
  rw [List.length_range] at this
  exact this
set_option maxHeartbeats 1000000 in
theorem count_any {v : Value} {l : List Bx} {a : Int} (hv : Valid l) (w : World) (ha : 0 ≤ a) (hal : a < l.length) (hr : Rd w 9 v (Bs l)) :
    Calls Try.prog 70 #[v, .int .i64 a] w fun e w' => e = .returned (.int .i64 (cntS l a.toNat : Nat)) ∧ Ext w w' := by
  have hrd := hr
  obtain ⟨ad, c, rfl, hn, hc, _⟩ := hr.boxes
  unfold maxLen at hc
  have Hv := Lib.hid hv
  have Hl := Lib.hid hv.hi
  have hfin : Hid (cntTo l a.toNat l.length = cntS l a.toNat) := cnt_eq hv (by omega)
  clear hr hv
  go_enter Try.func70, Try.ntmps70
  go_wp2
  go_loopw [5, 9] (fun n i wr => ∃ k : Nat, i = .int .i64 k ∧ k ≤ l.length ∧ n = .int .i64 (cntTo l a.toNat k : Nat) ∧ Below w.heap.size w wr) (fun _ i _ => l.length - (intOf i).toNat)
  case atStart => exact ⟨0, rfl, Nat.zero_le _, rfl, Below.refl _ _⟩
  case round =>
    obtain ⟨k, rfl, hk, rfl, hb⟩ := hrel
    have hle := cntTo_le l a.toNat k
    have Hs := Lib.hid (cntTo_succ l a.toNat k)
    by_cases hlt : k < l.length
    · have hlti : (k : Int) < l.length := by omega
      have hll := Hl.out
      by_cases har : arB l a.toNat k = true
      · go_wp2_with (fail)
        refine (around_any (l := l) (a := a) (i := (k : Int)) _ ha (by omega) (by omega) (hrd.below hb (Nat.le_refl _)) (by rw [Int.toNat_natCast]; exact Hv.out.down hlt) (by omega)).mono ?_
        rintro e w2 ⟨he, hx⟩
        rw [Int.toNat_natCast, har] at he
        subst he
        have H2 := Lib.hid har
        clear har
        go_wp2
        go_roundw
        case rel => exact ⟨k + 1, by go_num, by omega, by rw [Hs.out, H2.out]; go_num, after hb hx (Nat.le_refl _)⟩
        case measure => simp [intOf]; omega
      · have har' : arB l a.toNat k = false := by simpa using har
        clear har
        go_wp2_with (fail)
        refine (around_any (l := l) (a := a) (i := (k : Int)) _ ha (by omega) (by omega) (hrd.below hb (Nat.le_refl _)) (by rw [Int.toNat_natCast]; exact Hv.out.down hlt) (by omega)).mono ?_
        rintro e w2 ⟨he, hx⟩
        rw [Int.toNat_natCast, har'] at he
        subst he
        have H2 := Lib.hid har'
        clear har'
        go_wp2
        go_roundw
        case rel => exact ⟨k + 1, by go_num, by omega, by rw [Hs.out, H2.out]; rfl, after hb hx (Nat.le_refl _)⟩
        case measure => simp [intOf]; omega
    · obtain rfl : k = l.length := by omega
      go_wp2
      go_ret
      exact ⟨by rw [hfin.out]; rfl, hb⟩
/-- how many boxes a box and all in it are, or -1 -/
def cntI (l : List Bx) (i : Int) : Int := if inB l i then (cntS l i.toNat : Nat) else -1
end Go.Proofs.Ytbkhbmcoococmaa
namespace Go.Proofs.Ytbkhbmcoococmaa
open Go Go.RowKit
theorem Keep.ext {k : Nat} {o : Obj} {w w' : World} (h : Keep k o w) (hx : Ext w w') : Keep k o w' := by
  unfold Keep
  rw [hx.block _ h.lt]
  exact h
theorem Keep.grown {k : Nat} {o : Obj} {w w' : World} {row : Option Nat} (h : Keep k o w) (hg : w.grownBy w' row) (hne : row ≠ some k) : Keep k o w' := by
  unfold Keep
  rw [hg.block k h.lt (fun e => hne e.symm)]
  exact h
/-- DirtyRoots and DirtyBoxes of any arguments -/
def drtL (l : List Bx) (ms : List Int) : List Nat := if mkB l ms then rootsL l ms else []
def dbxL (l : List Bx) (ms : List Int) : List Nat := if mkB l ms then covL l ms else []
def filTo (p : Nat → Bool) (k : Nat) : List Nat := (List.range k).filter p
theorem filTo_zero (p : Nat → Bool) : filTo p 0 = [] := rfl
theorem filTo_yes {p : Nat → Bool} {k : Nat} (h : p k = true) : filTo p (k + 1) = filTo p k ++ [k] := by
  unfold filTo
  rw [List.range_succ, List.filter_append]
  simp [h]
theorem filTo_no {p : Nat → Bool} {k : Nat} (h : p k = false) : filTo p (k + 1) = filTo p k := by
  unfold filTo
  rw [List.range_succ, List.filter_append]
  simp [h]
theorem filTo_le (p : Nat → Bool) (k : Nat) : (filTo p k).length ≤ k := by
  have := List.length_filter_le p (List.range k)
  rw [List.length_range] at this
  exact this
theorem rootB_any (l : List Bx) (ms : List Int) (k : Nat) : rootB l ms k = (decide ((k : Int) ∈ ms) && !ms.any fun m => decide (m ≠ (k : Int)) && arB l m.toNat k) := by
  unfold rootB
  congr 1
  rw [← any_not_all ms fun m => decide (m = (k : Int)) || !arB l m.toNat k]
  congr 2
  funext m
  by_cases h : m = (k : Int) <;> simp [h]
end Go.Proofs.Ytbkhbmcoococmaa
namespace Go.Proofs.Ytbkhbmcoococmaa
open Go Go.RowKit
/-- the boxes around a box, and the box itself, or none -/
def pathL (l : List Bx) (i : Int) : List Nat := if inB l i then (anc l i.toNat).reverse else []
def depI (l : List Bx) (i : Int) : Int := if inB l i then ((anc l i.toNat).length : Int) - 1 else -1
set_option maxHeartbeats 1000000 in
theorem PathTo_any {v : Value} {l : List Bx} (i : Int) (w : World) (hv : Rd w 9 v (Bs l)) :
    Calls Try.prog 33 #[v, .int .i64 i] w fun e w' => ∃ v', e = .returned v' ∧ Own w' w.heap.size 1 v' (Is (ni (pathL l i))) ∧ Ext w w' := by
  have hrd := hv
  by_cases h : inB l i = true
  · obtain ⟨hval, h0, hi⟩ := inB_iff.1 h
    have hd := hval.down (i := i.toNat) (by omega)
    have hl16 := hval.hi
    have hf : Hid (pathL l i = (anc l i.toNat).reverse) := by
      show _ = _
      unfold pathL
      rw [if_pos h]
    clear hval
    go_enter Try.func33, Try.ntmps33
    go_wp2_with (fail)
    refine (boxIn_any (l := l) i _ hrd).mono ?_
    rintro e w1 ⟨he, hb⟩
    rw [h] at he
    subst he
    clear h
    go_wp2_with (fail)
    refine (path_int (l := l) (i := i) _ h0 hi (hrd.below hb (Nat.le_refl _)) hd (by omega)).mono ?_
    rintro e w2 ⟨v2, rfl, ho, hx⟩
    go_wp2
    go_ret
    exact ⟨_, rfl, by rw [hf.out]; exact ho.weak hb.size, after hb hx (Nat.le_refl _)⟩
  · have h' : inB l i = false := by simpa using h
    have hf : Hid (pathL l i = []) := by
      show _ = _
      unfold pathL
      rw [h']
      rfl
    clear h
    go_enter Try.func33, Try.ntmps33
    go_wp2_with (fail)
    refine (boxIn_any (l := l) i _ hrd).mono ?_
    rintro e w1 ⟨he, hb⟩
    rw [h'] at he
    subst he
    clear h'
    go_wp2
    go_ret
    exact ⟨_, rfl, by rw [hf.out]; exact Own.nil _ _ _, hb⟩
/-- a valid tree, two numbers of its boxes, and the one is around the other -/
def isAr (l : List Bx) (a i : Int) : Bool := inB l a && (inB l i && arB l a.toNat i.toNat)
set_option maxHeartbeats 1000000 in
theorem IsAround_any {v : Value} {l : List Bx} (a i : Int) (w : World) (hv : Rd w 9 v (Bs l)) :
    Calls Try.prog 43 #[v, .int .i64 a, .int .i64 i] w fun e w' => e = .returned (.bool (isAr l a i)) ∧ Ext w w' := by
  have hrd := hv
  by_cases h : inB l a = true
  · by_cases h2 : inB l i = true
    · obtain ⟨hval, h0, hi⟩ := inB_iff.1 h2
      obtain ⟨_, ha0, _⟩ := inB_iff.1 h
      have hd := hval.down (i := i.toNat) (by omega)
      have hl16 := hval.hi
      have hf : Hid (isAr l a i = arB l a.toNat i.toNat) := by
        show _ = _
        unfold isAr
        rw [h, h2]
        rfl
      clear hval
      go_enter Try.func43, Try.ntmps43
      go_wp2_with (fail)
      refine (boxIn_any (l := l) a _ hrd).mono ?_
      rintro e w1 ⟨he, hb⟩
      rw [h] at he
      subst he
      clear h
      replace hrd := hrd.below hb (Nat.le_refl _)
      go_wp2_with (fail)
      refine (boxIn_any (l := l) i _ hrd).mono ?_
      rintro e w2 ⟨he, hx⟩
      rw [h2] at he
      subst he
      clear h2
      replace hrd := hrd.below hx (Nat.le_refl _)
      replace hb := after hb hx (Nat.le_refl _)
      clear hx
      go_wp2_with (fail)
      refine (around_any (l := l) (a := a) (i := i) _ ha0 h0 hi hrd hd (by omega)).mono ?_
      rintro e w3 ⟨rfl, hx⟩
      rw [← hf.out]
      go_wp2
      go_ret
      exact ⟨rfl, after hb hx (Nat.le_refl _)⟩
    · have h2' : inB l i = false := by simpa using h2
      have hf : Hid (isAr l a i = false) := by
        show _ = _
        unfold isAr
        rw [h2']
        simp
      clear h2
      go_enter Try.func43, Try.ntmps43
      go_wp2_with (fail)
      refine (boxIn_any (l := l) a _ hrd).mono ?_
      rintro e w1 ⟨he, hb⟩
      rw [h] at he
      subst he
      clear h
      replace hrd := hrd.below hb (Nat.le_refl _)
      go_wp2_with (fail)
      refine (boxIn_any (l := l) i _ hrd).mono ?_
      rintro e w2 ⟨he, hx⟩
      rw [h2'] at he
      subst he
      clear h2'
      go_wp2
      go_ret
      exact ⟨by rw [hf.out]; rfl, after hb hx (Nat.le_refl _)⟩
  · have h' : inB l a = false := by simpa using h
    have hf : Hid (isAr l a i = false) := by
      show _ = _
      unfold isAr
      rw [h']
      rfl
    clear h
    go_enter Try.func43, Try.ntmps43
    go_wp2_with (fail)
    refine (boxIn_any (l := l) a _ hrd).mono ?_
    rintro e w1 ⟨he, hb⟩
    rw [h'] at he
    subst he
    clear h'
    go_wp2
    go_ret
    exact ⟨by rw [hf.out]; rfl, hb⟩
end Go.Proofs.Ytbkhbmcoococmaa
