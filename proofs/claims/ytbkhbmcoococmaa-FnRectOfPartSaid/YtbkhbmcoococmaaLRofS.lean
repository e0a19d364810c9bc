/-
  The laws FnRectOfScreen and FnRectOfPart: the walks.
-/
import Derived.Test.YtbkhbmcoococmaaRof
import Derived.Test.YtbkhbmcoococmaaTre
import Derived.Test.YtbkhbmcoococmaaAg
import Derived.Test.YtbkhbmcoococmaaPart
import Derived.Test.YtbkhbmcoococmaaHitI
import Derived.Test.YtbkhbmcoococmaaAb
namespace Go.Proofs.Ytbkhbmcoococmaa
open Go Go.RowKit

theorem roB_iff {l : List Bx} {sw sh i : Int} : roB l sw sh i = true ↔ scrB l sw sh = true ∧ 0 ≤ i ∧ i < l.length := by
  unfold roB
  rw [Bool.and_eq_true, inR_iff]
  constructor
  · rintro ⟨h, h1, h2⟩
    exact ⟨h, h1, by omega⟩
  · rintro ⟨h, h1, h2⟩
    exact ⟨h, h1, by omega⟩
theorem roR_zero {l : List Bx} {sw sh : Int} (h : scrB l sw sh = true) : roB l sw sh 0 = true ∧ roR l sw sh 0 = ⟨0, 0, sw, sh⟩ := by
  obtain ⟨hval, hsw, hsh⟩ := scrB_iff.1 h
  have hlo := hval.lo
  have h0 : roB l sw sh 0 = true := roB_iff.2 ⟨h, by omega, by omega⟩
  refine ⟨h0, ?_⟩
  rw [roR_t h0]
  exact rect_root hval _ _
theorem hit_zero {l : List Bx} {sw sh : Int} (h : scrB l sw sh = true) : decide (0 ≤ hitI l sw sh 0 0) = (decide (0 < sw) && decide (0 < sh)) := by
  obtain ⟨hval, hsw, hsh⟩ := scrB_iff.1 h
  have hs := hit_screen hval sw sh 0 0
  have hg := hitTo_ge l sw sh 0 0 l.length
  rw [hitI_t h]
  unfold hasB at hs
  dsimp only at hs
  generalize hitTo l sw sh 0 0 l.length = k at *
  by_cases h1 : 0 < sw
  · by_cases h2 : 0 < sh
    · simp [h1, h2] at hs ⊢
      omega
    · simp [h1, h2] at hs ⊢
      omega
  · simp [h1] at hs ⊢
    omega
set_option maxRecDepth 100000 in
set_option maxHeartbeats 8000000 in
theorem FnRectOfScreen_any {v : Value} (w : World) (hv : RdBytes w v) :
    Calls Try.prog 5 #[v] w fun e w' => e = .returned (.bool true) ∧ Ext w w' := by
  have hv2 := hv
  obtain ⟨ad, n, c, rfl, hn, hc, _⟩ := hv
  unfold maxLen at hc
  by_cases hlen : 1048576 < n
  · have hlen' : (1048576 : Int) < n := by omega
    go_enter Try.func5, Try.ntmps5
    go_wp2
    go_ret
    exact ⟨rfl, Below.refl _ _⟩
  · have hlen' : ¬ ((1048576 : Int) < n) := by omega
    go_enter Try.func5, Try.ntmps5
    go_wp2_with (fail)
    refine (DrawRectOf_any _ hv2).mono ?_
    rintro e w1 ⟨v1, sw, sh, i, rfl, l, hl, hsw, hsh, hi, ho1, hb⟩
    have hrT := ho1.rd
    clear ho1 hv2
    have HRE := Lib.hid (fun h => roR_t (l := l) (sw := sw) (sh := sh) (i := i) h)
    go_wp2_with (fail)
    refine (RectOf_any (l := l) sw sh i _ hrT).mono ?_
    rintro e w2 ⟨rfl, hx⟩
    replace hb := after hb hx (Nat.le_refl _)
    replace hrT := hrT.below hx (Nat.le_refl _)
    clear hx
    have HS := Lib.hid (fun W (h : Rd W 9 v1 (Bs l)) => sRectOf_any (l := l) sw sh i W h (by omega))
    generalize roR l sw sh i = r at *
    cases hrb : roB l sw sh i with
    | false =>
      rw [hrb] at HS
      unfold Rc.agg
      go_upto_region 5 with fail
      have kA := Keep.new w2 (.cells #[.int .i64 r.x, .int .i64 r.y, .int .i64 r.w, .int .i64 r.h] 39)
      replace hb := hb.alloc hb.size (.cells #[.int .i64 r.x, .int .i64 r.y, .int .i64 r.w, .int .i64 r.h] 39)
      replace hrT := hrT.alloc (.cells #[.int .i64 r.x, .int .i64 r.y, .int .i64 r.w, .int .i64 r.h] 39)
      generalize w2.alloc (.cells #[.int .i64 r.x, .int .i64 r.y, .int .i64 r.w, .int .i64 r.h] 39) = W1 at *
      generalize w2.heap.size = gA at *
      go_wp2_with (fail)
      refine (HS.out _ hrT).mono ?_
      rintro e w2 ⟨rfl, hx⟩
      unfold Rc.agg
      replace hb := after hb hx (Nat.le_refl _)
      replace hrT := hrT.below hx (Nat.le_refl _)
      replace kA := keepE kA hx
      clear hx HS
      go_upto_region 6 with fail
      have kB := Keep.new w2 (.cells #[.int .i64 r.x, .int .i64 r.y, .int .i64 r.w, .int .i64 r.h] 39)
      replace kA := kA.alloc (.cells #[.int .i64 r.x, .int .i64 r.y, .int .i64 r.w, .int .i64 r.h] 39)
      replace hb := hb.alloc hb.size (.cells #[.int .i64 r.x, .int .i64 r.y, .int .i64 r.w, .int .i64 r.h] 39)
      replace hrT := hrT.alloc (.cells #[.int .i64 r.x, .int .i64 r.y, .int .i64 r.w, .int .i64 r.h] 39)
      generalize w2.alloc (.cells #[.int .i64 r.x, .int .i64 r.y, .int .i64 r.w, .int .i64 r.h] 39) = W2 at *
      generalize w2.heap.size = gB at *
      have a0 : W2.cell? ⟨gA, 0, none⟩ = some (.int .i64 r.x) := kA.cell 0
      have a1 : W2.cell? ⟨gA, 1, none⟩ = some (.int .i64 r.y) := kA.cell 1
      have a2 : W2.cell? ⟨gA, 2, none⟩ = some (.int .i64 r.w) := kA.cell 2
      have a3 : W2.cell? ⟨gA, 3, none⟩ = some (.int .i64 r.h) := kA.cell 3
      have b0 : W2.cell? ⟨gB, 0, none⟩ = some (.int .i64 r.x) := kB.cell 0
      have b1 : W2.cell? ⟨gB, 1, none⟩ = some (.int .i64 r.y) := kB.cell 1
      have b2 : W2.cell? ⟨gB, 2, none⟩ = some (.int .i64 r.w) := kB.cell 2
      have b3 : W2.cell? ⟨gB, 3, none⟩ = some (.int .i64 r.h) := kB.cell 3
      clear kB
      go_wp2
      go_ret
      exact ⟨by first | (simp; done) | rfl, hb⟩
    | true =>
      rw [hrb] at HS
      obtain ⟨hok, hi0, hi1⟩ := roB_iff.1 hrb
      unfold Rc.agg
      go_upto_region 5 with fail
      have kA := Keep.new w2 (.cells #[.int .i64 r.x, .int .i64 r.y, .int .i64 r.w, .int .i64 r.h] 39)
      replace hb := hb.alloc hb.size (.cells #[.int .i64 r.x, .int .i64 r.y, .int .i64 r.w, .int .i64 r.h] 39)
      replace hrT := hrT.alloc (.cells #[.int .i64 r.x, .int .i64 r.y, .int .i64 r.w, .int .i64 r.h] 39)
      generalize w2.alloc (.cells #[.int .i64 r.x, .int .i64 r.y, .int .i64 r.w, .int .i64 r.h] 39) = W1 at *
      generalize w2.heap.size = gA at *
      go_wp2_with (fail)
      refine (HS.out _ hrT).mono ?_
      rintro e w2 ⟨rfl, hx⟩
      unfold Rc.agg
      replace hb := after hb hx (Nat.le_refl _)
      replace hrT := hrT.below hx (Nat.le_refl _)
      replace kA := keepE kA hx
      clear hx HS
      go_upto_region 6 with fail
      have kB := Keep.new w2 (.cells #[.int .i64 r.x, .int .i64 r.y, .int .i64 r.w, .int .i64 r.h] 39)
      replace kA := kA.alloc (.cells #[.int .i64 r.x, .int .i64 r.y, .int .i64 r.w, .int .i64 r.h] 39)
      replace hb := hb.alloc hb.size (.cells #[.int .i64 r.x, .int .i64 r.y, .int .i64 r.w, .int .i64 r.h] 39)
      replace hrT := hrT.alloc (.cells #[.int .i64 r.x, .int .i64 r.y, .int .i64 r.w, .int .i64 r.h] 39)
      generalize w2.alloc (.cells #[.int .i64 r.x, .int .i64 r.y, .int .i64 r.w, .int .i64 r.h] 39) = W2 at *
      generalize w2.heap.size = gB at *
      have a0 : W2.cell? ⟨gA, 0, none⟩ = some (.int .i64 r.x) := kA.cell 0
      have a1 : W2.cell? ⟨gA, 1, none⟩ = some (.int .i64 r.y) := kA.cell 1
      have a2 : W2.cell? ⟨gA, 2, none⟩ = some (.int .i64 r.w) := kA.cell 2
      have a3 : W2.cell? ⟨gA, 3, none⟩ = some (.int .i64 r.h) := kA.cell 3
      have b0 : W2.cell? ⟨gB, 0, none⟩ = some (.int .i64 r.x) := kB.cell 0
      have b1 : W2.cell? ⟨gB, 1, none⟩ = some (.int .i64 r.y) := kB.cell 1
      have b2 : W2.cell? ⟨gB, 2, none⟩ = some (.int .i64 r.w) := kB.cell 2
      have b3 : W2.cell? ⟨gB, 3, none⟩ = some (.int .i64 r.h) := kB.cell 3
      clear kB
      have HZ := Lib.hid (roR_zero hok)
      have HH := Lib.hid (hit_zero hok)
      clear hok hi0 hi1 hrb HRE kA
      go_wp2_with (fail)
      refine (RectOf_any (l := l) sw sh 0 _ hrT).mono ?_
      rintro e w3 ⟨he, hx⟩
      rw [HZ.out.1, HZ.out.2] at he
      subst he
      replace hb := after hb hx (Nat.le_refl _)
      replace hrT := hrT.below hx (Nat.le_refl _)
      clear hx a0 a1 a2 a3 b0 b1 b2 b3 HZ
      rw [show (⟨0, 0, sw, sh⟩ : Rc).agg = .agg #[.int .i64 0, .int .i64 0, .int .i64 sw, .int .i64 sh] from rfl]
      go_upto_region 9 with fail
      have kC := Keep.new w3 (.cells #[.int .i64 0, .int .i64 0, .int .i64 sw, .int .i64 sh] 39)
      replace hb := hb.alloc hb.size (.cells #[.int .i64 0, .int .i64 0, .int .i64 sw, .int .i64 sh] 39)
      replace hrT := hrT.alloc (.cells #[.int .i64 0, .int .i64 0, .int .i64 sw, .int .i64 sh] 39)
      generalize w3.alloc (.cells #[.int .i64 0, .int .i64 0, .int .i64 sw, .int .i64 sh] 39) = W3 at *
      generalize w3.heap.size = gC at *
      have c0 : W3.cell? ⟨gC, 0, none⟩ = some (.int .i64 0) := kC.cell 0
      have c1 : W3.cell? ⟨gC, 1, none⟩ = some (.int .i64 0) := kC.cell 1
      have c2 : W3.cell? ⟨gC, 2, none⟩ = some (.int .i64 sw) := kC.cell 2
      have c3 : W3.cell? ⟨gC, 3, none⟩ = some (.int .i64 sh) := kC.cell 3
      clear kC
      go_wp2_with (fail)
      refine (HitBox_any (l := l) sw sh 0 0 _ hrT).mono ?_
      rintro e w4 ⟨rfl, hx⟩
      replace hb := after hb hx (Nat.le_refl _)
      clear hx c0 c1 c2 c3 hrT
      generalize hitI l sw sh 0 0 = k at *
      by_cases h1 : 0 < sw
      · by_cases h2 : 0 < sh
        · have hk : 0 ≤ k := by
            have := HH.out
            simp [h1, h2] at this
            omega
          clear HH
          go_wp2
          go_ret
          exact ⟨by first | (simp; done) | (simp; omega), hb⟩
        · have hk : ¬ 0 ≤ k := by
            have := HH.out
            simp [h1, h2] at this
            omega
          clear HH
          go_wp2
          go_ret
          exact ⟨by first | (simp; done) | (simp; omega), hb⟩
      · have hk : ¬ 0 ≤ k := by
          have := HH.out
          simp [h1] at this
          omega
        clear HH
        go_wp2
        go_ret
        exact ⟨by first | (simp; done) | (simp; omega), hb⟩
theorem part_scr {l : List Bx} {sw sh : Int} {a : Nat} (h : scrB l sw sh = true) (ha : a < l.length) (hw : (rect l sw sh a).w ≤ 10000) (hh : (rect l sw sh a).h ≤ 10000) : scrB (partL l a) (rect l sw sh a).w (rect l sw sh a).h = true := by
  obtain ⟨hval, hsw, hsh⟩ := scrB_iff.1 h
  have hp := rect_pos hval hsw hsh ha
  exact scrB_iff.2 ⟨part_valid hval ha, ⟨hp.1, hw⟩, ⟨hp.2, hh⟩⟩
set_option maxRecDepth 100000 in
set_option maxHeartbeats 20000000 in
theorem FnRectOfPart_any {v : Value} (w : World) (hv : RdBytes w v) :
    Calls Try.prog 7 #[v] w fun e w' => e = .returned (.bool true) ∧ Ext w w' := by
  have hv2 := hv
  obtain ⟨ad, n, c, rfl, hn, hc, _⟩ := hv
  unfold maxLen at hc
  by_cases hlen : 1048576 < n
  · have hlen' : (1048576 : Int) < n := by omega
    go_enter Try.func7, Try.ntmps7
    go_wp2
    go_ret
    exact ⟨rfl, Below.refl _ _⟩
  · have hlen' : ¬ ((1048576 : Int) < n) := by omega
    go_enter Try.func7, Try.ntmps7
    go_wp2_with (fail)
    refine (DrawRectOf_any _ hv2).mono ?_
    rintro e w1 ⟨v1, sw, sh, i, rfl, l, hl, hsw, hsh, hi, ho1, hb⟩
    have hrT := ho1.rd
    clear ho1 hv2
    have HRE := Lib.hid (fun h => roR_t (l := l) (sw := sw) (sh := sh) (i := i) h)
    go_wp2_with (fail)
    refine (RectOf_any (l := l) sw sh i _ hrT).mono ?_
    rintro e w2 ⟨rfl, hx⟩
    replace hb := after hb hx (Nat.le_refl _)
    replace hrT := hrT.below hx (Nat.le_refl _)
    clear hx
    have HS := Lib.hid (fun W (h : Rd W 9 v1 (Bs l)) => sRectOf_any (l := l) sw sh i W h (by omega))
    generalize roR l sw sh i = r at *
    cases hrb : roB l sw sh i with
    | false =>
      rw [hrb] at HS
      unfold Rc.agg
      go_upto_region 5 with fail
      have kA := Keep.new w2 (.cells #[.int .i64 r.x, .int .i64 r.y, .int .i64 r.w, .int .i64 r.h] 39)
      replace hb := hb.alloc hb.size (.cells #[.int .i64 r.x, .int .i64 r.y, .int .i64 r.w, .int .i64 r.h] 39)
      replace hrT := hrT.alloc (.cells #[.int .i64 r.x, .int .i64 r.y, .int .i64 r.w, .int .i64 r.h] 39)
      generalize w2.alloc (.cells #[.int .i64 r.x, .int .i64 r.y, .int .i64 r.w, .int .i64 r.h] 39) = W1 at *
      generalize w2.heap.size = gA at *
      go_wp2_with (fail)
      refine (HS.out _ hrT).mono ?_
      rintro e w2 ⟨rfl, hx⟩
      unfold Rc.agg
      replace hb := after hb hx (Nat.le_refl _)
      replace hrT := hrT.below hx (Nat.le_refl _)
      replace kA := keepE kA hx
      clear hx HS
      go_upto_region 6 with fail
      have kB := Keep.new w2 (.cells #[.int .i64 r.x, .int .i64 r.y, .int .i64 r.w, .int .i64 r.h] 39)
      replace kA := kA.alloc (.cells #[.int .i64 r.x, .int .i64 r.y, .int .i64 r.w, .int .i64 r.h] 39)
      replace hb := hb.alloc hb.size (.cells #[.int .i64 r.x, .int .i64 r.y, .int .i64 r.w, .int .i64 r.h] 39)
      replace hrT := hrT.alloc (.cells #[.int .i64 r.x, .int .i64 r.y, .int .i64 r.w, .int .i64 r.h] 39)
      generalize w2.alloc (.cells #[.int .i64 r.x, .int .i64 r.y, .int .i64 r.w, .int .i64 r.h] 39) = W2 at *
      generalize w2.heap.size = gB at *
      have a0 : W2.cell? ⟨gA, 0, none⟩ = some (.int .i64 r.x) := kA.cell 0
      have a1 : W2.cell? ⟨gA, 1, none⟩ = some (.int .i64 r.y) := kA.cell 1
      have a2 : W2.cell? ⟨gA, 2, none⟩ = some (.int .i64 r.w) := kA.cell 2
      have a3 : W2.cell? ⟨gA, 3, none⟩ = some (.int .i64 r.h) := kA.cell 3
      have b0 : W2.cell? ⟨gB, 0, none⟩ = some (.int .i64 r.x) := kB.cell 0
      have b1 : W2.cell? ⟨gB, 1, none⟩ = some (.int .i64 r.y) := kB.cell 1
      have b2 : W2.cell? ⟨gB, 2, none⟩ = some (.int .i64 r.w) := kB.cell 2
      have b3 : W2.cell? ⟨gB, 3, none⟩ = some (.int .i64 r.h) := kB.cell 3
      clear kB
      go_wp2
      go_ret
      exact ⟨by first | (simp; done) | rfl, hb⟩
    | true =>
      rw [hrb] at HS
      obtain ⟨hok, hi0, hi1⟩ := roB_iff.1 hrb
      unfold Rc.agg
      go_upto_region 5 with fail
      have kA := Keep.new w2 (.cells #[.int .i64 r.x, .int .i64 r.y, .int .i64 r.w, .int .i64 r.h] 39)
      replace hb := hb.alloc hb.size (.cells #[.int .i64 r.x, .int .i64 r.y, .int .i64 r.w, .int .i64 r.h] 39)
      replace hrT := hrT.alloc (.cells #[.int .i64 r.x, .int .i64 r.y, .int .i64 r.w, .int .i64 r.h] 39)
      generalize w2.alloc (.cells #[.int .i64 r.x, .int .i64 r.y, .int .i64 r.w, .int .i64 r.h] 39) = W1 at *
      generalize w2.heap.size = gA at *
      go_wp2_with (fail)
      refine (HS.out _ hrT).mono ?_
      rintro e w2 ⟨rfl, hx⟩
      unfold Rc.agg
      replace hb := after hb hx (Nat.le_refl _)
      replace hrT := hrT.below hx (Nat.le_refl _)
      replace kA := keepE kA hx
      clear hx HS
      go_upto_region 6 with fail
      have kB := Keep.new w2 (.cells #[.int .i64 r.x, .int .i64 r.y, .int .i64 r.w, .int .i64 r.h] 39)
      replace kA := kA.alloc (.cells #[.int .i64 r.x, .int .i64 r.y, .int .i64 r.w, .int .i64 r.h] 39)
      replace hb := hb.alloc hb.size (.cells #[.int .i64 r.x, .int .i64 r.y, .int .i64 r.w, .int .i64 r.h] 39)
      replace hrT := hrT.alloc (.cells #[.int .i64 r.x, .int .i64 r.y, .int .i64 r.w, .int .i64 r.h] 39)
      generalize w2.alloc (.cells #[.int .i64 r.x, .int .i64 r.y, .int .i64 r.w, .int .i64 r.h] 39) = W2 at *
      generalize w2.heap.size = gB at *
      have a0 : W2.cell? ⟨gA, 0, none⟩ = some (.int .i64 r.x) := kA.cell 0
      have a1 : W2.cell? ⟨gA, 1, none⟩ = some (.int .i64 r.y) := kA.cell 1
      have a2 : W2.cell? ⟨gA, 2, none⟩ = some (.int .i64 r.w) := kA.cell 2
      have a3 : W2.cell? ⟨gA, 3, none⟩ = some (.int .i64 r.h) := kA.cell 3
      have b0 : W2.cell? ⟨gB, 0, none⟩ = some (.int .i64 r.x) := kB.cell 0
      have b1 : W2.cell? ⟨gB, 1, none⟩ = some (.int .i64 r.y) := kB.cell 1
      have b2 : W2.cell? ⟨gB, 2, none⟩ = some (.int .i64 r.w) := kB.cell 2
      have b3 : W2.cell? ⟨gB, 3, none⟩ = some (.int .i64 r.h) := kB.cell 3
      clear kB
      have hrr := HRE.out hrb
      have hbig : ¬ (r.w ≤ 10000 ∧ r.h ≤ 10000) ∨ (r.w ≤ 10000 ∧ r.h ≤ 10000) := by
        by_cases h : r.w ≤ 10000 ∧ r.h ≤ 10000
        · exact .inr h
        · exact .inl h
      rcases hbig with hbig | ⟨hw, hh⟩
      · clear hok hi0 hi1 hrb HRE kA hrr hrT
        by_cases h1 : r.w ≤ 10000
        · have h2 : ¬ r.h ≤ 10000 := fun h => hbig ⟨h1, h⟩
          clear hbig
          go_wp2
          go_ret
          exact ⟨by first | (simp; done) | rfl, hb⟩
        · clear hbig
          go_wp2
          go_ret
          exact ⟨by first | (simp; done) | rfl, hb⟩
      · obtain ⟨a, rfl⟩ := Int.eq_ofNat_of_zero_le hi0
        rw [Int.toNat_natCast] at hrr
        have hal : a < l.length := by omega
        obtain ⟨hval, hsw2, hsh2⟩ := scrB_iff.1 hok
        have HV := Lib.hid hval
        have HIN := Lib.hid (show inB l (a : Int) = true from inB_iff.2 ⟨hval, by omega, by omega⟩)
        have HPS := Lib.hid (show scrB (partL l a) r.w r.h = true by rw [hrr] at hw hh ⊢; exact part_scr hok hal hw hh)
        have HPR := Lib.hid (fun j (hj : j < cntS l a) => show rect l sw sh (a + j) = shR (rect (partL l a) r.w r.h j) r by rw [hrr]; exact part_rect hval hal j j (Nat.le_refl _) hj)
        have HRO := Lib.hid (fun j (hj : j < cntS l a) => show roB l sw sh ((a : Int) + (j : Int)) = true ∧ roR l sw sh ((a : Int) + (j : Int)) = rect l sw sh (a + j) by
          have hle := cntS_le l a
          have hB : roB l sw sh ((a : Int) + (j : Int)) = true := roB_iff.2 ⟨hok, by omega, by omega⟩
          refine ⟨hB, ?_⟩
          rw [roR_t hB]
          congr 1)
        have hcl := cntS_le l a
        have HRX := Lib.hid (fun j (hj : j < cntS l a) => rect_ok hval hsw2 hsh2 (k := a + j) (by have := cntS_le l a; omega))
        have HRA := Lib.hid (show RB 100000 r by rw [hrr]; exact rect_ok hval hsw2 hsh2 hal)
        clear hok hval hsw2 hsh2 hrr hrb HRE
        go_wp2_with (fail)
        refine (PartOf_any (l := l) (a : Int) _ hrT).mono ?_
        rintro e w3 ⟨v3, rfl, ho3, hx⟩
        rw [HIN.out, orNo_t, Int.toNat_natCast] at ho3
        rw [HIN.out]
        replace hb := after hb hx (Nat.le_refl _)
        replace hrT := hrT.below hx (Nat.le_refl _)
        replace kA := keepE kA hx
        have hrP := ho3.rd
        clear ho3 hx a0 a1 a2 a3 b0 b1 b2 b3 HIN
        have a0 := kA.cell 0
        have a1 := kA.cell 1
        have a2 := kA.cell 2
        have a3 := kA.cell 3
        obtain ⟨aP, cP, rfl, hnP, hcP, _⟩ := hrP.boxes
        rw [partL_length] at hnP hrP ⊢
        unfold maxLen at hcP
        go_wp2_with (fail)
        refine (LayoutTree_any (l := partL l a) r.w r.h _ hrP).mono ?_
        rintro e w4 ⟨v4, rfl, ho4, hx⟩
        rw [rectsOr_t HPS.out] at ho4
        replace hb := after hb hx (Nat.le_refl _)
        replace hrT := hrT.below hx (Nat.le_refl _)
        replace kA := keepE kA hx
        have hlp : 0 < (partL l a).length := (part_valid HV.out hal).lo
        obtain ⟨bO, oO, cO, rfl, hnO, hcO, hR⟩ := rectS ho4.rd hlp
        rw [partL_length] at hlp hnO ⊢
        clear ho4 hx a0 a1 a2 a3 hrP
        have HRR := Lib.hid hR
        have HTT := Lib.hid hrT
        have HKA := Lib.hid kA
        have HPL := Lib.hid (partL_length l a)
        clear hR hrT kA
        generalize cntS l a = n at *
        go_wp2
        go_loopw [14] (fun m wr => ∃ j : Nat, m = .int .i64 (j : Int) ∧ j ≤ n ∧ Below w4.heap.size w4 wr) (fun m _ => n - (intOf m).toNat)
        case atStart => exact ⟨0, by go_num, Nat.zero_le _, Below.refl _ _⟩
        case round =>
          obtain ⟨j, rfl, hj, hb6⟩ := hrel
          by_cases hlt : j < n
          · have hji : (j : Int) < n := by omega
            have hj0 : (0 : Int) ≤ (j : Int) := by omega
            have hT := HTT.out.below hb6 (Nat.le_refl _)
            have hwr : IntKind.i64.wrap ((a : Int) + (j : Int)) = (a : Int) + (j : Int) := by rw [IntKind.wrap_i64]; omega
            go_wp2_with (fail)
            refine (RectOf_any (l := l) sw sh ((a : Int) + (j : Int)) _ hT).mono ?_
            rintro e w6 ⟨he, hx⟩
            rw [(HRO.out j hlt).1, (HRO.out j hlt).2, HPR.out j hlt] at he
            subst he
            have hro := HRX.out j hlt
            rw [HPR.out j hlt] at hro
            have hra := HRA.out
            replace hb6 := after hb6 hx (Nat.le_refl _)
            clear hx hT
            obtain ⟨t, ht⟩ : ∃ t, rect (partL l a) r.w r.h j = t := ⟨_, rfl⟩
            obtain ⟨c0, c1, c2, c3⟩ := (HRR.out.below hb6 (Nat.le_refl _)).cs j (by rw [HPL.out]; exact hlt)
            rw [ht] at c0 c1 c2 c3 hro ⊢
            clear ht
            rw [show (shR t r).agg = .agg #[.int .i64 (t.x + r.x), .int .i64 (t.y + r.y), .int .i64 t.w, .int .i64 t.h] from rfl]
            obtain ⟨g1, g2, g3, g4, _⟩ := hro
            have g1' : 0 ≤ t.x + r.x := g1
            have g2' : t.x + r.x ≤ 100000 := g2
            have g3' : 0 ≤ t.y + r.y := g3
            have g4' : t.y + r.y ≤ 100000 := g4
            have hw1 : IntKind.i64.wrap (t.x + r.x) = t.x + r.x := by rw [IntKind.wrap_i64]; omega
            have hw2 : IntKind.i64.wrap (t.y + r.y) = t.y + r.y := by rw [IntKind.wrap_i64]; omega
            clear hra g1 g2 g3 g4 g1' g2' g3' g4' hwr
            have kA := keepE HKA.out hb6
            have kX := Keep.new w6 (.cells #[.int .i64 (t.x + r.x), .int .i64 (t.y + r.y), .int .i64 t.w, .int .i64 t.h] 39)
            have hx6 := Below.of_alloc w6 (.cells #[.int .i64 (t.x + r.x), .int .i64 (t.y + r.y), .int .i64 t.w, .int .i64 t.h] 39)
            replace kA := kA.alloc (.cells #[.int .i64 (t.x + r.x), .int .i64 (t.y + r.y), .int .i64 t.w, .int .i64 t.h] 39)
            replace hb6 := hb6.alloc hb6.size (.cells #[.int .i64 (t.x + r.x), .int .i64 (t.y + r.y), .int .i64 t.w, .int .i64 t.h] 39)
            replace c0 := cell_below hx6 c0
            replace c1 := cell_below hx6 c1
            replace c2 := cell_below hx6 c2
            replace c3 := cell_below hx6 c3
            clear hx6
            go_upto_region 14 with fail
            generalize w6.alloc (.cells #[.int .i64 (t.x + r.x), .int .i64 (t.y + r.y), .int .i64 t.w, .int .i64 t.h] 39) = W6 at *
            generalize w6.heap.size = gX at *
            have x0 := kX.cell 0
            have x1 := kX.cell 1
            have x2 := kX.cell 2
            have x3 := kX.cell 3
            have a0 := kA.cell 0
            have a1 := kA.cell 1
            clear kX kA
            refine wp_region_held_drew (S := fun w' => Below W6.heap.size W6 w') (by kernel_rfl) (Below.refl _ _).drew (fun hS => ?_)
            change wpAnyH _ _ _ _ _ _ _ _ W6.drew
            generalize W6.drew = wd at *
            refine hTake (by kernel_rfl) (fun d _ _ _ _ h => by cases d <;> exact h) hS 0 (some 101) _ rfl (v := ?_) (by kernel_rfl) ?_ ?_
            rotate_left
            · intro _ _; go_simp; first | done | with_reducible rfl
            simp only [Act.put, List.setIfInBounds_toArray, List.set_cons_zero, List.set_cons_succ]
            refine hTake (by kernel_rfl) (fun d _ _ _ _ h => by cases d <;> exact h) hS 1 (some 102) _ rfl (v := ?_) (by kernel_rfl) ?_ ?_
            rotate_left
            · intro _ _; go_simp; first | done | with_reducible rfl
            simp only [Act.put, List.setIfInBounds_toArray, List.set_cons_zero, List.set_cons_succ]
            refine hTake (by kernel_rfl) (fun d _ _ _ _ h => by cases d <;> exact h) hS 2 (some 103) _ rfl (v := ?_) (by kernel_rfl) ?_ ?_
            rotate_left
            · intro _ _; go_simp; first | done | with_reducible rfl
            simp only [Act.put, List.setIfInBounds_toArray, List.set_cons_zero, List.set_cons_succ]
            refine hTake (by kernel_rfl) (fun d _ _ _ _ h => by cases d <;> exact h) hS 3 (some 104) _ rfl (v := ?_) (by kernel_rfl) ?_ ?_
            rotate_left
            · intro w9 hS9; have y0 := cell_below hS9 x0; have y1 := cell_below hS9 x1; have y2 := cell_below hS9 x2; have y3 := cell_below hS9 x3; go_simp; first | done | with_reducible rfl
            simp only [Act.put, List.setIfInBounds_toArray, List.set_cons_zero, List.set_cons_succ]
            refine hTake (by kernel_rfl) (fun d _ _ _ _ h => by cases d <;> exact h) hS 4 (some 105) _ rfl (v := ?_) (by kernel_rfl) ?_ ?_
            rotate_left
            · intro _ _; go_simp; first | done | with_reducible rfl
            simp only [Act.put, List.setIfInBounds_toArray, List.set_cons_zero, List.set_cons_succ]
            refine hTake (by kernel_rfl) (fun d _ _ _ _ h => by cases d <;> exact h) hS 5 (some 106) _ rfl (v := ?_) (by kernel_rfl) ?_ ?_
            rotate_left
            · intro _ _; go_simp; first | done | with_reducible rfl
            simp only [Act.put, List.setIfInBounds_toArray, List.set_cons_zero, List.set_cons_succ]
            refine hTake (by kernel_rfl) (fun d _ _ _ _ h => by cases d <;> exact h) hS 6 (some 107) _ rfl (v := ?_) (by kernel_rfl) ?_ ?_
            rotate_left
            · intro _ _; go_simp; first | done | with_reducible rfl
            simp only [Act.put, List.setIfInBounds_toArray, List.set_cons_zero, List.set_cons_succ]
            refine hTake (by kernel_rfl) (fun d _ _ _ _ h => by cases d <;> exact h) hS 7 (some 108) _ rfl (v := ?_) (by kernel_rfl) ?_ ?_
            rotate_left
            · intro _ _; go_simp; first | done | with_reducible rfl
            simp only [Act.put, List.setIfInBounds_toArray, List.set_cons_zero, List.set_cons_succ]
            refine hTake (by kernel_rfl) (fun d _ _ _ _ h => by cases d <;> exact h) hS 8 (some 109) _ rfl (v := ?_) (by kernel_rfl) ?_ ?_
            rotate_left
            · intro w9 hS9; have y := cell_below hS9 c0; go_simp; first | done | with_reducible rfl
            simp only [Act.put, List.setIfInBounds_toArray, List.set_cons_zero, List.set_cons_succ]
            refine hTake (by kernel_rfl) (fun d _ _ _ _ h => by cases d <;> exact h) hS 9 (some 110) _ rfl (v := ?_) (by kernel_rfl) ?_ ?_
            rotate_left
            · intro _ _; go_simp; first | done | with_reducible rfl
            simp only [Act.put, List.setIfInBounds_toArray, List.set_cons_zero, List.set_cons_succ]
            refine hTake (by kernel_rfl) (fun d _ _ _ _ h => by cases d <;> exact h) hS 10 (some 111) _ rfl (v := ?_) (by kernel_rfl) ?_ ?_
            rotate_left
            · intro w9 hS9; have y := cell_below hS9 a0; go_simp; first | done | with_reducible rfl
            simp only [Act.put, List.setIfInBounds_toArray, List.set_cons_zero, List.set_cons_succ]
            refine hTake (by kernel_rfl) (fun d _ _ _ _ h => by cases d <;> exact h) hS 11 (some 112) _ rfl (v := ?_) (by kernel_rfl) ?_ ?_
            rotate_left
            · intro _ _; go_simp; first | done | with_reducible rfl
            simp only [Act.put, List.setIfInBounds_toArray, List.set_cons_zero, List.set_cons_succ]
            refine hTake (by kernel_rfl) (fun d _ _ _ _ h => by cases d <;> exact h) hS 12 (some 113) _ rfl (v := ?_) (by kernel_rfl) ?_ ?_
            rotate_left
            · intro _ _; go_simp; first | done | with_reducible rfl
            simp only [Act.put, List.setIfInBounds_toArray, List.set_cons_zero, List.set_cons_succ]
            refine hTake (by kernel_rfl) (fun d _ _ _ _ h => by cases d <;> exact h) hS 13 (some 114) _ rfl (v := ?_) (by kernel_rfl) ?_ ?_
            rotate_left
            · intro _ _; go_simp; first | done | with_reducible rfl
            simp only [Act.put, List.setIfInBounds_toArray, List.set_cons_zero, List.set_cons_succ]
            refine hTake (by kernel_rfl) (fun d _ _ _ _ h => by cases d <;> exact h) hS 14 (some 115) _ rfl (v := ?_) (by kernel_rfl) ?_ ?_
            rotate_left
            · intro _ _; go_simp; first | done | with_reducible rfl
            simp only [Act.put, List.setIfInBounds_toArray, List.set_cons_zero, List.set_cons_succ]
            refine hTake (by kernel_rfl) (fun d _ _ _ _ h => by cases d <;> exact h) hS 15 (some 116) _ rfl (v := ?_) (by kernel_rfl) ?_ ?_
            rotate_left
            · intro _ _; go_simp; first | done | with_reducible rfl
            simp only [Act.put, List.setIfInBounds_toArray, List.set_cons_zero, List.set_cons_succ]
            refine hTake (by kernel_rfl) (fun d _ _ _ _ h => by cases d <;> exact h) hS 16 (some 117) _ rfl (v := ?_) (by kernel_rfl) ?_ ?_
            rotate_left
            · intro w9 hS9; have y := cell_below hS9 c1; go_simp; first | done | with_reducible rfl
            simp only [Act.put, List.setIfInBounds_toArray, List.set_cons_zero, List.set_cons_succ]
            refine hTake (by kernel_rfl) (fun d _ _ _ _ h => by cases d <;> exact h) hS 17 (some 118) _ rfl (v := ?_) (by kernel_rfl) ?_ ?_
            rotate_left
            · intro _ _; go_simp; first | done | with_reducible rfl
            simp only [Act.put, List.setIfInBounds_toArray, List.set_cons_zero, List.set_cons_succ]
            refine hTake (by kernel_rfl) (fun d _ _ _ _ h => by cases d <;> exact h) hS 18 (some 119) _ rfl (v := ?_) (by kernel_rfl) ?_ ?_
            rotate_left
            · intro w9 hS9; have y := cell_below hS9 a1; go_simp; first | done | with_reducible rfl
            simp only [Act.put, List.setIfInBounds_toArray, List.set_cons_zero, List.set_cons_succ]
            refine hTake (by kernel_rfl) (fun d _ _ _ _ h => by cases d <;> exact h) hS 19 (some 120) _ rfl (v := ?_) (by kernel_rfl) ?_ ?_
            rotate_left
            · intro _ _; go_simp; first | done | with_reducible rfl
            simp only [Act.put, List.setIfInBounds_toArray, List.set_cons_zero, List.set_cons_succ]
            refine hTake (by kernel_rfl) (fun d _ _ _ _ h => by cases d <;> exact h) hS 20 (some 121) _ rfl (v := ?_) (by kernel_rfl) ?_ ?_
            rotate_left
            · intro _ _; go_simp; first | done | with_reducible rfl
            simp only [Act.put, List.setIfInBounds_toArray, List.set_cons_zero, List.set_cons_succ]
            refine hTake (by kernel_rfl) (fun d _ _ _ _ h => by cases d <;> exact h) hS 21 (some 122) _ rfl (v := ?_) (by kernel_rfl) ?_ ?_
            rotate_left
            · intro _ _; go_simp; first | done | with_reducible rfl
            simp only [Act.put, List.setIfInBounds_toArray, List.set_cons_zero, List.set_cons_succ]
            refine hTake (by kernel_rfl) (fun d _ _ _ _ h => by cases d <;> exact h) hS 22 (some 123) _ rfl (v := ?_) (by kernel_rfl) ?_ ?_
            rotate_left
            · intro _ _; go_simp; first | done | with_reducible rfl
            simp only [Act.put, List.setIfInBounds_toArray, List.set_cons_zero, List.set_cons_succ]
            refine hTake (by kernel_rfl) (fun d _ _ _ _ h => by cases d <;> exact h) hS 23 (some 124) _ rfl (v := ?_) (by kernel_rfl) ?_ ?_
            rotate_left
            · intro _ _; go_simp; first | done | with_reducible rfl
            simp only [Act.put, List.setIfInBounds_toArray, List.set_cons_zero, List.set_cons_succ]
            refine hTake (by kernel_rfl) (fun d _ _ _ _ h => by cases d <;> exact h) hS 24 (some 125) _ rfl (v := ?_) (by kernel_rfl) ?_ ?_
            rotate_left
            · intro w9 hS9; have y := cell_below hS9 c2; go_simp; first | done | with_reducible rfl
            simp only [Act.put, List.setIfInBounds_toArray, List.set_cons_zero, List.set_cons_succ]
            refine hTake (by kernel_rfl) (fun d _ _ _ _ h => by cases d <;> exact h) hS 25 (some 126) _ rfl (v := ?_) (by kernel_rfl) ?_ ?_
            rotate_left
            · intro _ _; go_simp; first | done | with_reducible rfl
            simp only [Act.put, List.setIfInBounds_toArray, List.set_cons_zero, List.set_cons_succ]
            refine hTake (by kernel_rfl) (fun d _ _ _ _ h => by cases d <;> exact h) hS 26 (some 127) _ rfl (v := ?_) (by kernel_rfl) ?_ ?_
            rotate_left
            · intro _ _; go_simp; first | done | with_reducible rfl
            simp only [Act.put, List.setIfInBounds_toArray, List.set_cons_zero, List.set_cons_succ]
            refine hTake (by kernel_rfl) (fun d _ _ _ _ h => by cases d <;> exact h) hS 27 (some 128) _ rfl (v := ?_) (by kernel_rfl) ?_ ?_
            rotate_left
            · intro _ _; go_simp; first | done | with_reducible rfl
            simp only [Act.put, List.setIfInBounds_toArray, List.set_cons_zero, List.set_cons_succ]
            refine hTake (by kernel_rfl) (fun d _ _ _ _ h => by cases d <;> exact h) hS 28 (some 129) _ rfl (v := ?_) (by kernel_rfl) ?_ ?_
            rotate_left
            · intro _ _; go_simp; first | done | with_reducible rfl
            simp only [Act.put, List.setIfInBounds_toArray, List.set_cons_zero, List.set_cons_succ]
            refine hTake (by kernel_rfl) (fun d _ _ _ _ h => by cases d <;> exact h) hS 29 (some 130) _ rfl (v := ?_) (by kernel_rfl) ?_ ?_
            rotate_left
            · intro w9 hS9; have y := cell_below hS9 c3; go_simp; first | done | with_reducible rfl
            simp only [Act.put, List.setIfInBounds_toArray, List.set_cons_zero, List.set_cons_succ]
            refine hTake (by kernel_rfl) (fun d _ _ _ _ h => by cases d <;> exact h) hS 30 (some 131) _ rfl (v := ?_) (by kernel_rfl) ?_ ?_
            rotate_left
            · intro _ _; go_simp; first | done | with_reducible rfl
            simp only [Act.put, List.setIfInBounds_toArray, List.set_cons_zero, List.set_cons_succ]
            refine hTake (by kernel_rfl) (fun d _ _ _ _ h => by cases d <;> exact h) hS 31 (some 132) _ rfl (v := ?_) (by kernel_rfl) ?_ ?_
            rotate_left
            · intro _ _; go_simp; first | done | with_reducible rfl
            simp only [Act.put, List.setIfInBounds_toArray, List.set_cons_zero, List.set_cons_succ]
            refine hTake (by kernel_rfl) (fun d _ _ _ _ h => by cases d <;> exact h) hS 32 (some 133) _ rfl (v := ?_) (by kernel_rfl) ?_ ?_
            rotate_left
            · intro _ _; go_simp; first | done | with_reducible rfl
            simp only [Act.put, List.setIfInBounds_toArray, List.set_cons_zero, List.set_cons_succ]
            clear x0 x1 x2 x3 a0 a1 c0 c1 c2 c3
            refine wpAnyH_done (by kernel_rfl) ?_ _
            replace hb6 := after hb6 hS (Nat.le_refl _)
            clear hS
            go_wp2
            go_roundw
            case rel => exact ⟨j + 1, by go_num, by omega, hb6⟩
            case measure => simp [intOf]; omega
          · obtain rfl : j = n := by omega
            have HBE := Lib.hid (hb.trans (hb6.mono hb.size))
            go_wp2
            go_ret
            exact ⟨by first | (simp; done) | (simp; omega), HBE.out⟩
end Go.Proofs.Ytbkhbmcoococmaa
