/-
  The laws FnStyleBoxSame, FnStyleBox and FnNaturalSizePad: the walks.
-/
import Derived.Test.YtedheddfalmjmaaLNat2
namespace Go.Proofs.Ytedheddfalmjmaa
open Go Go.RowKit

set_option maxHeartbeats 1000000 in
theorem DrawStyleBox_any {v : Value} (w : World) (hv : RdBytes w v) :
    Calls Try.prog 18 #[v] w fun e w' => ∃ (v' : Value) (i : Int) (x : Bx), e = .returned (.tuple #[v', .int .i64 i, x.agg]) ∧ ∃ l : List Bx, l.length ≤ 16 ∧ -1 ≤ i ∧ i ≤ 16 ∧ Own w' w.heap.size 9 v' (Bs l) ∧ Ext w w' := by
  have hv0 := hv.ext (Below.of_alloc w (.cells zb.arr 29))
  have k0 : Keep w.heap.size (.cells zb.arr 29) (w.alloc (.cells zb.arr 29)) := Keep.new _ _
  have b0 : Below w.heap.size w (w.alloc (.cells zb.arr 29)) := Below.of_alloc _ _
  clear hv
  go_enter Try.func18, Try.ntmps18
  go_wp2_with (fail)
  change Calls _ _ _ (w.alloc (.cells zb.arr 29)) _
  generalize hW0 : w.alloc (.cells zb.arr 29) = W0 at *
  have hs0 : w.heap.size < W0.heap.size := k0.lt
  clear hW0
  refine (DrawAddBox_any _ hv0).mono ?_
  rintro e w1 ⟨v1, i, x, rfl, l, hl, hi0, hi1, ho, hx⟩
  have k1 : Keep w.heap.size (.cells zb.arr 29) w1 := by
    unfold Keep
    rw [hx.block _ hs0]
    exact k0
  have hb1 := after b0 hx (Nat.le_refl _)
  have hblk : blk v1 ≠ some w.heap.size := fun e => by
    have := (ho.lt _ e).1
    omega
  have HX : Hid (Below w.heap.size w (setBx w1 w.heap.size 0 x)) := hb1.trans (setBx_below _ _ (Nat.le_refl _))
  have HOX : Hid (Own (setBx w1 w.heap.size 0 x) w.heap.size 9 v1 (Bs l)) := (ho.setBxOther hblk 0 x).weak (Nat.le_of_lt hs0)
  obtain ⟨g0, g1, g2, g3, g4, g5, g6, g7, g8⟩ := k1.c9
  obtain ⟨z0, z1, z2, z3, z4, z5, z6, z7, z8⟩ := k1.fz9
  unfold Bx.agg
  clear k0 k1 hx ho hb1 hblk b0 hv0
  go_wp2
  refine bodyPost_ret (v := .tuple #[v1, .int .i64 i, x.agg]) ?_ rfl ⟨v1, i, x, rfl, l, hl, hi0, hi1, HOX.out, HX.out⟩
  simp [results, Try.results18, go_sem, Bx.agg, g0, g1, g2, g3, g4, g5, g6, g7, g8]

theorem orNo_t (l : List Bx) : orNo true l = l := rfl
theorem orNo_f (l : List Bx) : orNo false l = [] := rfl
theorem styleOk_in {l : List Bx} {i : Int} {x : Bx} (h : styleOk l i x = true) : inB l i = true ∧ vldB (styleL l i x) = true := by
  unfold styleOk at h
  simpa [Bool.and_eq_true] using h
theorem styleL_length (l : List Bx) (i : Int) (x : Bx) : (styleL l i x).length = l.length := by simp [styleL]
theorem styleL_bx {l : List Bx} {i : Nat} (x : Bx) (hi : i < l.length) (j : Nat) : bx (styleL l (i : Int) x) j = if j = i then x.at (par l i) else bx l j := by
  unfold bx styleL
  simp only [List.getD_eq_getElem?_getD, List.getElem?_set, Int.toNat_natCast]
  by_cases h : i = j
  · subst h; simp [hi]
  · have : ¬ j = i := by omega
    simp [h, this]
theorem style_self {l : List Bx} {i : Nat} (hi : i < l.length) : styleL l (i : Int) (bx l i) = l := by
  apply List.ext_getElem?
  intro j
  rcases Nat.lt_or_ge j l.length with h | h
  · rw [bx_get h, bx_get (by rw [styleL_length]; exact h), styleL_bx _ hi]
    split
    · rename_i e; subst e; rfl
    · rfl
  · rw [List.getElem?_eq_none h, List.getElem?_eq_none (by rw [styleL_length]; exact h)]
theorem style_back {l : List Bx} {i : Nat} (x : Bx) (hi : i < l.length) : styleL (styleL l (i : Int) x) (i : Int) (bx l i) = l := by
  apply List.ext_getElem?
  intro j
  have hi2 : i < (styleL l (i : Int) x).length := by rw [styleL_length]; exact hi
  rcases Nat.lt_or_ge j l.length with h | h
  · rw [bx_get h, bx_get (by rw [styleL_length, styleL_length]; exact h), styleL_bx _ hi2, styleL_bx _ hi]
    split
    · rename_i e
      subst e
      have : par (styleL l (j : Int) x) j = par l j := by
        show (bx (styleL l (j : Int) x) j).parent = _
        rw [styleL_bx _ hi, if_pos rfl]
        rfl
      rw [this]
      rfl
    · rfl
  · rw [List.getElem?_eq_none h, List.getElem?_eq_none (by rw [styleL_length, styleL_length]; exact h)]
theorem style_pad {l : List Bx} {i : Nat} : styleL l (i : Int) { bx l i with pad := (bx l i).pad + 1 } = padL l i := by
  unfold styleL padL
  rw [Int.toNat_natCast]
  rfl
theorem keepE {k : Nat} {o : Obj} {w w' : World} (h : Keep k o w) (hx : Ext w w') : Keep k o w' := by
  unfold Keep
  rw [hx.block _ h.lt]
  exact h
theorem cells_at {w : World} {b off c : Nat} {l : List Bx} {i : Nat} (hi : i < l.length) (h : Rd w 9 (.slice (some ⟨b, off, none⟩) l.length c) (Bs l)) : Cells9 w b (off + i * 9) (bx l i) := by
  obtain ⟨a', c', e', _, _, hC⟩ := h.boxes
  cases e'
  obtain ⟨b', off', e', _, hC⟩ := hC i _ (bx_get hi)
  cases e'
  exact hC i _ (bx_get hi)
theorem rd_addr {w : World} {v : Value} {l : List Bx} {i : Nat} (hi : i < l.length) (h : Rd w 9 v (Bs l)) : ∃ b off c, v = .slice (some ⟨b, off, none⟩) l.length c ∧ l.length ≤ c ∧ c ≤ 9223372036854775807 := by
  obtain ⟨a, c, rfl, hn, hc, hC⟩ := h.boxes
  unfold maxLen at hc
  obtain ⟨b, off, rfl, _⟩ := hC i _ (bx_get hi)
  exact ⟨b, off, c, rfl, hn, hc⟩

set_option maxRecDepth 100000 in
set_option maxHeartbeats 4000000 in
theorem FnStyleBoxSame_any {v : Value} (w : World) (hv : RdBytes w v) :
    Calls Try.prog 5 #[v] w fun e w' => e = .returned (.bool true) ∧ Ext w w' := by
  have hv2 := hv
  obtain ⟨ad, n, c, rfl, hn, hc, _⟩ := hv
  unfold maxLen at hc
  by_cases hlen : 1048576 < n
  · have hlen' : (1048576 : Int) < n := by omega
    go_enter Try.func5, Try.ntmps5
    go_wp2
    go_ret
    exact ⟨rfl, Below.refl _ _⟩
  · have hlen' : ¬ ((1048576 : Int) < n) := by omega
    go_enter Try.func5, Try.ntmps5
    go_wp2_with (fail)
    refine (DrawStyleBox_any _ hv2).mono ?_
    rintro e w1 ⟨v1, i, x, rfl, l, hl, hi0, hi1, ho1, hb⟩
    have hrT := ho1.rd.alloc (.cells x.arr 29)
    have hs1 := hb.size
    replace hb := hb.alloc hs1 (.cells x.arr 29)
    have hK := Keep.new w1 (.cells x.arr 29)
    unfold Bx.agg
    clear ho1 hv2
    go_wp2_with (fail)
    change Calls _ _ #[v1, .int .i64 i, x.agg] (w1.alloc (.cells x.arr 29)) _
    generalize hW1 : w1.alloc (.cells x.arr 29) = W1 at *
    generalize w1.heap.size = B at *
    clear hW1
    refine (StyleBox_any (l := l) i x _ hrT).mono ?_
    rintro e w2 ⟨v2, rfl, ho2, hx⟩
    replace hb := after hb hx (Nat.le_refl _)
    replace hrT := hrT.below hx (Nat.le_refl _)
    replace hK := keepE hK hx
    have hrO := ho2.rd
    clear ho2 hx
    obtain ⟨d0, d1, d2, d3, d4, d5, d6, d7, d8⟩ := hK.c9
    go_wp2_with (fail)
    change Calls _ _ #[v1, .int .i64 i, x.agg] w2 _
    clear d0 d1 d2 d3 d4 d5 d6 d7 d8
    refine (sStyleBox_any (l := l) i x _ hrT (by omega)).mono ?_
    rintro e w3 ⟨v3, rfl, ho3, hx⟩
    replace hb := after hb hx (Nat.le_refl _)
    replace hrT := hrT.below hx (Nat.le_refl _)
    replace hrO := hrO.below hx (Nat.le_refl _)
    have hrW := ho3.rd
    clear ho3 hx hK
    go_wp2_with (fail)
    refine ((equalBoxes_any _ hrO hrW)).mono ?_
    rintro e w4 ⟨rfl, hx⟩
    replace hb := after hb hx (Nat.le_refl _)
    replace hrT := hrT.below hx (Nat.le_refl _)
    replace hrO := hrO.below hx (Nat.le_refl _)
    replace hrW := hrW.below hx (Nat.le_refl _)
    clear hx
    generalize styleOk l i x = ok at *
    by_cases hvb : vldB l = true
    · by_cases hin : 0 ≤ i ∧ i < l.length
      · obtain ⟨h0, hil⟩ := hin
        obtain ⟨i, rfl⟩ := Int.eq_ofNat_of_zero_le h0
        have hi : i < l.length := by omega
        obtain ⟨b, off, c, rfl, hn3, hc3⟩ := rd_addr hi hrT
        have hok : styleOk l (i : Int) (bx l i) = true := by
          unfold styleOk
          rw [style_self hi, hvb, inB_iff.2 ⟨vldB_iff.1 hvb, h0, hil⟩]
          rfl
        go_wp2_with (fail)
        refine ((ValidTree_any (l := l) _ hrT)).mono ?_
        rintro e w5 ⟨he, hx⟩
        rw [hvb] at he
        subst he
        replace hb := after hb hx (Nat.le_refl _)
        replace hrT := hrT.below hx (Nat.le_refl _)
        clear hx
        obtain ⟨d0, d1, d2, d3, d4, d5, d6, d7, d8⟩ := cells_at hi hrT
        clear hvb hrO hrW
        go_wp2_with (fail)
        change Calls _ _ #[_, _, (bx l i).agg] w5 _
        clear d0 d1 d2 d3 d4 d5 d6 d7 d8
        refine (StyleBox_any (l := l) (i : Int) (bx l i) _ hrT).mono ?_
        rintro e w6 ⟨v6, rfl, ho6, hx⟩
        rw [hok, orNo_t, style_self hi] at ho6
        rw [hok]
        replace hb := after hb hx (Nat.le_refl _)
        replace hrT := hrT.below hx (Nat.le_refl _)
        have hrS := ho6.rd
        clear ho6 hx hok
        go_wp2_with (fail)
        refine ((equalBoxes_any _ hrS hrT)).mono ?_
        rintro e w7 ⟨rfl, hx⟩
        replace hb := after hb hx (Nat.le_refl _)
        clear hx
        go_wp2
        go_ret
        exact ⟨rfl, hb⟩
      · obtain ⟨a, c, rfl, hn3, hc3, _⟩ := hrT.boxes
        unfold maxLen at hc3
        go_wp2_with (fail)
        refine ((ValidTree_any (l := l) _ hrT)).mono ?_
        rintro e w5 ⟨he, hx⟩
        rw [hvb] at he
        subst he
        replace hb := after hb hx (Nat.le_refl _)
        replace hrO := hrO.below hx (Nat.le_refl _)
        replace hrW := hrW.below hx (Nat.le_refl _)
        clear hx
        by_cases h0 : i < 0
        · go_wp2_with (fail)
          refine ((equalBoxes_any _ hrO hrW)).mono ?_
          rintro e w6 ⟨rfl, hx⟩
          replace hb := after hb hx (Nat.le_refl _)
          clear hx
          go_wp2
          go_ret
          exact ⟨by simp, hb⟩
        · have h1 : (l.length : Int) ≤ i := by omega
          go_wp2_with (fail)
          refine ((equalBoxes_any _ hrO hrW)).mono ?_
          rintro e w6 ⟨rfl, hx⟩
          replace hb := after hb hx (Nat.le_refl _)
          clear hx
          go_wp2
          go_ret
          exact ⟨by simp, hb⟩
    · have hvb' : vldB l = false := by simpa using hvb
      go_wp2_with (fail)
      refine ((ValidTree_any (l := l) _ hrT)).mono ?_
      rintro e w5 ⟨he, hx⟩
      rw [hvb'] at he
      subst he
      replace hb := after hb hx (Nat.le_refl _)
      replace hrO := hrO.below hx (Nat.le_refl _)
      replace hrW := hrW.below hx (Nat.le_refl _)
      clear hx
      go_wp2_with (fail)
      refine ((equalBoxes_any _ hrO hrW)).mono ?_
      rintro e w6 ⟨rfl, hx⟩
      replace hb := after hb hx (Nat.le_refl _)
      clear hx
      go_wp2
      go_ret
      exact ⟨by simp, hb⟩
end Go.Proofs.Ytedheddfalmjmaa
