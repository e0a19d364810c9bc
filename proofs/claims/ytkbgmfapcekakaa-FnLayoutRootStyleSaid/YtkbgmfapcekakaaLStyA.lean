/-
  The laws FnStyleBoxSame, FnStyleBox and FnNaturalSizePad: the walks.
-/
import Derived.Test.YtkbgmfapcekakaaLNat2
import Derived.Test.YtkbgmfapcekakaaAb
namespace Go.Proofs.Ytkbgmfapcekakaa
open Go Go.RowKit

set_option maxHeartbeats 1000000 in
theorem DrawStyleBox_any {v : Value} (w : World) (hv : RdBytes w v) :
    Calls Try.prog 15 #[v] w fun e w' => ∃ (v' : Value) (i : Int) (x : Bx), e = .returned (.tuple #[v', .int .i64 i, x.agg]) ∧ ∃ l : List Bx, l.length ≤ 16 ∧ -1 ≤ i ∧ i ≤ 16 ∧ Own w' w.heap.size 9 v' (Bs l) ∧ Ext w w' := by
  have hv0 := hv.ext (Below.of_alloc w (.cells zb.arr 25))
  have k0 : Keep w.heap.size (.cells zb.arr 25) (w.alloc (.cells zb.arr 25)) := Keep.new _ _
  have b0 : Below w.heap.size w (w.alloc (.cells zb.arr 25)) := Below.of_alloc _ _
  clear hv
  go_enter Try.func15, Try.ntmps15
  go_wp2_with (fail)
  change Calls _ _ _ (w.alloc (.cells zb.arr 25)) _
  generalize hW0 : w.alloc (.cells zb.arr 25) = W0 at *
  have hs0 : w.heap.size < W0.heap.size := k0.lt
  clear hW0
  refine (DrawAddBox_any _ hv0).mono ?_
  rintro e w1 ⟨v1, i, x, rfl, l, hl, hi0, hi1, ho, hx⟩
  have k1 : Keep w.heap.size (.cells zb.arr 25) w1 := by
    unfold Keep
    rw [hx.block _ hs0]
    exact k0
  have hb1 := after b0 hx (Nat.le_refl _)
  have hblk : blk v1 ≠ some w.heap.size := fun e => by
    have := (ho.lt _ e).1
    omega
  have HX : Hid (Below w.heap.size w (setBx w1 w.heap.size 0 x)) := hb1.trans (setBx_below _ _ (Nat.le_refl _))
  have HOX : Hid (Own (setBx w1 w.heap.size 0 x) w.heap.size 9 v1 (Bs l)) := (ho.setBxOther hblk 0 x).weak (Nat.le_of_lt hs0)
  obtain ⟨g0, g1, g2, g3, g4, g5, g6, g7, g8⟩ := k1.c9
  obtain ⟨z0, z1, z2, z3, z4, z5, z6, z7, z8⟩ := k1.fz9
  unfold Bx.agg
  clear k0 k1 hx ho hb1 hblk b0 hv0
  go_wp2
  refine bodyPost_ret (v := .tuple #[v1, .int .i64 i, x.agg]) ?_ rfl ⟨v1, i, x, rfl, l, hl, hi0, hi1, HOX.out, HX.out⟩
  simp [results, Try.results15, go_sem, Bx.agg, g0, g1, g2, g3, g4, g5, g6, g7, g8]
theorem orNo_t (l : List Bx) : orNo true l = l := rfl
theorem orNo_f (l : List Bx) : orNo false l = [] := rfl
theorem styleOk_in {l : List Bx} {i : Int} {x : Bx} (h : styleOk l i x = true) : inB l i = true ∧ vldB (styleL l i x) = true := by
  unfold styleOk at h
  simpa [Bool.and_eq_true] using h
theorem styleL_length (l : List Bx) (i : Int) (x : Bx) : (styleL l i x).length = l.length := by simp [styleL]
theorem styleL_bx {l : List Bx} {i : Nat} (x : Bx) (hi : i < l.length) (j : Nat) : bx (styleL l (i : Int) x) j = if j = i then x.at (par l i) else bx l j := by
  unfold bx styleL
  simp only [List.getD_eq_getElem?_getD, List.getElem?_set, Int.toNat_natCast]
  by_cases h : i = j
  · subst h; simp [hi]
  · have : ¬ j = i := by omega
    simp [h, this]
theorem style_self {l : List Bx} {i : Nat} (hi : i < l.length) : styleL l (i : Int) (bx l i) = l := by
  apply List.ext_getElem?
  intro j
  rcases Nat.lt_or_ge j l.length with h | h
  · rw [bx_get h, bx_get (by rw [styleL_length]; exact h), styleL_bx _ hi]
    split
    · rename_i e; subst e; rfl
    · rfl
  · rw [List.getElem?_eq_none h, List.getElem?_eq_none (by rw [styleL_length]; exact h)]
theorem style_back {l : List Bx} {i : Nat} (x : Bx) (hi : i < l.length) : styleL (styleL l (i : Int) x) (i : Int) (bx l i) = l := by
  apply List.ext_getElem?
  intro j
  have hi2 : i < (styleL l (i : Int) x).length := by rw [styleL_length]; exact hi
  rcases Nat.lt_or_ge j l.length with h | h
  · rw [bx_get h, bx_get (by rw [styleL_length, styleL_length]; exact h), styleL_bx _ hi2, styleL_bx _ hi]
    split
    · rename_i e
      subst e
      have : par (styleL l (j : Int) x) j = par l j := by
        show (bx (styleL l (j : Int) x) j).parent = _
        rw [styleL_bx _ hi, if_pos rfl]
        rfl
      rw [this]
      rfl
    · rfl
  · rw [List.getElem?_eq_none h, List.getElem?_eq_none (by rw [styleL_length, styleL_length]; exact h)]
theorem style_pad {l : List Bx} {i : Nat} : styleL l (i : Int) { bx l i with pad := (bx l i).pad + 1 } = padL l i := by
  unfold styleL padL
  rw [Int.toNat_natCast]
  rfl
end Go.Proofs.Ytkbgmfapcekakaa
