/-
  The law FnNaturalSizePad: the walk.
-/
import Derived.Test.YtmdlhjngiadlpaaLStyA
namespace Go.Proofs.Ytmdlhjngiadlpaa
open Go Go.RowKit

set_option maxRecDepth 100000 in
set_option maxHeartbeats 4000000 in
theorem FnNaturalSizePad_any {v : Value} (w : World) (hv : RdBytes w v) :
    Calls Try.prog 5 #[v] w fun e w' => e = .returned (.bool true) ∧ Ext w w' := by
  have hv2 := hv
  obtain ⟨ad, n, c, rfl, hn, hc, _⟩ := hv
  unfold maxLen at hc
  by_cases hlen : 1048576 < n
  · have hlen' : (1048576 : Int) < n := by omega
    go_enter Try.func5, Try.ntmps5
    go_wp2
    go_ret
    exact ⟨rfl, Below.refl _ _⟩
  · have hlen' : ¬ ((1048576 : Int) < n) := by omega
    go_enter Try.func5, Try.ntmps5
    go_wp2_with (fail)
    refine (DrawNaturalSize_any _ hv2).mono ?_
    rintro e w1 ⟨v1, i, rfl, l, hl, hi0, hi1, ho1, hb⟩
    have hrT := ho1.rd
    clear ho1 hv2
    go_wp2_with (fail)
    refine ((NaturalSize_any (l := l) i _ hrT)).mono ?_
    rintro e w2 ⟨rfl, hx⟩
    replace hb := after hb hx (Nat.le_refl _)
    replace hrT := hrT.below hx (Nat.le_refl _)
    clear hx
    go_wp2_with (fail)
    refine ((sNaturalSize_any (l := l) i _ hrT (by omega))).mono ?_
    rintro e w3 ⟨rfl, hx⟩
    replace hb := after hb hx (Nat.le_refl _)
    replace hrT := hrT.below hx (Nat.le_refl _)
    clear hx
    by_cases h : inB l i = true
    · obtain ⟨i, rfl⟩ := Int.eq_ofNat_of_zero_le (inB_iff.1 h).2.1
      have hi : i < l.length := by have := (inB_iff.1 h).2.2; omega
      have hil : (i : Int) < l.length := by omega
      have hob := okB_bounds ((inB_iff.1 h).1.ok i hi)
      obtain ⟨z1, z2, z3, z4⟩ := n_sz (l := l) (i := (i : Int))
      obtain ⟨b, off, c, rfl, hn3, hc3⟩ := rd_addr hi hrT
      obtain ⟨d0, d1, d2, d3, d4, d5, d6, d7, d8⟩ := cells_at hi hrT
      have H := Lib.hid h
      have hsp := Lib.hid (style_pad (l := l) (i := i))
      rw [h]
      clear h
      go_wp2_with (fail)
      change Calls _ _ #[_, _, ({ bx l i with pad := (bx l i).pad + 1 } : Bx).agg] _ _
      refine (StyleBox_any (l := l) (i : Int) { bx l i with pad := (bx l i).pad + 1 } _ (hrT.alloc _)).mono ?_
      rintro e w4 ⟨v4, rfl, ho4, hx⟩
      rw [hsp.out] at ho4
      replace hb := after (hb.alloc hb.size _) hx (by simp)
      clear hx d0 d1 d2 d3 d4 d5 d6 d7 d8 hrT
      by_cases hok : styleOk l (i : Int) { bx l i with pad := (bx l i).pad + 1 } = true
      · rw [hok, orNo_t] at ho4
        have hvo : Valid (padL l i) := by
          have := (styleOk_in hok).2
          rw [hsp.out] at this
          exact vldB_iff.1 this
        have hB2 : inB (padL l i) (i : Int) = true := inB_iff.2 ⟨hvo, by omega, by rw [padL_length]; omega⟩
        have hN := nat_pad (inB_iff.1 H.out).1 hi
        have e1 : nW (padL l i) (i : Int) = nW l (i : Int) + 2 := by rw [nW_nat hB2, nW_nat H.out, hN]
        have e2 : nH (padL l i) (i : Int) = nH l (i : Int) + 2 := by rw [nH_nat hB2, nH_nat H.out, hN]
        have hrP := ho4.rd
        have HOK := Lib.hid hok
        clear ho4 hvo hN hok
        rw [HOK.out]
        go_wp2_with (fail)
        refine ((NaturalSize_any (l := padL l i) (i : Int) _ hrP)).mono ?_
        rintro e w5 ⟨rfl, hx⟩
        replace hb := after hb hx (Nat.le_refl _)
        clear hx
        rw [hB2, e1, e2]
        clear hB2 e1 e2
        go_wp2
        go_ret
        exact ⟨rfl, hb⟩
      · have hok' : styleOk l (i : Int) { bx l i with pad := (bx l i).pad + 1 } = false := by simpa using hok
        rw [hok', orNo_f] at ho4
        rw [hok']
        have hrP := ho4.rd
        clear ho4 hok hok'
        go_wp2_with (fail)
        refine ((NaturalSize_any (l := []) (i : Int) _ hrP)).mono ?_
        rintro e w5 ⟨rfl, hx⟩
        replace hb := after hb hx (Nat.le_refl _)
        clear hx
        go_wp2
        go_ret
        exact ⟨rfl, hb⟩
    · have h' : inB l i = false := by simpa using h
      rw [h']
      clear h
      go_wp2
      go_ret
      exact ⟨rfl, hb⟩
end Go.Proofs.Ytmdlhjngiadlpaa
