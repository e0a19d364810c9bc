/-
  The laws FnAddBox and FnAddBoxSize: the walks.
-/
import Derived.Test.YtckggmbmlpikhaaLAdd
import Derived.Test.YtckggmbmlpikhaaRem
import Derived.Test.YtckggmbmlpikhaaTree2
import Derived.Test.YtckggmbmlpikhaaInts
import Derived.Test.YtckggmbmlpikhaaLStyA
namespace Go.Proofs.Ytckggmbmlpikhaa
open Go Go.RowKit


set_option maxRecDepth 100000 in
set_option maxHeartbeats 4000000 in
theorem FnAddBoxSize_any {v : Value} (w : World) (hv : RdBytes w v) :
    Calls Try.prog 4 #[v] w fun e w' => e = .returned (.bool true) ∧ Ext w w' := by
  have hv2 := hv
  obtain ⟨ad, n, c, rfl, hn, hc, _⟩ := hv
  unfold maxLen at hc
  by_cases hlen : 1048576 < n
  · have hlen' : (1048576 : Int) < n := by omega
    go_enter Try.func4, Try.ntmps4
    go_wp2
    go_ret
    exact ⟨rfl, Below.refl _ _⟩
  · have hlen' : ¬ ((1048576 : Int) < n) := by omega
    go_enter Try.func4, Try.ntmps4
    go_wp2_with (fail)
    refine (DrawAddBox_any _ hv2).mono ?_
    rintro e w1 ⟨v1, i, x, rfl, l, hl, hi0, hi1, ho1, hb⟩
    have hrT := ho1.rd.alloc (.cells x.arr 33)
    have hs1 := hb.size
    replace hb := hb.alloc hs1 (.cells x.arr 33)
    have hK := Keep.new w1 (.cells x.arr 33)
    unfold Bx.agg
    clear ho1 hv2
    go_wp2_with (fail)
    change Calls _ _ #[v1, .int .i64 i, x.agg] (w1.alloc (.cells x.arr 33)) _
    generalize hW1 : w1.alloc (.cells x.arr 33) = W1 at *
    generalize w1.heap.size = B at *
    clear hW1
    refine (AddBox_any (l := l) i x _ hrT).mono ?_
    rintro e w2 ⟨v2, rfl, ho2, hx⟩
    replace hb := after hb hx (Nat.le_refl _)
    replace hrT := hrT.below hx (Nat.le_refl _)
    replace hK := keepE hK hx
    have hrO := ho2.rd
    clear ho2 hx
    obtain ⟨d0, d1, d2, d3, d4, d5, d6, d7, d8⟩ := hK.c9
    go_wp2_with (fail)
    change Calls _ _ #[v1, .int .i64 i, x.agg] w2 _
    clear d0 d1 d2 d3 d4 d5 d6 d7 d8
    refine (sAddBox_any (l := l) i x _ hrT (by omega)).mono ?_
    rintro e w3 ⟨v3, rfl, ho3, hx⟩
    replace hb := after hb hx (Nat.le_refl _)
    replace hrT := hrT.below hx (Nat.le_refl _)
    replace hrO := hrO.below hx (Nat.le_refl _)
    replace hK := keepE hK hx
    have hrW := ho3.rd
    clear ho3 hx
    by_cases hok : addOk l i x = true
    ·
      obtain ⟨hB, hvo⟩ := addOk_in hok
      obtain ⟨hval, h0, hil⟩ := inB_iff.1 hB
      obtain ⟨i, rfl⟩ := Int.eq_ofNat_of_zero_le h0
      have hin : i < l.length := by omega
      rw [hok, orNo_t, Int.toNat_natCast] at hrO hrW
      rw [hok]
      rw [Int.toNat_natCast] at hvo
      have HV := Lib.hid hval
      have HB := Lib.hid hB
      have HVO := Lib.hid (vldB_iff.1 hvo)
      have HLO := Lib.hid (addL_length hin x)
      have hlO1 : (addL l i x).length ≤ l.length + 1 := Nat.le_of_eq HLO.out
      have hlO2 : l.length + 1 ≤ (addL l i x).length := Nat.le_of_eq HLO.out.symm
      have hcl := cntS_le l i
      have hpos := cntS_pos hval hin
      clear hval hB hvo hok
      have h1 : inB l ((0 : Nat) : Int) = true := inB_iff.2 ⟨HV.out, by omega, by omega⟩
      have h2 : inB (addL l i x) ((0 : Nat) : Int) = true := inB_iff.2 ⟨HVO.out, by omega, by omega⟩
      obtain ⟨e1, e2⟩ := add_nat0 HV.out hin HVO.out
      rw [← nW_nat h1, ← nW_nat h2] at e1
      rw [← nH_nat h1, ← nH_nat h2] at e2
      rw [Int.natCast_zero] at e1 e2 h1 h2
      have H1 := Lib.hid h1
      have H2 := Lib.hid h2
      clear h1 h2
      go_wp2_with (fail)
      refine ((equalBoxes_any (l := addL l i x) _ hrO hrW)).mono ?_
      rintro e w4 ⟨rfl, hx⟩
      replace hb := after hb hx (Nat.le_refl _)
      replace hrT := hrT.below hx (Nat.le_refl _)
      replace hrO := hrO.below hx (Nat.le_refl _)
      clear hx
      clear hrW
      go_wp2_with (fail)
      refine ((NaturalSize_any (l := l) 0 _ hrT)).mono ?_
      rintro e w5 ⟨rfl, hx⟩
      replace hb := after hb hx (Nat.le_refl _)
      replace hrT := hrT.below hx (Nat.le_refl _)
      replace hrO := hrO.below hx (Nat.le_refl _)
      clear hx
      rw [H1.out]
      go_wp2_with (fail)
      refine ((NaturalSize_any (l := addL l i x) 0 _ hrO)).mono ?_
      rintro e w6 ⟨rfl, hx⟩
      replace hb := after hb hx (Nat.le_refl _)
      clear hx
      rw [H2.out]
      generalize nW l 0 = A1 at *
      generalize nH l 0 = A2 at *
      generalize nW (addL l i x) 0 = A3 at *
      generalize nH (addL l i x) 0 = A4 at *
      go_wp2
      go_ret
      exact ⟨by simp, hb⟩
    · have hok' : addOk l i x = false := by simpa using hok
      rw [hok', orNo_f] at hrO hrW
      rw [hok']
      clear hok
      go_wp2_with (fail)
      refine (equalBoxes_any (l := []) _ hrO hrW).mono ?_
      rintro e w4 ⟨rfl, hx⟩
      replace hb := after hb hx (Nat.le_refl _)
      replace hrO := hrO.below hx (Nat.le_refl _)
      replace hrW := hrW.below hx (Nat.le_refl _)
      clear hx
      go_wp2_with (fail)
      refine (equalBoxes_any (l := []) _ hrO hrW).mono ?_
      rintro e w5 ⟨rfl, hx⟩
      replace hb := after hb hx (Nat.le_refl _)
      go_wp2
      go_ret
      exact ⟨rfl, hb⟩
end Go.Proofs.Ytckggmbmlpikhaa
