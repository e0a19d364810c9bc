/-
  spec.StyleBox.
-/
import Derived.Test.YtmdlhjngiadlpaaEdit
import Derived.Test.YtmdlhjngiadlpaaSVal
import Derived.Test.YtmdlhjngiadlpaaAny
namespace Go.Proofs.Ytmdlhjngiadlpaa
open Go Go.RowKit

set_option maxRecDepth 100000 in
set_option maxHeartbeats 2000000 in
theorem sStyleBox_any {v : Value} {l : List Bx} (i : Int) (x : Bx) (w : World) (hv : Rd w 9 v (Bs l)) (hl : l.length ≤ 1048576) :
    Calls Try.prog 17 #[v, .int .i64 i, x.agg] w fun e w' => ∃ v', e = .returned (.tuple #[v', .bool (styleOk l i x)]) ∧ Own w' w.heap.size 9 v' (Bs (orNo (styleOk l i x) (styleL l i x))) ∧ Ext w w' := by
  have hrd := hv
  obtain ⟨a, c, rfl, hn, hc, hcell⟩ := hv.boxes
  unfold maxLen at hc
  unfold Bx.agg
  by_cases hvb : vldB l = true
  · by_cases hin : inR i 0 ((l.length : Int) - 1) = true
    · have h : inB l i = true := by unfold inB; rw [hvb, hin]; rfl
      obtain ⟨hval, h0, hi⟩ := inB_iff.1 h
      obtain ⟨i, rfl⟩ := Int.eq_ofNat_of_zero_le h0
      have hi' : i < l.length := by omega
      have hll := hval.hi
      have H := Lib.hid h
      clear hval hv hcell h
      go_enter Try.func17, Try.ntmps17
      go_wp2_with (fail)
      refine (validTree_any (l := l) _ (hrd.alloc _) (by omega)).mono ?_
      rintro e w1 ⟨he, hx1⟩
      rw [hvb] at he
      subst he
      have hb1 := after (Below.of_alloc w _) hx1 (Nat.le_refl _)
      have hB : Keep w.heap.size (.cells x.arr 25) w1 := by
        show w1.heap[w.heap.size]? = _
        rw [hx1.block _ (by simp)]
        exact heap_alloc_new w _
      have hBl := hB.lt
      clear hx1
      go_wp2_with (fail)
      refine (inRange_any _ _ _ _).mono ?_
      rintro e w2 ⟨he, rfl⟩
      rw [hin] at he
      subst he
      have hr1 := (hrd.below hb1 (Nat.le_refl _)).alloc (.cells #[] 25)
      go_wp2_with (at_builtin; refine wpList_app rfl _ _ _ rfl el_box rfl (Own.empty _ (w.heap.size + 1) 9 _) rfl hr1 (Bs_one _) ?hl1 ?hb1 ?hK1)
      case hl1 => rw [Bs_length]; simp; omega
      case hb1 => simp; omega
      intro v2 w2 ho2 hg2 hf2
      have hx2 : Ext (w1.alloc (.cells #[] 25)) w2 := by
        refine ⟨hg2.os, hg2.tape, hg2.output, hg2.size, fun k hk => hg2.block k hk (by simp [blk])⟩
      have hb2 := after (hb1.alloc (by omega) (.cells #[] 25)) hx2 (by simp)
      have hK2 : Keep w.heap.size (.cells x.arr 25) w2 := by
        have h := hB.alloc (.cells #[] 25)
        show w2.heap[w.heap.size]? = _
        rw [hx2.block _ h.lt]
        exact h
      clear hg2 hf2 hx2 hr1
      obtain ⟨b2, off2, n2, c2, rfl, hn2, hblk2, hbb2, hbs2, _, _, _⟩ := ho2.cells (by
        intro e
        have := congrArg List.length e
        rw [Bs_length, List.length_nil] at this
        omega)
      rw [Bs_length] at hn2
      obtain rfl : n2 = l.length := by omega
      obtain ⟨hC, _⟩ := ho2.cellF hi'
      have g0 : w2.cell? ⟨b2, off2 + i * 9, none⟩ = some (.int .i64 (par l i)) := hC.c0
      have f0 : w2.frozen? ⟨w.heap.size, 0, none⟩ = false := hK2.frozen 0
      have p0 : w2.cell? ⟨w.heap.size, 0, none⟩ = some (.int .i64 x.parent) := hK2.cell 0
      have hK3 : Keep w.heap.size (.cells (x.at (par l i)).arr 25) (w2.setCell ⟨w.heap.size, 0, none⟩ (.int .i64 (par l i))) := hK2.store 0 (.int .i64 (par l i))
      have ho3 := ho2.setOther (p := ⟨w.heap.size, 0, none⟩) (by intro e; rw [hblk2] at e; simp at e; omega) (.int .i64 (par l i))
      have hb3 := hb2.setCell (p := ⟨w.heap.size, 0, none⟩) (Nat.le_refl _) (.int .i64 (par l i))
      clear hC hblk2 ho2 hb2 hb1 hB hK2
      go_upto_region 5 with fail
      clear g0 f0 p0
      change Code.wp _ _ _ _ (w2.setCell ⟨w.heap.size, 0, none⟩ (.int .i64 (par l i)))
      generalize w2.setCell ⟨w.heap.size, 0, none⟩ (.int .i64 (par l i)) = W3 at *
      obtain ⟨d0, d1, d2, d3, d4, d5, d6, d7, d8⟩ := cells9_of hK3
      obtain ⟨hC, hF⟩ := ho3.cellF hi'
      obtain ⟨g0, g1, g2, g3, g4, g5, g6, g7, g8⟩ := hC
      have q0 := hF 0
      have q1 := hF 1
      have q2 := hF 2
      have q3 := hF 3
      have q4 := hF 4
      have q5 := hF 5
      have q6 := hF 6
      have q7 := hF 7
      have q8 := hF 8
      simp only [Nat.add_zero] at q0
      have hset := setBx_own ho3 rfl hi' (x.at (par l i))
      have hsb := setBx_below (B := w.heap.size) (b := b2) (o := off2 + i * 9) W3 (x.at (par l i)) (by omega)
      have hb4 := hb3.trans hsb
      have hst : Hid (styleOk l (i : Int) x = vldB (l.set i (x.at (par l i)))) := by
        show _ = _
        unfold styleOk styleL
        rw [H.out]
        simp
      have hsl : Hid (styleL l (i : Int) x = l.set i (x.at (par l i))) := by
        show _ = _
        unfold styleL
        simp
      clear hsb hF hK3 ho3 hb3
      by_cases hv2 : vldB (l.set i (x.at (par l i))) = true
      · have HV2 := Lib.hid hv2
        clear hv2
        go_wp2_with (fail)
        refine (validTree_any (l := l.set i (x.at (par l i))) _ hset.rd (by simp; omega)).mono ?_
        rintro e w4 ⟨he, hx4⟩
        rw [HV2.out] at he
        subst he
        go_wp2
        go_ret2
        refine ⟨_, by rw [hst.out, HV2.out]; rfl, ?_, after hb4 hx4 (Nat.le_refl _)⟩
        rw [hst.out, hsl.out, HV2.out]
        exact (hset.below hx4 (Nat.le_refl _)).weak (by omega)
      · have HV2 : Hid (vldB (l.set i (x.at (par l i))) = false) := by
          show _ = _
          simpa using hv2
        clear hv2
        go_wp2_with (fail)
        refine (validTree_any (l := l.set i (x.at (par l i))) _ hset.rd (by simp; omega)).mono ?_
        rintro e w4 ⟨he, hx4⟩
        rw [HV2.out] at he
        subst he
        go_wp2
        go_ret2
        refine ⟨_, by rw [hst.out, HV2.out]; rfl, ?_, after hb4 hx4 (Nat.le_refl _)⟩
        rw [hst.out, HV2.out]
        exact Own.nil _ _ _
    · have hin' : inR i 0 ((l.length : Int) - 1) = false := by simpa using hin
      have hst : Hid (styleOk l i x = false) := by
        show _ = _
        unfold styleOk inB
        rw [hvb, hin']
        rfl
      clear hin hcell
      go_enter Try.func17, Try.ntmps17
      go_wp2_with (fail)
      refine (validTree_any (l := l) _ (hrd.alloc _) (by omega)).mono ?_
      rintro e w1 ⟨he, hx1⟩
      rw [hvb] at he
      subst he
      have hb1 := after (Below.of_alloc w _) hx1 (Nat.le_refl _)
      clear hx1
      go_wp2_with (fail)
      refine (inRange_any _ _ _ _).mono ?_
      rintro e w2 ⟨he, rfl⟩
      rw [hin'] at he
      subst he
      go_wp2
      go_ret2
      refine ⟨_, by rw [hst.out]; rfl, ?_, hb1⟩
      rw [hst.out]
      exact Own.nil _ _ _
  · have hvb' : vldB l = false := by simpa using hvb
    have hst : Hid (styleOk l i x = false) := by
      show _ = _
      unfold styleOk inB
      rw [hvb']
      rfl
    clear hvb hcell
    go_enter Try.func17, Try.ntmps17
    go_wp2_with (fail)
    refine (validTree_any (l := l) _ (hrd.alloc _) (by omega)).mono ?_
    rintro e w1 ⟨he, hx1⟩
    rw [hvb'] at he
    subst he
    have hb1 := after (Below.of_alloc w _) hx1 (Nat.le_refl _)
    clear hx1
    go_wp2
    go_ret2
    refine ⟨_, by rw [hst.out]; rfl, ?_, hb1⟩
    rw [hst.out]
    exact Own.nil _ _ _
end Go.Proofs.Ytmdlhjngiadlpaa
