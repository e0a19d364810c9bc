/-
  The laws FnNaturalSize, FnNaturalSizeKids, FnNaturalSizeRow, FnNaturalSizePad: the walks.
-/
import Derived.Test.YtedheddfalmjmaaDraw
import Derived.Test.YtedheddfalmjmaaNLaw
namespace Go.Proofs.Ytedheddfalmjmaa
open Go Go.RowKit

set_option maxHeartbeats 1000000 in
theorem DrawNaturalSize_any {v : Value} (w : World) (hv : RdBytes w v) :
    Calls Try.prog 27 #[v] w fun e w' => ∃ (v' : Value) (i : Int), e = .returned (.tuple #[v', .int .i64 i]) ∧ ∃ l : List Bx, l.length ≤ 16 ∧ -1 ≤ i ∧ i ≤ 16 ∧ Own w' w.heap.size 9 v' (Bs l) ∧ Ext w w' := by
  go_enter Try.func27, Try.ntmps27
  go_wp2_with (fail)
  refine (DrawKidsOf_any _ hv).mono ?_
  rintro e w1 ⟨v1, i, rfl, l, hl, h0, h1, ho, hx⟩
  go_wp2
  go_ret2
  exact ⟨_, i, rfl, l, hl, h0, h1, ho, hx⟩

/-- a list of numbers that is empty -/
theorem Rd.len {w : World} {v : Value} {l : List Int} (h : Rd w 1 v (Is l)) : ∃ a c, v = .slice a l.length c ∧ l.length ≤ c ∧ c ≤ maxLen := by
  obtain ⟨a, n, c, rfl, hl, hn, hc, _⟩ := h
  rw [Is_length] at hl
  obtain rfl : n = l.length := by omega
  exact ⟨a, c, rfl, hn, hc⟩
theorem mem_inB {l : List Bx} {i k : Nat} (h : inB l (i : Int) = true) (hk : k ∈ kid l (i : Int)) : inB l (k : Int) = true := by
  have := (mem_kid.1 hk).1
  exact inB_iff.2 ⟨(inB_iff.1 h).1, by omega, by omega⟩
theorem n_kid {l : List Bx} {i k : Nat} (h : inB l (i : Int) = true) (hk : k ∈ kid l (i : Int)) : nW l (k : Int) + 2 * (bx l i).pad ≤ nW l (i : Int) ∧ nH l (k : Int) + 2 * (bx l i).pad ≤ nH l (i : Int) := by
  obtain ⟨hv, h0, hi⟩ := inB_iff.1 h
  rw [nW_nat h, nH_nat h, nW_nat (mem_inB h hk), nH_nat (mem_inB h hk)]
  exact nat_kid hv (by omega) hk

set_option maxRecDepth 100000 in
set_option maxHeartbeats 4000000 in
theorem FnNaturalSize_any {v : Value} (w : World) (hv : RdBytes w v) :
    Calls Try.prog 8 #[v] w fun e w' => e = .returned (.bool true) ∧ Ext w w' := by
  have hv2 := hv
  obtain ⟨ad, n, c, rfl, hn, hc, _⟩ := hv
  unfold maxLen at hc
  by_cases hlen : 1048576 < n
  · have hlen' : (1048576 : Int) < n := by omega
    go_enter Try.func8, Try.ntmps8
    go_wp2
    go_ret
    exact ⟨rfl, Below.refl _ _⟩
  · have hlen' : ¬ ((1048576 : Int) < n) := by omega
    go_enter Try.func8, Try.ntmps8
    go_wp2_with (fail)
    refine (DrawNaturalSize_any _ hv2).mono ?_
    rintro e w1 ⟨v1, i, rfl, l, hl, hi0, hi1, ho1, hb⟩
    have hrT := ho1.rd
    clear ho1 hv2
    go_wp2_with (fail)
    refine ((NaturalSize_any (l := l) i _ hrT)).mono ?_
    rintro e w2 ⟨rfl, hx⟩
    replace hb := after hb hx (Nat.le_refl _)
    replace hrT := hrT.below hx (Nat.le_refl _)
    clear hx
    go_wp2_with (fail)
    refine ((sNaturalSize_any (l := l) i _ hrT (by omega))).mono ?_
    rintro e w3 ⟨rfl, hx⟩
    replace hb := after hb hx (Nat.le_refl _)
    replace hrT := hrT.below hx (Nat.le_refl _)
    clear hx
    by_cases h : inB l i = true
    · obtain ⟨i, rfl⟩ := Int.eq_ofNat_of_zero_le (inB_iff.1 h).2.1
      have hi : i < l.length := by have := (inB_iff.1 h).2.2; omega
      have hil : (i : Int) < l.length := by omega
      have hob := okB_bounds ((inB_iff.1 h).1.ok i hi)
      obtain ⟨z1, z2, z3, z4⟩ := n_sz (l := l) (i := (i : Int))
      have hrd := hrT
      obtain ⟨a, c, rfl, hn3, hc3, hC⟩ := hrT.boxes
      unfold maxLen at hc3
      obtain ⟨b, off, rfl, hbl, hC⟩ := hC i _ (bx_get hi)
      obtain ⟨c0, c1, c2, c3, c4, c5, c6, c7, c8⟩ := hC i _ (bx_get hi)
      clear hC hrT
      by_cases hk : (bx l i).kind = 0
      · obtain ⟨e1, e2⟩ := n_leaf h hk
        rw [h, e1, e2]
        have hk' : ((bx l i).kind == 0) = true := by simp [hk]
        clear e1 e2 hk h z1 z2 z3 z4
        generalize bx l i = y at *
        go_wp2
        go_ret
        exact ⟨rfl, hb.alloc hb.size _⟩
      · have hk' : ((bx l i).kind == 0) = false := by simp [hk]
        obtain ⟨e1, e2⟩ := n_box h
        by_cases he : kid l (i : Int) = []
        · obtain ⟨f1, f2⟩ := n_empty h hk he
          have hK : Hid (kidsL l (i : Int) = []) := by
            show _ = _
            unfold kidsL
            rw [if_pos h, he]
          rw [h, f1, f2]
          clear e1 e2 f1 f2 hk h z1 z2 z3 z4
          generalize hy : bx l i = y at *
          clear hy
          have hK2 := Keep.new w3 (.cells y.arr 29)
          have hs3 := hb.size
          go_wp2_with (fail)
          refine (KidsOf_any (l := l) (i : Int) _ (hrd.alloc _)).mono ?_
          rintro e w4 ⟨v4, rfl, ho4, hx4⟩
          rw [hK.out] at ho4
          obtain ⟨a4, n4, c4', rfl, hl4, hn4, hc4, _⟩ := ho4
          obtain rfl : n4 = 0 := by simp [Is, ni] at hl4; omega
          have hb4 := after (hb.alloc hb.size _) hx4 (by simp)
          have d4 : w4.cell? ⟨w3.heap.size, 4, none⟩ = some (.int .i64 y.pad) := by
            rw [hx4.cell (by simp)]
            exact hK2.cell 4
          clear hl4 hK2 hx4 hrd c0 c1 c2 c3 c4 c5 c6 c7 c8
          go_wp2
          go_ret
          exact ⟨rfl, hb4⟩
        · have hK : Hid (kidsL l (i : Int) = kid l (i : Int)) := by
            show _ = _
            unfold kidsL
            rw [if_pos h]
          have hkl : 0 < (ni (kid l (i : Int))).length := by rw [ni_length]; exact List.length_pos_iff.2 he
          rw [h]
          generalize nW l (i : Int) = W at *
          generalize nH l (i : Int) = H at *
          clear hk h he
          generalize hy : bx l i = y at *
          clear hy
          have hs3 := hb.size
          go_wp2_with (fail)
          refine (KidsOf_any (l := l) (i : Int) _ (hrd.alloc _)).mono ?_
          rintro e w4 ⟨v4, rfl, ho4, hx4⟩
          rw [hK.out] at ho4
          obtain ⟨a4, c4', rfl, hn4, hc4⟩ := ho4.rd.len
          have hc4' : c4' ≤ maxLen := hc4
          unfold maxLen at hc4'
          have hb4 := after (hb.alloc hb.size _) hx4 (by simp)
          clear ho4 hx4 hrd c0 c1 c2 c3 c4 c5 c6 c7 c8
          generalize (ni (kid l (i : Int))).length = N at *
          go_wp2
          go_ret
          exact ⟨rfl, hb4⟩
    · have h' : inB l i = false := by simpa using h
      rw [h']
      clear h
      go_wp2
      go_ret
      exact ⟨rfl, hb⟩
set_option maxRecDepth 100000 in
set_option maxHeartbeats 4000000 in
theorem FnNaturalSizeKids_any {v : Value} (w : World) (hv : RdBytes w v) :
    Calls Try.prog 9 #[v] w fun e w' => e = .returned (.bool true) ∧ Ext w w' := by
  have hv2 := hv
  obtain ⟨ad, n, c, rfl, hn, hc, _⟩ := hv
  unfold maxLen at hc
  by_cases hlen : 1048576 < n
  · have hlen' : (1048576 : Int) < n := by omega
    go_enter Try.func9, Try.ntmps9
    go_wp2
    go_ret
    exact ⟨rfl, Below.refl _ _⟩
  · have hlen' : ¬ ((1048576 : Int) < n) := by omega
    go_enter Try.func9, Try.ntmps9
    go_wp2_with (fail)
    refine (DrawNaturalSize_any _ hv2).mono ?_
    rintro e w1 ⟨v1, i, rfl, l, hl, hi0, hi1, ho1, hb⟩
    have hrT := ho1.rd
    clear ho1 hv2
    go_wp2_with (fail)
    refine ((NaturalSize_any (l := l) i _ hrT)).mono ?_
    rintro e w2 ⟨rfl, hx⟩
    replace hb := after hb hx (Nat.le_refl _)
    replace hrT := hrT.below hx (Nat.le_refl _)
    clear hx
    go_wp2_with (fail)
    refine ((sNaturalSize_any (l := l) i _ hrT (by omega))).mono ?_
    rintro e w3 ⟨rfl, hx⟩
    replace hb := after hb hx (Nat.le_refl _)
    replace hrT := hrT.below hx (Nat.le_refl _)
    clear hx
    by_cases h : inB l i = true
    · obtain ⟨i, rfl⟩ := Int.eq_ofNat_of_zero_le (inB_iff.1 h).2.1
      have hi : i < l.length := by have := (inB_iff.1 h).2.2; omega
      have hil : (i : Int) < l.length := by omega
      have hob := okB_bounds ((inB_iff.1 h).1.ok i hi)
      have Hz := fun (j : Int) => Lib.hid (n_sz (l := l) (i := j))
      have hwz := n_sz (l := l) (i := (i : Int))
      have hkl : (ni (kid l (i : Int))).length ≤ 16 := by
        have h1 := List.length_filter_le (fun k => decide (par l k = (i : Int))) (List.range l.length)
        rw [List.length_range] at h1
        rw [ni_length]
        unfold kid
        omega
      have hK : Hid (kidsL l (i : Int) = kid l (i : Int)) := by
        show _ = _
        unfold kidsL
        rw [if_pos h]
      have H := Lib.hid h
      have hrd := hrT
      obtain ⟨a, c, rfl, hn3, hc3, hC⟩ := hrT.boxes
      unfold maxLen at hc3
      obtain ⟨b, off, rfl, _, _⟩ := hC i _ (bx_get hi)
      rw [h]
      clear hC hrT h
      go_wp2_with (fail)
      refine (KidsOf_any (l := l) (i : Int) _ hrd).mono ?_
      rintro e w4 ⟨v4, rfl, ho4, hx⟩
      rw [hK.out] at ho4
      have hrK := ho4.rd
      replace hb := after hb hx (Nat.le_refl _)
      replace hrd := hrd.below hx (Nat.le_refl _)
      obtain ⟨a4, c4, rfl, hn4, hc4⟩ := hrK.len
      have hc4' : c4 ≤ maxLen := hc4
      unfold maxLen at hc4'
      clear ho4 hx
      go_wp2
      go_loopw [12] (fun n wr => ∃ k : Nat, n = .int .i64 k ∧ k ≤ (ni (kid l (i : Int))).length ∧ Rd wr 1 (.slice a4 (ni (kid l (i : Int))).length c4) (Is (ni (kid l (i : Int)))) ∧ Rd wr 9 (.slice (some ⟨b, off, none⟩) l.length c) (Bs l) ∧ Below w.heap.size w wr) (fun n _ => (ni (kid l (i : Int))).length - (intOf n).toNat)
      case atStart => exact ⟨0, rfl, Nat.zero_le _, hrK, hrd, hb⟩
      case round =>
        clear hrK hrd hb
        obtain ⟨k, rfl, hk, hrK, hrd, hb⟩ := hrel
        by_cases hlt : k < (ni (kid l (i : Int))).length
        · have hlti : (k : Int) < (ni (kid l (i : Int))).length := by omega
          obtain ⟨x, hx⟩ : ∃ x, (ni (kid l (i : Int)))[k]? = some x := ⟨_, List.getElem?_eq_getElem hlt⟩
          obtain ⟨m, hm, rfl⟩ := mem_ni.1 (List.mem_of_getElem? hx)
          obtain ⟨a4', c4', e4, _, _, hcell⟩ := hrK.ints
          cases e4
          obtain ⟨b4, off4, rfl, hcc⟩ := hcell k _ hx
          have ck := hcc k _ hx
          obtain ⟨a', c', e', _, _, hC⟩ := hrd.boxes
          cases e'
          obtain ⟨b', off', e', _, hC⟩ := hC i _ (bx_get hi)
          cases e'
          have c4' := (hC i _ (bx_get hi)).c4
          have hmk := n_kid H.out hm
          have hmB := mem_inB H.out hm
          obtain ⟨y1, y2, y3, y4⟩ := (Hz (m : Int)).out
          obtain ⟨z1, z2, z3, z4⟩ := hwz
          clear hcell hcc hC hx
          have hne : Hid (nW l (i : Int) = nW l (i : Int)) := Lib.hid rfl
          go_wp2_with (fail)
          refine (NaturalSize_any (l := l) (m : Int) _ hrd).mono ?_
          rintro e w5 ⟨rfl, hx⟩
          rw [hmB]
          replace hb := after hb hx (Nat.le_refl _)
          replace hrd := hrd.below hx (Nat.le_refl _)
          replace hrK := hrK.below hx (Nat.le_refl _)
          replace c4' : w5.cell? ⟨b, off + i * 9 + 4, none⟩ = some (.int .i64 (bx l i).pad) := by
            rw [hx.cell (World.block_lt_of_cell? _ _ c4')]
            exact c4'
          clear hx ck
          go_wp2
          go_roundw
          case rel => exact ⟨k + 1, by go_num, by omega, hrK, hrd, hb⟩
          case measure => simp [intOf]; omega
        · obtain rfl : k = (ni (kid l (i : Int))).length := by omega
          go_wp2
          go_ret
          exact ⟨rfl, hb⟩
    · have h' : inB l i = false := by simpa using h
      rw [h']
      clear h
      go_wp2
      go_ret
      exact ⟨rfl, hb⟩
end Go.Proofs.Ytedheddfalmjmaa
