/-
  The laws FnNaturalSizeRow and FnNaturalSizePad: the walks.
-/
import Derived.Test.YtedheddfalmjmaaLNat
import Derived.Test.YtedheddfalmjmaaSSty
import Derived.IntWalk
import Derived.Deep.DeepCutAuto
namespace Go.Proofs.Ytedheddfalmjmaa
open Go Go.RowKit

theorem ni_get {r : List Nat} {k m : Nat} (h : (ni r)[k]? = some ((m : Nat) : Int)) : r[k]? = some m := by
  unfold ni at h
  rw [List.getElem?_map] at h
  cases hq : r[k]? with
  | none => rw [hq] at h; cases h
  | some y =>
    rw [hq] at h
    simp only [Option.map_some, Option.some.injEq] at h
    congr 1
    omega
set_option maxRecDepth 100000 in
set_option maxHeartbeats 8000000 in
theorem FnNaturalSizeRow_any {v : Value} (w : World) (hv : RdBytes w v) :
    Calls Try.prog 10 #[v] w fun e w' => e = .returned (.bool true) ∧ Ext w w' := by
  have hv2 := hv
  obtain ⟨ad, n, c, rfl, hn, hc, _⟩ := hv
  unfold maxLen at hc
  by_cases hlen : 1048576 < n
  · have hlen' : (1048576 : Int) < n := by omega
    go_enter Try.func10, Try.ntmps10
    go_wp2
    go_ret
    exact ⟨rfl, Below.refl _ _⟩
  · have hlen' : ¬ ((1048576 : Int) < n) := by omega
    go_enter Try.func10, Try.ntmps10
    go_wp2_with (fail)
    refine (DrawNaturalSize_any _ hv2).mono ?_
    rintro e w1 ⟨v1, i, rfl, l, hl, hi0, hi1, ho1, hb⟩
    have hrT := ho1.rd
    clear ho1 hv2
    go_wp2_with (fail)
    refine ((NaturalSize_any (l := l) i _ hrT)).mono ?_
    rintro e w2 ⟨rfl, hx⟩
    replace hb := after hb hx (Nat.le_refl _)
    replace hrT := hrT.below hx (Nat.le_refl _)
    clear hx
    go_wp2_with (fail)
    refine ((sNaturalSize_any (l := l) i _ hrT (by omega))).mono ?_
    rintro e w3 ⟨rfl, hx⟩
    replace hb := after hb hx (Nat.le_refl _)
    replace hrT := hrT.below hx (Nat.le_refl _)
    clear hx
    by_cases h : inB l i = true
    · obtain ⟨i, rfl⟩ := Int.eq_ofNat_of_zero_le (inB_iff.1 h).2.1
      have hi : i < l.length := by have := (inB_iff.1 h).2.2; omega
      have hil : (i : Int) < l.length := by omega
      have hob := okB_bounds ((inB_iff.1 h).1.ok i hi)
      have Hz := fun (j : Int) => Lib.hid (n_sz (l := l) (i := j))
      obtain ⟨z1, z2, z3, z4⟩ := n_sz (l := l) (i := (i : Int))
      have HV := Lib.hid (inB_iff.1 h).1
      have hkl : (ni (kid l (i : Int))).length ≤ 8 := by
        rw [ni_length]
        exact (HV.out.kids i hi).1
      have hK : Hid (kidsL l (i : Int) = kid l (i : Int)) := by
        show _ = _
        unfold kidsL
        rw [if_pos h]
      have H := Lib.hid h
      have hrd := hrT
      obtain ⟨a, c, rfl, hn3, hc3, hC⟩ := hrT.boxes
      unfold maxLen at hc3
      obtain ⟨b, off, rfl, _, hC⟩ := hC i _ (bx_get hi)
      obtain ⟨c0, c1, c2, c3, c4, c5, c6, c7, c8⟩ := hC i _ (bx_get hi)
      rw [h]
      clear hC hrT h
      have hA0 : Hid ((2 * (bx l i).pad + alongTo l i 0) = 2 * (bx l i).pad + (bx l i).gap * max 0 (((ni (kid l (i : Int))).length : Int) - 1)) := by
        show _ = _
        unfold alongTo alongL gapsOf
        rw [List.take_zero, List.foldl_nil, ni_length]
        congr 1
        exact Int.mul_comm _ _
      have g0 : 0 ≤ (bx l i).gap * max 0 (((ni (kid l (i : Int))).length : Int) - 1) := Int.mul_nonneg (by omega) (by omega)
      have g1 : (bx l i).gap * max 0 (((ni (kid l (i : Int))).length : Int) - 1) ≤ 50 * 16 := Int.mul_le_mul (by omega) (by omega) (by omega) (by omega)
      by_cases hk0 : (bx l i).kind = 0
      · have hk' : ((bx l i).kind == 0) = true := by simp [hk0]
        clear hk0
        go_wp2
        go_ret
        exact ⟨rfl, hb⟩
      by_cases hk2 : (bx l i).kind = 2

      · have hM : Hid (∀ k : Nat, k ∈ kid l (i : Int) → mainOf (bx l i) (natS l k) = nW l (k : Int)) := fun k hk => by
          have hB := mem_inB H.out hk
          unfold mainOf
          first | (rw [if_pos hk2, nW_nat hB]) | (rw [if_neg hk2, nH_nat hB])
        have hE : Hid (nW l (i : Int) = 2 * (bx l i).pad + alongTo l i (kid l (i : Int)).length) := by
          show _ = _
          have h1 := nat_line HV.out hi hk0
          first | (rw [if_pos hk2] at h1; rw [nW_nat H.out]; omega) | (rw [if_neg hk2] at h1; rw [nH_nat H.out]; omega)
        have hkb : ((bx l i).kind == 2) = true := by simp [hk2]
        have hkn : ((bx l i).kind != 2) = false := by simp [hk2]
        have hk0b : ((bx l i).kind == 0) = false := by simp [hk0]
        clear hk2 hk0
        go_wp2_with (fail)
        refine (KidsOf_any (l := l) (i : Int) _ hrd).mono ?_
        rintro e w4 ⟨v4, rfl, ho4, hx⟩
        rw [hK.out] at ho4
        have hrK := ho4.rd
        replace hb := after hb hx (Nat.le_refl _)
        replace hrd := hrd.below hx (Nat.le_refl _)
        clear c0 c1 c2 c3 c4 c5 c6 c7 c8
        obtain ⟨a4, q4, rfl, hn4, hc4⟩ := hrK.len
        have hc4' : q4 ≤ maxLen := hc4
        unfold maxLen at hc4'
        have hcells : Cells9 w4 b (off + i * 9) (bx l i) := by
          obtain ⟨a', c', e', _, _, hC⟩ := hrd.boxes
          cases e'
          obtain ⟨b', off', e', _, hC⟩ := hC i _ (bx_get hi)
          cases e'
          exact hC i _ (bx_get hi)
        obtain ⟨d0, d1, d2, d3, d4, d5, d6, d7, d8⟩ := hcells
        clear ho4 hx
        go_upto_region 9 with fail
        go_cut [12] (fun s wx => s = .int .i64 (2 * (bx l i).pad + alongTo l i 0) ∧ Rd wx 1 (.slice a4 (ni (kid l (i : Int))).length q4) (Is (ni (kid l (i : Int)))) ∧ Rd wx 9 (.slice (some ⟨b, off, none⟩) l.length c) (Bs l) ∧ Below w.heap.size w wx)
        case first =>
          by_cases hN : 1 < (ni (kid l (i : Int))).length
          · have hA0' : Hid (2 * (bx l i).pad + alongTo l i 0 = 2 * (bx l i).pad + (bx l i).gap * (((ni (kid l (i : Int))).length : Int) - 1)) := by
              show _ = _
              rw [hA0.out, show max 0 (((ni (kid l (i : Int))).length : Int) - 1) = ((ni (kid l (i : Int))).length : Int) - 1 by omega]
            have g2 : 0 ≤ (bx l i).gap * (((ni (kid l (i : Int))).length : Int) - 1) := Int.mul_nonneg (by omega) (by omega)
            have g3 : (bx l i).gap * (((ni (kid l (i : Int))).length : Int) - 1) ≤ 50 * 16 := Int.mul_le_mul (by omega) (by omega) (by omega) (by omega)
            clear g0 g1
            generalize (ni (kid l (i : Int))).length = N at *
            have hN0 : (1 : Int) < (N : Int) := by omega
            go_wp2
            go_quiet (fail)
            go_wp2
            go_meet
            case rel => exact ⟨by rw [hA0'.out], rd_drewN hrK _, rd_drewN hrd _, below_drewN hb _⟩
          · have hA0' : Hid (2 * (bx l i).pad + alongTo l i 0 = 2 * (bx l i).pad) := by
              show _ = _
              rw [hA0.out, show max 0 (((ni (kid l (i : Int))).length : Int) - 1) = 0 by omega]
              omega
            clear g0 g1
            generalize (ni (kid l (i : Int))).length = N at *
            have hN0 : ¬ (1 : Int) < (N : Int) := by omega
            go_wp2
            go_quiet (fail)
            go_wp2
            go_meet
            case rel => exact ⟨by rw [hA0'.out], rd_drewN hrK _, rd_drewN hrd _, below_drewN hb _⟩
        case rest =>
        clear hrK hrd hb
        obtain ⟨rfl, hrK, hrd, hb⟩ := hcut
        clear d0 d1 d2 d3 d4 d5 d6 d7 d8 g0 g1
        go_wp2
        go_loopw [12, 13] (fun s n wr => ∃ k : Nat, n = .int .i64 k ∧ k ≤ (ni (kid l (i : Int))).length ∧ s = .int .i64 (2 * (bx l i).pad + alongTo l i k) ∧ Rd wr 1 (.slice a4 (ni (kid l (i : Int))).length q4) (Is (ni (kid l (i : Int)))) ∧ Rd wr 9 (.slice (some ⟨b, off, none⟩) l.length c) (Bs l) ∧ Below w.heap.size w wr) (fun _ n _ => (ni (kid l (i : Int))).length - (intOf n).toNat)
        case atStart => exact ⟨0, rfl, Nat.zero_le _, rfl, hrK, hrd, hb⟩
        case round =>
          clear hrK hrd hb
          obtain ⟨k, rfl, hk, rfl, hrK, hrd, hb⟩ := hrel
          have hcells : Cells9 wr b (off + i * 9) (bx l i) := by
            obtain ⟨a', c', e', _, _, hC⟩ := hrd.boxes
            cases e'
            obtain ⟨b', off', e', _, hC⟩ := hC i _ (bx_get hi)
            cases e'
            exact hC i _ (bx_get hi)
          have ck1 := hcells.c1
          clear hcells
          have hls := line_sz HV.out hi k (by rw [ni_length] at hk; exact hk)
          have hk8 : k ≤ 16 := by omega
          by_cases hlt : k < (ni (kid l (i : Int))).length
          · have hlti : (k : Int) < (ni (kid l (i : Int))).length := by omega
            obtain ⟨x, hx⟩ : ∃ x, (ni (kid l (i : Int)))[k]? = some x := ⟨_, List.getElem?_eq_getElem hlt⟩
            obtain ⟨m, hm, rfl⟩ := mem_ni.1 (List.mem_of_getElem? hx)
            have hg : (kid l (i : Int))[k]? = some m := ni_get hx
            have hS : Hid (alongTo l i (k + 1) = alongTo l i k + nW l (m : Int)) := by
              show _ = _
              rw [alongTo_succ hg, hM.out m hm]
            obtain ⟨a4', c4', e4, _, _, hcell⟩ := hrK.ints
            cases e4
            obtain ⟨b4, off4, rfl, hcc⟩ := hcell k _ hx
            have ck := hcc k _ hx
            have hmB := mem_inB H.out hm
            obtain ⟨y1, y2, y3, y4⟩ := (Hz (m : Int)).out
            clear hcell hcc hx hg
            go_wp2_with (fail)
            refine (NaturalSize_any (l := l) (m : Int) _ hrd).mono ?_
            rintro e w5 ⟨rfl, hx⟩
            rw [hmB]
            replace hb := after hb hx (Nat.le_refl _)
            replace hrd := hrd.below hx (Nat.le_refl _)
            replace hrK := hrK.below hx (Nat.le_refl _)
            replace ck1 : w5.cell? ⟨b, off + i * 9 + 1, none⟩ = some (.int .i64 (bx l i).kind) := by
              rw [hx.cell (World.block_lt_of_cell? _ _ ck1)]
              exact ck1
            clear hx ck hmB
            go_wp2
            go_roundw
            case rel => exact ⟨k + 1, by go_num, by omega, by rw [hS.out, ← Int.add_assoc], hrK, hrd, hb⟩
            case measure => simp [intOf]; omega
          · obtain rfl : k = (ni (kid l (i : Int))).length := by omega
            have hEE : Hid (2 * (bx l i).pad + alongTo l i (ni (kid l (i : Int))).length = nW l (i : Int)) := by
              show _ = _
              rw [hE.out, ni_length]
            rw [hEE.out]
            have hbeq : (nW l (i : Int) == nW l (i : Int)) = true := by simp
            go_wp2
            go_ret
            exact ⟨rfl, hb⟩
      · have hM : Hid (∀ k : Nat, k ∈ kid l (i : Int) → mainOf (bx l i) (natS l k) = nH l (k : Int)) := fun k hk => by
          have hB := mem_inB H.out hk
          unfold mainOf
          first | (rw [if_pos hk2, nW_nat hB]) | (rw [if_neg hk2, nH_nat hB])
        have hE : Hid (nH l (i : Int) = 2 * (bx l i).pad + alongTo l i (kid l (i : Int)).length) := by
          show _ = _
          have h1 := nat_line HV.out hi hk0
          first | (rw [if_pos hk2] at h1; rw [nW_nat H.out]; omega) | (rw [if_neg hk2] at h1; rw [nH_nat H.out]; omega)
        have hkb : ((bx l i).kind == 2) = false := by simp [hk2]
        have hkn : ((bx l i).kind != 2) = true := by simp [hk2]
        have hk0b : ((bx l i).kind == 0) = false := by simp [hk0]
        clear hk2 hk0
        go_wp2_with (fail)
        refine (KidsOf_any (l := l) (i : Int) _ hrd).mono ?_
        rintro e w4 ⟨v4, rfl, ho4, hx⟩
        rw [hK.out] at ho4
        have hrK := ho4.rd
        replace hb := after hb hx (Nat.le_refl _)
        replace hrd := hrd.below hx (Nat.le_refl _)
        clear c0 c1 c2 c3 c4 c5 c6 c7 c8
        obtain ⟨a4, q4, rfl, hn4, hc4⟩ := hrK.len
        have hc4' : q4 ≤ maxLen := hc4
        unfold maxLen at hc4'
        have hcells : Cells9 w4 b (off + i * 9) (bx l i) := by
          obtain ⟨a', c', e', _, _, hC⟩ := hrd.boxes
          cases e'
          obtain ⟨b', off', e', _, hC⟩ := hC i _ (bx_get hi)
          cases e'
          exact hC i _ (bx_get hi)
        obtain ⟨d0, d1, d2, d3, d4, d5, d6, d7, d8⟩ := hcells
        clear ho4 hx
        go_upto_region 9 with fail
        go_cut [12] (fun s wx => s = .int .i64 (2 * (bx l i).pad + alongTo l i 0) ∧ Rd wx 1 (.slice a4 (ni (kid l (i : Int))).length q4) (Is (ni (kid l (i : Int)))) ∧ Rd wx 9 (.slice (some ⟨b, off, none⟩) l.length c) (Bs l) ∧ Below w.heap.size w wx)
        case first =>
          by_cases hN : 1 < (ni (kid l (i : Int))).length
          · have hA0' : Hid (2 * (bx l i).pad + alongTo l i 0 = 2 * (bx l i).pad + (bx l i).gap * (((ni (kid l (i : Int))).length : Int) - 1)) := by
              show _ = _
              rw [hA0.out, show max 0 (((ni (kid l (i : Int))).length : Int) - 1) = ((ni (kid l (i : Int))).length : Int) - 1 by omega]
            have g2 : 0 ≤ (bx l i).gap * (((ni (kid l (i : Int))).length : Int) - 1) := Int.mul_nonneg (by omega) (by omega)
            have g3 : (bx l i).gap * (((ni (kid l (i : Int))).length : Int) - 1) ≤ 50 * 16 := Int.mul_le_mul (by omega) (by omega) (by omega) (by omega)
            clear g0 g1
            generalize (ni (kid l (i : Int))).length = N at *
            have hN0 : (1 : Int) < (N : Int) := by omega
            go_wp2
            go_quiet (fail)
            go_wp2
            go_meet
            case rel => exact ⟨by rw [hA0'.out], rd_drewN hrK _, rd_drewN hrd _, below_drewN hb _⟩
          · have hA0' : Hid (2 * (bx l i).pad + alongTo l i 0 = 2 * (bx l i).pad) := by
              show _ = _
              rw [hA0.out, show max 0 (((ni (kid l (i : Int))).length : Int) - 1) = 0 by omega]
              omega
            clear g0 g1
            generalize (ni (kid l (i : Int))).length = N at *
            have hN0 : ¬ (1 : Int) < (N : Int) := by omega
            go_wp2
            go_quiet (fail)
            go_wp2
            go_meet
            case rel => exact ⟨by rw [hA0'.out], rd_drewN hrK _, rd_drewN hrd _, below_drewN hb _⟩
        case rest =>
        clear hrK hrd hb
        obtain ⟨rfl, hrK, hrd, hb⟩ := hcut
        clear d0 d1 d2 d3 d4 d5 d6 d7 d8 g0 g1
        go_wp2
        go_loopw [12, 13] (fun s n wr => ∃ k : Nat, n = .int .i64 k ∧ k ≤ (ni (kid l (i : Int))).length ∧ s = .int .i64 (2 * (bx l i).pad + alongTo l i k) ∧ Rd wr 1 (.slice a4 (ni (kid l (i : Int))).length q4) (Is (ni (kid l (i : Int)))) ∧ Rd wr 9 (.slice (some ⟨b, off, none⟩) l.length c) (Bs l) ∧ Below w.heap.size w wr) (fun _ n _ => (ni (kid l (i : Int))).length - (intOf n).toNat)
        case atStart => exact ⟨0, rfl, Nat.zero_le _, rfl, hrK, hrd, hb⟩
        case round =>
          clear hrK hrd hb
          obtain ⟨k, rfl, hk, rfl, hrK, hrd, hb⟩ := hrel
          have hcells : Cells9 wr b (off + i * 9) (bx l i) := by
            obtain ⟨a', c', e', _, _, hC⟩ := hrd.boxes
            cases e'
            obtain ⟨b', off', e', _, hC⟩ := hC i _ (bx_get hi)
            cases e'
            exact hC i _ (bx_get hi)
          have ck1 := hcells.c1
          clear hcells
          have hls := line_sz HV.out hi k (by rw [ni_length] at hk; exact hk)
          have hk8 : k ≤ 16 := by omega
          by_cases hlt : k < (ni (kid l (i : Int))).length
          · have hlti : (k : Int) < (ni (kid l (i : Int))).length := by omega
            obtain ⟨x, hx⟩ : ∃ x, (ni (kid l (i : Int)))[k]? = some x := ⟨_, List.getElem?_eq_getElem hlt⟩
            obtain ⟨m, hm, rfl⟩ := mem_ni.1 (List.mem_of_getElem? hx)
            have hg : (kid l (i : Int))[k]? = some m := ni_get hx
            have hS : Hid (alongTo l i (k + 1) = alongTo l i k + nH l (m : Int)) := by
              show _ = _
              rw [alongTo_succ hg, hM.out m hm]
            obtain ⟨a4', c4', e4, _, _, hcell⟩ := hrK.ints
            cases e4
            obtain ⟨b4, off4, rfl, hcc⟩ := hcell k _ hx
            have ck := hcc k _ hx
            have hmB := mem_inB H.out hm
            obtain ⟨y1, y2, y3, y4⟩ := (Hz (m : Int)).out
            clear hcell hcc hx hg
            go_wp2_with (fail)
            refine (NaturalSize_any (l := l) (m : Int) _ hrd).mono ?_
            rintro e w5 ⟨rfl, hx⟩
            rw [hmB]
            replace hb := after hb hx (Nat.le_refl _)
            replace hrd := hrd.below hx (Nat.le_refl _)
            replace hrK := hrK.below hx (Nat.le_refl _)
            replace ck1 : w5.cell? ⟨b, off + i * 9 + 1, none⟩ = some (.int .i64 (bx l i).kind) := by
              rw [hx.cell (World.block_lt_of_cell? _ _ ck1)]
              exact ck1
            clear hx ck hmB
            go_wp2
            go_roundw
            case rel => exact ⟨k + 1, by go_num, by omega, by rw [hS.out, ← Int.add_assoc], hrK, hrd, hb⟩
            case measure => simp [intOf]; omega
          · obtain rfl : k = (ni (kid l (i : Int))).length := by omega
            have hEE : Hid (2 * (bx l i).pad + alongTo l i (ni (kid l (i : Int))).length = nH l (i : Int)) := by
              show _ = _
              rw [hE.out, ni_length]
            rw [hEE.out]
            have hbeq : (nH l (i : Int) == nH l (i : Int)) = true := by simp
            go_wp2
            go_ret
            exact ⟨rfl, hb⟩
    · have h' : inB l i = false := by simpa using h
      rw [h']
      clear h
      go_wp2
      go_ret
      exact ⟨rfl, hb⟩
end Go.Proofs.Ytedheddfalmjmaa
