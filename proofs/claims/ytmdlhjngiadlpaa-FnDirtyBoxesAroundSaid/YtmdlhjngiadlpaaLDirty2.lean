/-
  The law FnDirtyBoxesAround: the walk.
-/
import Derived.Test.YtmdlhjngiadlpaaLDirty
namespace Go.Proofs.Ytmdlhjngiadlpaa
open Go Go.RowKit

theorem dbx_some {l : List Bx} {ms : List Int} (h : ¬ dbxL l ms = []) : mkB l ms = true := by
  cases hm : mkB l ms with
  | true => rfl
  | false => exact absurd (by unfold dbxL; rw [hm]; rfl) h
theorem dbx_path {l : List Bx} {ms : List Int} (h : mkB l ms = true) {k : Nat} (hk : k < l.length) : decide ((k : Int) ∈ ni (dbxL l ms)) = (ni (anc l k).reverse).any fun p => decide (p ∈ ms) := by
  have hin := (mkB_iff.1 h).2.2
  rw [Bool.eq_iff_iff, decide_eq_true_eq, List.any_eq_true]
  unfold dbxL
  rw [if_pos h, mem_ni_nat, mem_cov]
  constructor
  · rintro ⟨_, m, hm, ha⟩
    have := hin m hm
    refine ⟨m, ?_, by simp [hm]⟩
    refine mem_ni.2 ⟨m.toNat, List.mem_reverse.2 ha, by omega⟩
  · rintro ⟨p, hp, hm⟩
    obtain ⟨q, hq, rfl⟩ := mem_ni.1 hp
    exact ⟨hk, (q : Int), by simpa using hm, by simpa using hq⟩

set_option maxRecDepth 100000 in
set_option maxHeartbeats 4000000 in
theorem FnDirtyBoxesAround_any {v : Value} (w : World) (hv : RdBytes w v) :
    Calls Try.prog 14 #[v] w fun e w' => e = .returned (.bool true) ∧ Ext w w' := by
  have hv2 := hv
  obtain ⟨ad, n, c, rfl, hn, hc, _⟩ := hv
  unfold maxLen at hc
  by_cases hlen : 1048576 < n
  · have hlen' : (1048576 : Int) < n := by omega
    go_enter Try.func14, Try.ntmps14
    go_wp2
    go_ret
    exact ⟨rfl, Below.refl _ _⟩
  · have hlen' : ¬ ((1048576 : Int) < n) := by omega
    go_enter Try.func14, Try.ntmps14
    go_wp2_with (fail)
    refine (DrawDirtyBoxes_any _ hv2).mono ?_
    rintro e w1 ⟨v1, u1, rfl, l, ms, hl, hms, ho1, hu1, hb⟩
    have hrT := ho1.rd
    have hrM := hu1.rd
    clear ho1 hu1 hv2
    go_wp2_with (fail)
    refine (DirtyBoxes_any (l := l) (ms := ms) _ hrT hrM).mono ?_
    rintro e w2 ⟨v2, rfl, ho2, hx⟩
    replace hb := after hb hx (Nat.le_refl _)
    replace hrT := hrT.below hx (Nat.le_refl _)
    replace hrM := hrM.below hx (Nat.le_refl _)
    have hrO := ho2.rd
    clear ho2 hx
    go_wp2_with (fail)
    refine (sDirtyBoxes_any (l := l) (ms := ms) _ hrT hrM (by omega)).mono ?_
    rintro e w3 ⟨v3, rfl, ho3, hx⟩
    replace hb := after hb hx (Nat.le_refl _)
    replace hrT := hrT.below hx (Nat.le_refl _)
    replace hrM := hrM.below hx (Nat.le_refl _)
    replace hrO := hrO.below hx (Nat.le_refl _)
    have hrW := ho3.rd
    clear ho3 hx
    obtain ⟨aO, cO, rfl, hnO, hcO⟩ := hrO.len
    have hcO' : cO ≤ maxLen := hcO
    unfold maxLen at hcO'
    obtain ⟨aM, cM, rfl, hnM, hcM⟩ := hrM.len
    have hcM' : cM ≤ maxLen := hcM
    unfold maxLen at hcM'
    clear hcO hcM
    go_wp2_with (fail)
    refine (equalInts_any _ hrO hrW).mono ?_
    rintro e w4 ⟨rfl, hx⟩
    rw [show decide (ni (dbxL l ms) = ni (dbxL l ms)) = true by simp]
    replace hb := after hb hx (Nat.le_refl _)
    replace hrT := hrT.below hx (Nat.le_refl _)
    replace hrM := hrM.below hx (Nat.le_refl _)
    replace hrO := hrO.below hx (Nat.le_refl _)
    clear hx hrW
    by_cases hz : dbxL l ms = []
    · have hz3 : (((ni (dbxL l ms)).length : Int) == 0) = true := by rw [hz]; rfl
      clear hz
      go_wp2_with (fail)
      refine (sDirtyBoxes_any (l := l) (ms := ms) _ hrT hrM (by omega)).mono ?_
      rintro e w6 ⟨v6, rfl, ho6, hx⟩
      replace hb := after hb hx (Nat.le_refl _)
      replace hrO := hrO.below hx (Nat.le_refl _)
      have hrW := ho6.rd
      clear ho6 hx
      go_wp2_with (fail)
      refine (equalInts_any _ hrO hrW).mono ?_
      rintro e w7 ⟨rfl, hx⟩
      rw [show decide (ni (dbxL l ms) = ni (dbxL l ms)) = true by simp]
      replace hb := after hb hx (Nat.le_refl _)
      go_wp2
      go_ret
      exact ⟨rfl, hb⟩
    · have hmk := dbx_some hz
      have hval := (mkB_iff.1 hmk).1
      have hpos : 0 < (ni (dbxL l ms)).length := by
        rw [ni_length]
        exact List.length_pos_iff.2 hz
      have hne : (((ni (dbxL l ms)).length : Int) == 0) = false := beq_eq_false_iff_ne.2 (by omega)
      have HMK := Lib.hid hmk
      have HV := Lib.hid hval
      obtain ⟨aT, cT, rfl, hnT, hcT, _⟩ := hrT.boxes
      have hcT' : cT ≤ maxLen := hcT
      unfold maxLen at hcT'
      clear hz hmk hval hcT
      go_wp2
      go_loopw [6] (fun i wr => ∃ k : Nat, i = .int .i64 k ∧ k ≤ l.length ∧ Rd wr 9 (.slice aT l.length cT) (Bs l) ∧ Rd wr 1 (.slice aM ms.length cM) (Is ms) ∧ Rd wr 1 (.slice aO (ni (dbxL l ms)).length cO) (Is (ni (dbxL l ms))) ∧ Below w.heap.size w wr) (fun i _ => l.length - (intOf i).toNat)
      case atStart => exact ⟨0, rfl, Nat.zero_le _, hrT, hrM, hrO, hb⟩
      case round =>
        clear hrT hrM hrO hb
        obtain ⟨k, rfl, hk, hrT, hrM, hrO, hb⟩ := hrel
        by_cases hlt : k < l.length
        · have hlti : (k : Int) < l.length := by omega
          have HX := Lib.hid (dbx_path HMK.out hlt)
          have HPL : Hid (pathL l (k : Int) = (anc l k).reverse) := by
            show _ = _
            unfold pathL
            rw [if_pos (inB_iff.2 ⟨HV.out, by omega, by omega⟩), Int.toNat_natCast]
          go_wp2_with (fail)
          refine (PathTo_any (l := l) (k : Int) _ hrT).mono ?_
          rintro e w6 ⟨v6, rfl, ho6, hx⟩
          rw [HPL.out] at ho6
          replace hb := after hb hx (Nat.le_refl _)
          replace hrT := hrT.below hx (Nat.le_refl _)
          replace hrM := hrM.below hx (Nat.le_refl _)
          replace hrO := hrO.below hx (Nat.le_refl _)
          have hrL := ho6.rd
          clear ho6 hx
          generalize ni (anc l k).reverse = L at *
          obtain ⟨aL, cL, rfl, hnL, hcL, hcell⟩ := hrL.ints
          have hcL' : cL ≤ maxLen := hcL
          unfold maxLen at hcL'
          have HC := Lib.hid hcell
          clear hcell hcL hrL
          go_wp2
          go_loop [8, 9] (fun t j => ∃ (q : Nat) (T : Bool), j = .int .i64 q ∧ q ≤ L.length ∧ t = .bool T ∧ T = (L.take q).any fun p => decide (p ∈ ms)) (fun _ j => L.length - (intOf j).toNat)
          case atStart => exact ⟨0, false, rfl, Nat.zero_le _, rfl, by simp⟩
          case round =>
            obtain ⟨q, T, rfl, hq, rfl, hT⟩ := hrel
            have HT := Lib.hid hT
            clear hT
            by_cases hqt : q < L.length
            · have hqti : (q : Int) < L.length := by omega
              obtain ⟨m, hm⟩ : ∃ m, L[q]? = some m := ⟨_, List.getElem?_eq_getElem hqt⟩
              obtain ⟨b3, off3, rfl, hC⟩ := HC.out q m hm
              have hck := hC q m hm
              have HS := Lib.hid (any_take_step (P := fun p => decide (p ∈ ms)) hm)
              clear hC hm
              cases T with
              | true =>
                go_wp2
                go_round
                case rel => exact ⟨q + 1, true, by go_num, by omega, rfl, by rw [HS.out, ← HT.out]; rfl⟩
                case measure => simp [intOf]; omega
              | false =>
                go_wp2_with (fail)
                refine (isIn_any (l := ms) m _ hrM).mono ?_
                rintro e w7 ⟨rfl, rfl⟩
                have HS2 : Hid ((L.take (q + 1)).any (fun p => decide (p ∈ ms)) = decide (m ∈ ms)) := by
                  show _ = _
                  rw [HS.out, ← HT.out]
                  rfl
                generalize decide (m ∈ ms) = D at *
                go_wp2
                go_round
                case rel => exact ⟨q + 1, D, by go_num, by omega, rfl, HS2.out.symm⟩
                case measure => simp [intOf]; omega
            · obtain rfl : q = L.length := by omega
              have HD : Hid (decide ((k : Int) ∈ ni (dbxL l ms)) = T) := by
                show _ = _
                rw [HX.out, HT.out, List.take_of_length_le (Nat.le_refl _)]
              go_wp2_with (fail)
              refine (isIn_any (l := ni (dbxL l ms)) (k : Int) _ hrO).mono ?_
              rintro e w7 ⟨rfl, rfl⟩
              rw [HD.out]
              go_wp2
              go_roundw
              case rel => exact ⟨k + 1, by go_num, by omega, hrT, hrM, hrO, hb⟩
              case measure => simp [intOf]; omega
        · obtain rfl : k = l.length := by omega
          go_wp2
          go_ret
          exact ⟨rfl, hb⟩
end Go.Proofs.Ytmdlhjngiadlpaa
