/-
  Dirty boxes of the reference: roots, covered, DirtyRoots, DirtyBoxes.
-/
import Derived.Test.YtckggmbmlpikhaaMark
namespace Go.Proofs.Ytckggmbmlpikhaa
open Go Go.RowKit

theorem all_take_succ {l : List Int} {P : Int → Bool} {q : Nat} {m : Int} (hm : l[q]? = some m) : (l.take (q + 1)).all P = ((l.take q).all P && P m) := by
  rw [List.take_add_one, hm, List.all_append]
  simp
theorem any_take_step {l : List Int} {P : Int → Bool} {q : Nat} {m : Int} (hm : l[q]? = some m) : (l.take (q + 1)).any P = ((l.take q).any P || P m) := by
  rw [List.take_add_one, hm, List.any_append]
  simp

set_option maxRecDepth 100000 in
set_option maxHeartbeats 1000000 in
theorem sroots_any {v u : Value} {l : List Bx} {ms : List Int} (hval : Valid l) (hms : inMarks l ms) (w : World) (hv : Rd w 9 v (Bs l)) (hu : Rd w 1 u (Is ms)) :
    Calls Try.prog 68 #[v, u] w fun e w' => ∃ v', e = .returned v' ∧ Own w' w.heap.size 1 v' (Is (ni (rootsL l ms))) ∧ Ext w w' := by
  have hrd := hv
  obtain ⟨a, c, rfl, hn, hc, _⟩ := hv.boxes
  obtain ⟨a2, c2, rfl, hn2, hc2, hcell⟩ := hu.ints
  unfold maxLen at hc hc2
  have HV := Lib.hid hval
  have HM := Lib.hid hms
  have HC := Lib.hid hcell
  have hll := hval.hi
  have HF : Hid (filTo (rootB l ms) l.length = rootsL l ms) := rfl
  clear hval hms hv hcell
  go_enter Try.func68, Try.ntmps68
  go_wp2
  go_loopw [5, 6] (fun s i wr => ∃ k : Nat, i = .int .i64 k ∧ k ≤ l.length ∧ Own wr w.heap.size 1 s (Is (ni (filTo (rootB l ms) k))) ∧ Below w.heap.size w wr) (fun _ i _ => l.length - (intOf i).toNat)
  case atStart => exact ⟨0, rfl, Nat.zero_le _, Own.empty _ _ _ _, Below.of_alloc _ _⟩
  case round =>
    obtain ⟨k, rfl, hk, ho, hb⟩ := hrel
    by_cases hlt : k < l.length
    · have hlti : (k : Int) < l.length := by omega
      have hsz := hb.size
      by_cases hmem : (k : Int) ∈ ms
      · have hmb : decide ((k : Int) ∈ ms) = true := by simp [hmem]
        have HMB := Lib.hid hmb
        clear hmem hmb
        go_wp2_with (fail)
        refine (sIsIn_any (l := ms) (k : Int) _ (hu.below hb (Nat.le_refl _))).mono ?_
        rintro e w2 ⟨he, rfl⟩
        rw [HMB.out] at he
        subst he
        go_wp2
        go_loop [7, 8] (fun t j => ∃ (q : Nat) (T : Bool), j = .int .i64 q ∧ q ≤ ms.length ∧ t = .bool T ∧ T = (ms.take q).all fun m => decide (m = (k : Int)) || !arB l m.toNat k) (fun _ j => ms.length - (intOf j).toNat)
        case atStart => exact ⟨0, true, rfl, Nat.zero_le _, rfl, by simp⟩
        case round =>
          obtain ⟨q, T, rfl, hq, rfl, hT⟩ := hrel
          have HT := Lib.hid hT
          clear hT
          by_cases hqt : q < ms.length
          · have hqti : (q : Int) < ms.length := by omega
            obtain ⟨m, hm⟩ : ∃ m, ms[q]? = some m := ⟨_, List.getElem?_eq_getElem hqt⟩
            obtain ⟨b3, off3, rfl, hC⟩ := HC.out q m hm
            have hck := cell_below hb (hC q m hm)
            have HS := Lib.hid (all_take_succ (P := fun m => decide (m = (k : Int)) || !arB l m.toNat k) hm)
            obtain ⟨hm0, hm1⟩ := HM.out m (List.mem_of_getElem? hm)
            clear hC hm
            cases T with
            | false =>
              go_wp2
              go_round
              case rel => exact ⟨q + 1, false, by go_num, by omega, rfl, by rw [HS.out, ← HT.out]; rfl⟩
              case measure => simp [intOf]; omega
            | true =>
              by_cases hmk : m = (k : Int)
              · have hmk' : (m == (k : Int)) = true := by simp [hmk]
                have HE := Lib.hid hmk
                clear hmk
                go_wp2
                go_round
                case rel => exact ⟨q + 1, true, by go_num, by omega, rfl, by rw [HS.out, ← HT.out, HE.out]; simp⟩
                case measure => simp [intOf]; omega
              · have hmk' : (m == (k : Int)) = false := by simp [hmk]
                have HE := Lib.hid hmk
                clear hmk
                go_wp2_with (fail)
                refine (saround_any (l := l) (a := m) (i := (k : Int)) _ hm0 (by omega) (by omega) (hrd.below hb (Nat.le_refl _)) (by rw [Int.toNat_natCast]; exact HV.out.down hlt)).mono ?_
                rintro e w2 ⟨rfl, rfl⟩
                rw [Int.toNat_natCast]
                have HE2 : Hid ((decide (m = (k : Int)) || !arB l m.toNat k) = !arB l m.toNat k) := by
                  show _ = _
                  simp [HE.out]
                go_wp2
                go_round
                case rel => exact ⟨q + 1, !arB l m.toNat k, by go_num, by omega, rfl, by rw [HS.out, ← HT.out, HE2.out]; rfl⟩
                case measure => simp [intOf]; omega
          · obtain rfl : q = ms.length := by omega
            have HR : Hid (rootB l ms k = T) := by
              show _ = _
              rw [HT.out, List.take_of_length_le (Nat.le_refl _)]
              unfold rootB
              rw [HMB.out]
              rfl
            cases T with
            | true =>
              go_wp2_with (at_builtin; refine wpList_app rfl _ _ _ rfl el_int rfl (ho.alloc _) rfl (Rd.oneAt _ _ (by simp)) (Is_one [(k : Int)]) ?hl ?hb ?hK)
              case hl => have := filTo_le (rootB l ms) k; rw [Is_length, ni_length]; simp; omega
              case hb => first | omega | (simp; omega)
              intro v' w3 ho1 hg1 hf1
              have hb1 := below_app (hb.alloc (by omega) _) (ho.alloc _) hg1 (by simp; omega) (Nat.le_refl _)
              clear ho hb hg1 hf1
              go_wp2
              go_roundw
              case rel => exact ⟨k + 1, by go_num, by omega, by rw [filTo_yes HR.out, ni_append, Is_append]; exact ho1, hb1⟩
              case measure => simp [intOf]; omega
            | false =>
              go_wp2
              go_roundw
              case rel => exact ⟨k + 1, by go_num, by omega, by rw [filTo_no HR.out]; exact ho, hb⟩
              case measure => simp [intOf]; omega
      · have hmb : decide ((k : Int) ∈ ms) = false := by simp [hmem]
        have HMB := Lib.hid hmb
        have HR : Hid (rootB l ms k = false) := by
          show _ = _
          unfold rootB
          rw [hmb]
          rfl
        clear hmem hmb
        go_wp2_with (fail)
        refine (sIsIn_any (l := ms) (k : Int) _ (hu.below hb (Nat.le_refl _))).mono ?_
        rintro e w2 ⟨he, rfl⟩
        rw [HMB.out] at he
        subst he
        go_wp2
        go_roundw
        case rel => exact ⟨k + 1, by go_num, by omega, by rw [filTo_no HR.out]; exact ho, hb⟩
        case measure => simp [intOf]; omega
    · obtain rfl : k = l.length := by omega
      rw [HF.out] at ho
      go_wp2
      go_ret
      exact ⟨_, rfl, ho, hb⟩
set_option maxRecDepth 100000 in
set_option maxHeartbeats 1000000 in
theorem covered_any {v u : Value} {l : List Bx} {ms : List Int} (hval : Valid l) (hms : inMarks l ms) (w : World) (hv : Rd w 9 v (Bs l)) (hu : Rd w 1 u (Is ms)) :
    Calls Try.prog 74 #[v, u] w fun e w' => ∃ v', e = .returned v' ∧ Own w' w.heap.size 1 v' (Is (ni (covL l ms))) ∧ Ext w w' := by
  have hrd := hv
  obtain ⟨a, c, rfl, hn, hc, _⟩ := hv.boxes
  obtain ⟨a2, c2, rfl, hn2, hc2, hcell⟩ := hu.ints
  unfold maxLen at hc hc2
  have HV := Lib.hid hval
  have HM := Lib.hid hms
  have HC := Lib.hid hcell
  have hll := hval.hi
  have HF : Hid (filTo (covB l ms) l.length = covL l ms) := rfl
  clear hval hms hv hcell
  go_enter Try.func74, Try.ntmps74
  go_wp2
  go_loopw [5, 6] (fun s i wr => ∃ k : Nat, i = .int .i64 k ∧ k ≤ l.length ∧ Own wr w.heap.size 1 s (Is (ni (filTo (covB l ms) k))) ∧ Below w.heap.size w wr) (fun _ i _ => l.length - (intOf i).toNat)
  case atStart => exact ⟨0, rfl, Nat.zero_le _, Own.empty _ _ _ _, Below.of_alloc _ _⟩
  case round =>
    obtain ⟨k, rfl, hk, ho, hb⟩ := hrel
    by_cases hlt : k < l.length
    · have hlti : (k : Int) < l.length := by omega
      have hsz := hb.size
      go_wp2
      go_loop [7, 8] (fun t j => ∃ (q : Nat) (T : Bool), j = .int .i64 q ∧ q ≤ ms.length ∧ t = .bool T ∧ T = (ms.take q).any fun m => arB l m.toNat k) (fun _ j => ms.length - (intOf j).toNat)
      case atStart => exact ⟨0, false, rfl, Nat.zero_le _, rfl, by simp⟩
      case round =>
        obtain ⟨q, T, rfl, hq, rfl, hT⟩ := hrel
        have HT := Lib.hid hT
        clear hT
        by_cases hqt : q < ms.length
        · have hqti : (q : Int) < ms.length := by omega
          obtain ⟨m, hm⟩ : ∃ m, ms[q]? = some m := ⟨_, List.getElem?_eq_getElem hqt⟩
          obtain ⟨b3, off3, rfl, hC⟩ := HC.out q m hm
          have hck := cell_below hb (hC q m hm)
          have HS := Lib.hid (any_take_step (P := fun m => arB l m.toNat k) hm)
          obtain ⟨hm0, hm1⟩ := HM.out m (List.mem_of_getElem? hm)
          clear hC hm
          cases T with
          | true =>
            go_wp2
            go_round
            case rel => exact ⟨q + 1, true, by go_num, by omega, rfl, by rw [HS.out, ← HT.out]; rfl⟩
            case measure => simp [intOf]; omega
          | false =>
            go_wp2_with (fail)
            refine (saround_any (l := l) (a := m) (i := (k : Int)) _ hm0 (by omega) (by omega) (hrd.below hb (Nat.le_refl _)) (by rw [Int.toNat_natCast]; exact HV.out.down hlt)).mono ?_
            rintro e w2 ⟨rfl, rfl⟩
            rw [Int.toNat_natCast]
            go_wp2
            go_round
            case rel => exact ⟨q + 1, arB l m.toNat k, by go_num, by omega, rfl, by rw [HS.out, ← HT.out]; rfl⟩
            case measure => simp [intOf]; omega
        · obtain rfl : q = ms.length := by omega
          have HR : Hid (covB l ms k = T) := by
            show _ = _
            rw [HT.out, List.take_of_length_le (Nat.le_refl _)]
            rfl
          cases T with
          | true =>
            go_wp2_with (at_builtin; refine wpList_app rfl _ _ _ rfl el_int rfl (ho.alloc _) rfl (Rd.oneAt _ _ (by simp)) (Is_one [(k : Int)]) ?hl ?hb ?hK)
            case hl => have := filTo_le (covB l ms) k; rw [Is_length, ni_length]; simp; omega
            case hb => first | omega | (simp; omega)
            intro v' w3 ho1 hg1 hf1
            have hb1 := below_app (hb.alloc (by omega) _) (ho.alloc _) hg1 (by simp; omega) (Nat.le_refl _)
            clear ho hb hg1 hf1
            go_wp2
            go_roundw
            case rel => exact ⟨k + 1, by go_num, by omega, by rw [filTo_yes HR.out, ni_append, Is_append]; exact ho1, hb1⟩
            case measure => simp [intOf]; omega
          | false =>
            go_wp2
            go_roundw
            case rel => exact ⟨k + 1, by go_num, by omega, by rw [filTo_no HR.out]; exact ho, hb⟩
            case measure => simp [intOf]; omega
    · obtain rfl : k = l.length := by omega
      rw [HF.out] at ho
      go_wp2
      go_ret
      exact ⟨_, rfl, ho, hb⟩
set_option maxHeartbeats 1000000 in
theorem sDirtyRoots_any {v u : Value} {l : List Bx} {ms : List Int} (w : World) (hv : Rd w 9 v (Bs l)) (hu : Rd w 1 u (Is ms)) (hl : l.length ≤ 1048576) :
    Calls Try.prog 33 #[v, u] w fun e w' => ∃ v', e = .returned v' ∧ Own w' w.heap.size 1 v' (Is (ni (drtL l ms))) ∧ Ext w w' := by
  by_cases h : mkB l ms = true
  · obtain ⟨hval, _, hin⟩ := mkB_iff.1 h
    have HV := Lib.hid hval
    have HI := Lib.hid hin
    have HD : Hid (drtL l ms = rootsL l ms) := by
      show _ = _
      unfold drtL
      rw [if_pos h]
    clear hval hin
    go_enter Try.func33, Try.ntmps33
    go_wp2_with (fail)
    refine (validMarks_any (l := l) (ms := ms) _ hv hu hl).mono ?_
    rintro e w1 ⟨he, hb⟩
    rw [h] at he
    subst he
    clear h
    go_wp2_with (fail)
    refine (sroots_any (l := l) (ms := ms) HV.out HI.out _ (hv.below hb (Nat.le_refl _)) (hu.below hb (Nat.le_refl _))).mono ?_
    rintro e w2 ⟨v2, rfl, ho, hx⟩
    go_wp2
    go_ret
    exact ⟨_, rfl, by rw [HD.out]; exact ho.weak hb.size, after hb hx (Nat.le_refl _)⟩
  · have h' : mkB l ms = false := by simpa using h
    have HD : Hid (drtL l ms = []) := by
      show _ = _
      unfold drtL
      rw [h']
      rfl
    clear h
    go_enter Try.func33, Try.ntmps33
    go_wp2_with (fail)
    refine (validMarks_any (l := l) (ms := ms) _ hv hu hl).mono ?_
    rintro e w1 ⟨he, hb⟩
    rw [h'] at he
    subst he
    go_wp2
    go_ret
    exact ⟨_, rfl, by rw [HD.out]; exact Own.nil _ _ _, hb⟩
set_option maxHeartbeats 1000000 in
theorem sDirtyBoxes_any {v u : Value} {l : List Bx} {ms : List Int} (w : World) (hv : Rd w 9 v (Bs l)) (hu : Rd w 1 u (Is ms)) (hl : l.length ≤ 1048576) :
    Calls Try.prog 39 #[v, u] w fun e w' => ∃ v', e = .returned v' ∧ Own w' w.heap.size 1 v' (Is (ni (dbxL l ms))) ∧ Ext w w' := by
  by_cases h : mkB l ms = true
  · obtain ⟨hval, _, hin⟩ := mkB_iff.1 h
    have HV := Lib.hid hval
    have HI := Lib.hid hin
    have HD : Hid (dbxL l ms = covL l ms) := by
      show _ = _
      unfold dbxL
      rw [if_pos h]
    clear hval hin
    go_enter Try.func39, Try.ntmps39
    go_wp2_with (fail)
    refine (validMarks_any (l := l) (ms := ms) _ hv hu hl).mono ?_
    rintro e w1 ⟨he, hb⟩
    rw [h] at he
    subst he
    clear h
    go_wp2_with (fail)
    refine (covered_any (l := l) (ms := ms) HV.out HI.out _ (hv.below hb (Nat.le_refl _)) (hu.below hb (Nat.le_refl _))).mono ?_
    rintro e w2 ⟨v2, rfl, ho, hx⟩
    go_wp2
    go_ret
    exact ⟨_, rfl, by rw [HD.out]; exact ho.weak hb.size, after hb hx (Nat.le_refl _)⟩
  · have h' : mkB l ms = false := by simpa using h
    have HD : Hid (dbxL l ms = []) := by
      show _ = _
      unfold dbxL
      rw [h']
      rfl
    clear h
    go_enter Try.func39, Try.ntmps39
    go_wp2_with (fail)
    refine (validMarks_any (l := l) (ms := ms) _ hv hu hl).mono ?_
    rintro e w1 ⟨he, hb⟩
    rw [h'] at he
    subst he
    go_wp2
    go_ret
    exact ⟨_, rfl, by rw [HD.out]; exact Own.nil _ _ _, hb⟩
end Go.Proofs.Ytckggmbmlpikhaa
