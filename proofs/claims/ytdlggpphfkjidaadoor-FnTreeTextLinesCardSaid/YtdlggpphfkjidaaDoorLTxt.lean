/-
  The laws over the texts of trees: FnTreeTextShort and FnTreeTextLines: the walks.
-/
import Derived.Lib.SlBytesConst
import Derived.Test.YtdlggpphfkjidaaDoorSFTxt
namespace Go.Proofs.YtdlggpphfkjidaaDoor
open Go Go.RowKit

theorem index_at (W : World) {S : List UInt8} {k : Nat} {c : UInt8} (h : S[k]? = some c) :
    Sem.run Tryd.prog (Instr.index 9 (.string ⟨S.toArray⟩) (.int .i64 (k : Int))) W = .ok (.int .u8 (c.toNat : Int)) W := by
  obtain ⟨h1, h2⟩ := List.getElem?_eq_some_iff.1 h
  have hsz : (⟨S.toArray⟩ : ByteArray).size = S.length := rfl
  rw [run_index_string _ _ _ _ _ (by kernel_rfl), dif_pos ⟨by omega, by rw [hsz]; omega⟩]
  subst h2
  rfl
theorem fmt_ne {l : List Bx} (h : ¬ fmtT l = []) : Valid l ∧ ∃ k, l.length = k + 1 ∧ fmtT l = textTo l (k + 1) := by
  cases hok : vldB l with
  | false => exact absurd (fmtT_f hok) h
  | true =>
    have hv := vldB_iff.1 hok
    have hlo := hv.lo
    refine ⟨hv, l.length - 1, by omega, ?_⟩
    rw [fmtT_t hok]
    unfold treeT
    congr 1
    omega
theorem byte_at {S : List UInt8} {k : Nat} {c : UInt8} (h : S[k]? = some c) (hk : k < (⟨S.toArray⟩ : ByteArray).size) : (⟨S.toArray⟩ : ByteArray)[k]'hk = c := by
  obtain ⟨h1, h2⟩ := List.getElem?_eq_some_iff.1 h
  subst h2
  rfl
theorem byte_ne {c d : UInt8} (h : c ≠ d) : ((c.toNat : Int) == (d.toNat : Int)) = false := by
  rw [beq_eq_false_iff_ne]
  intro e
  exact h (UInt8.toNat_inj.1 (by omega))
set_option maxRecDepth 100000 in
set_option maxHeartbeats 1600000 in
theorem FnTreeTextShort_any {v : Value} (w : World) (hv : RdBytes w v) (ht : Tab w) :
    Calls Tryd.prog 4 #[v] w fun e w' => e = .returned (.bool true) ∧ Ext w w' := by
  have hv2 := hv
  obtain ⟨ad, n, c, rfl, hn, hc, _⟩ := hv
  unfold maxLen at hc
  by_cases hlen : 1048576 < n
  · have hlen' : (1048576 : Int) < n := by omega
    go_enter Tryd.func4, Tryd.ntmps4
    go_wp2
    go_ret
    exact ⟨rfl, Below.refl _ _⟩
  · have hlen' : ¬ ((1048576 : Int) < n) := by omega
    go_enter Tryd.func4, Tryd.ntmps4
    go_wp2_with (fail)
    refine (DrawFormatTree_any _ hv2).mono ?_
    rintro e w1 ⟨v1, rfl, l, hl, ho1, hb⟩
    have hrT := ho1.rd
    replace ht := ht.below hb (Nat.le_refl _)
    clear ho1 hv2
    go_wp2_with (fail)
    refine ((FormatTree_any (l := l) _ hrT ht)).mono ?_
    rintro e w2 ⟨rfl, hx⟩
    replace hb := after hb hx (Nat.le_refl _)
    replace hrT := hrT.below hx (Nat.le_refl _)
    clear hx
    unfold sv
    go_wp2_with (fail)
    refine ((sFormatTree_any (l := l) _ hrT (by omega))).mono ?_
    rintro e w3 ⟨rfl, hx⟩
    replace hb := after hb hx (Nat.le_refl _)
    replace hrT := hrT.below hx (Nat.le_refl _)
    clear hx
    unfold sv
    by_cases hE : fmtT l = []
    · have HF := Lib.hid (fun W (h : Rd W 9 v1 (Bs l)) => sFormatTree_any (l := l) W h (by omega))
      rw [hE] at HF ⊢
      clear hE
      go_wp2_with (fail)
      refine ((HF.out _ hrT)).mono ?_
      rintro e w4 ⟨rfl, hx⟩
      replace hb := after hb hx (Nat.le_refl _)
      clear hx
      unfold sv
      go_wp2
      go_ret
      exact ⟨by first | rfl | (simp; done), hb⟩
    · obtain ⟨hval, m, hm, hS⟩ := fmt_ne hE
      have hok := spOk_text l m
      have htl := text_len hval (m + 1) (by omega)
      have hhi := hval.hi
      rw [← hS] at hok htl
      have HOK := Lib.hid hok
      have hSl : (fmtT l).length ≤ 30000 := by omega
      clear hok hval hm hS ht hrT htl
      have hpos : 0 < (fmtT l).length := List.length_pos_iff.2 hE
      have hemp : (fmtT l).isEmpty = false := by simpa using hE
      generalize fmtT l = S at *
      go_wp2
      go_loop [5] (fun i => ∃ k : Nat, i = .int .i64 k ∧ 1 ≤ k ∧ k ≤ S.length) (fun i => S.length - (intOf i).toNat)
      case atStart => exact ⟨1, rfl, by omega, by omega⟩
      case round =>
        obtain ⟨k, rfl, hk1, hk⟩ := hrel
        by_cases hlt : k < S.length
        · have hki : (k : Int) < S.length := by omega
          obtain ⟨j, rfl⟩ : ∃ j, k = j + 1 := ⟨k - 1, by omega⟩
          obtain ⟨c0, hc0⟩ : ∃ c0, S[j]? = some c0 := ⟨_, List.getElem?_eq_getElem (by omega)⟩
          obtain ⟨c1, hc1⟩ : ∃ c1, S[j + 1]? = some c1 := ⟨_, List.getElem?_eq_getElem (by omega)⟩
          have hz0 : j < (⟨S.toArray⟩ : ByteArray).size := by show j < S.length; omega
          have hz1 : j + 1 < (⟨S.toArray⟩ : ByteArray).size := by show j + 1 < S.length; omega
          have e0 := byte_at hc0 hz0
          have e1 := byte_at hc1 hz1
          by_cases h32 : c0 = 32
          · subst h32
            obtain ⟨c, h1, h2, h3⟩ := HOK.out j hc0
            rw [hc1] at h1
            cases h1
            have n1 : ((c1.toNat : Int) == 32) = false := byte_ne (d := 32) h2
            have n2 : ((c1.toNat : Int) == 10) = false := byte_ne (d := 10) h3
            clear hc0 hc1
            go_wp2
            go_round
            case rel => exact ⟨j + 1 + 1, by go_num, by omega, by omega⟩
            case measure => simp [intOf]; omega
          · have n0 : ((c0.toNat : Int) == 32) = false := byte_ne (d := 32) h32
            clear hc0 hc1
            go_wp2
            go_round
            case rel => exact ⟨j + 1 + 1, by go_num, by omega, by omega⟩
            case measure => simp [intOf]; omega
        · obtain rfl : k = S.length := by omega
          obtain ⟨c0, hc0⟩ : ∃ c0, S[S.length - 1]? = some c0 := ⟨_, List.getElem?_eq_getElem (by omega)⟩
          have hz0 : S.length - 1 < (⟨S.toArray⟩ : ByteArray).size := by show S.length - 1 < S.length; omega
          have e0 := byte_at hc0 hz0
          have n0 : ((c0.toNat : Int) == 32) = false := byte_ne (d := 32) (spOk_last HOK.out hc0)
          have n0' : ((c0.toNat : Int) != 32) = true := by unfold bne; rw [n0]; rfl
          have hw : IntKind.i64.wrap ((S.length : Int) - 1) = ((S.length - 1 : Nat) : Int) := by rw [IntKind.wrap_i64]; omega
          have hli : ((S.length - 1 : Nat) : Int) < S.length := by omega
          clear hc0
          go_wp2
          go_ret
          exact ⟨by first | (simp; done) | rfl, hb⟩
theorem nlTo_le (s : List UInt8) (n : Nat) : nlTo s n ≤ n := by
  unfold nlTo nls
  have h1 := List.length_filter_le (fun c : UInt8 => c == 10) (s.take n)
  have h2 := List.length_take_le n s
  omega
theorem nlTo_yes {s : List UInt8} {n : Nat} (h : s[n]? = some 10) : nlTo s (n + 1) = nlTo s n + 1 := by
  rw [nlTo_succ h, if_pos rfl]
theorem nlTo_no {s : List UInt8} {n : Nat} {c : UInt8} (h : s[n]? = some c) (hc : c ≠ 10) : nlTo s (n + 1) = nlTo s n := by
  rw [nlTo_succ h, if_neg hc, Nat.add_zero]
theorem nlTo_all (s : List UInt8) : nlTo s s.length = nls s := by
  unfold nlTo
  rw [List.take_length]
set_option maxRecDepth 100000 in
set_option maxHeartbeats 1600000 in
theorem FnTreeTextLines_any {v : Value} (w : World) (hv : RdBytes w v) (ht : Tab w) :
    Calls Tryd.prog 3 #[v] w fun e w' => e = .returned (.bool true) ∧ Ext w w' := by
  have hv2 := hv
  obtain ⟨ad, n, c, rfl, hn, hc, _⟩ := hv
  unfold maxLen at hc
  by_cases hlen : 1048576 < n
  · have hlen' : (1048576 : Int) < n := by omega
    go_enter Tryd.func3, Tryd.ntmps3
    go_wp2
    go_ret
    exact ⟨rfl, Below.refl _ _⟩
  · have hlen' : ¬ ((1048576 : Int) < n) := by omega
    go_enter Tryd.func3, Tryd.ntmps3
    go_wp2_with (fail)
    refine (DrawFormatTree_any _ hv2).mono ?_
    rintro e w1 ⟨v1, rfl, l, hl, ho1, hb⟩
    have hrT := ho1.rd
    replace ht := ht.below hb (Nat.le_refl _)
    clear ho1 hv2
    go_wp2_with (fail)
    refine ((FormatTree_any (l := l) _ hrT ht)).mono ?_
    rintro e w2 ⟨rfl, hx⟩
    replace hb := after hb hx (Nat.le_refl _)
    replace hrT := hrT.below hx (Nat.le_refl _)
    clear hx
    unfold sv
    go_wp2_with (fail)
    refine ((sFormatTree_any (l := l) _ hrT (by omega))).mono ?_
    rintro e w3 ⟨rfl, hx⟩
    replace hb := after hb hx (Nat.le_refl _)
    replace hrT := hrT.below hx (Nat.le_refl _)
    clear hx
    unfold sv
    by_cases hE : fmtT l = []
    · have HF := Lib.hid (fun W (h : Rd W 9 v1 (Bs l)) => sFormatTree_any (l := l) W h (by omega))
      rw [hE] at HF ⊢
      clear hE
      go_wp2_with (fail)
      refine ((HF.out _ hrT)).mono ?_
      rintro e w4 ⟨rfl, hx⟩
      replace hb := after hb hx (Nat.le_refl _)
      clear hx
      unfold sv
      go_wp2
      go_ret
      exact ⟨by first | rfl | (simp; done), hb⟩
    · obtain ⟨hval, m, hm, hS⟩ := fmt_ne hE
      have htl := text_len hval (m + 1) (by omega)
      have hhi := hval.hi
      have hlo := hval.lo
      have hhd := text_head hval m
      have hnl := nls_text l m
      rw [← hS] at htl hhd hnl
      have hSl : (fmtT l).length ≤ 30000 := by omega
      have hbk := okB_bounds (hval.ok 0 hlo)
      have HNL : Hid (nlTo (fmtT l) (fmtT l).length = l.length - 1) := by
        show _ = _
        rw [nlTo_all, hnl]
        omega
      have HHD := Lib.hid hhd
      obtain ⟨bT, oT, cT, rfl, hnT, hcT⟩ := rd_addr (show 0 < l.length by omega) hrT
      have HK := Lib.hid (cells_at (show 0 < l.length by omega) hrT).c1
      clear hval hm hS ht hrT htl hhd hnl
      have hpos : 0 < (fmtT l).length := List.length_pos_iff.2 hE
      have hemp : (fmtT l).isEmpty = false := by simpa using hE
      generalize fmtT l = S at *
      go_wp2
      go_loop [5, 6] (fun m i => ∃ k : Nat, i = .int .i64 k ∧ k ≤ S.length ∧ m = .int .i64 (nlTo S k : Nat)) (fun _ i => S.length - (intOf i).toNat)
      case atStart => exact ⟨0, rfl, by omega, by simp [nlTo, nls]⟩
      case round =>
        obtain ⟨k, rfl, hk, rfl⟩ := hrel
        have hnk := nlTo_le S k
        by_cases hlt : k < S.length
        · have hki : (k : Int) < S.length := by omega
          obtain ⟨c0, hc0⟩ : ∃ c0, S[k]? = some c0 := ⟨_, List.getElem?_eq_getElem (by omega)⟩
          have hz0 : k < (⟨S.toArray⟩ : ByteArray).size := by show k < S.length; omega
          have e0 := byte_at hc0 hz0
          by_cases h10 : c0 = 10
          · subst h10
            have HZ := Lib.hid (nlTo_yes hc0)
            clear hc0
            go_wp2
            go_round
            case rel => exact ⟨k + 1, by go_num, by omega, by rw [HZ.out]; go_num⟩
            case measure => simp [intOf]; omega
          · have HZ := Lib.hid (nlTo_no hc0 h10)
            have n0 : ((c0.toNat : Int) == 10) = false := byte_ne (d := 10) h10
            clear hc0 h10
            go_wp2
            go_round
            case rel => exact ⟨k + 1, by go_num, by omega, by rw [HZ.out]⟩
            case measure => simp [intOf]; omega
        · obtain rfl : k = S.length := by omega
          rw [HNL.out] at hnk ⊢
          have hcv := Lib.run_convert_bytes_const (P := Tryd.prog) w3 22 5 #[.int .u8 108, .int .u8 98, .int .u8 114, .int .u8 99] 4 4 (by kernel_rfl) (by kernel_rfl)
          go_upto_region 14 with fail
          have hb4 := hb.alloc hb.size (.cells #[.int .u8 108, .int .u8 98, .int .u8 114, .int .u8 99] 5 (4, 5))
          obtain ⟨kd, hkd⟩ : ∃ kd : Nat, (bx l 0).kind = (kd : Int) := ⟨(bx l 0).kind.toNat, by omega⟩
          have hx4 := Below.of_alloc w3 (.cells #[.int .u8 108, .int .u8 98, .int .u8 114, .int .u8 99] 5 (4, 5))
          have cT := cellB hx4 HK.out
          simp only [Nat.zero_mul, Nat.add_zero] at cT
          have cF : (w3.alloc (.cells #[.int .u8 108, .int .u8 98, .int .u8 114, .int .u8 99] 5 (4, 5))).cell? ⟨w3.heap.size, kd, none⟩ = some (.int .u8 ((kindC (kd : Int)).toNat : Int)) := by
            rw [World.cell?_alloc_mark]
            have : kd = 0 ∨ kd = 1 ∨ kd = 2 ∨ kd = 3 := by omega
            rcases this with rfl | rfl | rfl | rfl <;> rfl
          have hc0 : S[0]? = some (kindC (kd : Int)) := by rw [← hkd, ← List.head?_eq_getElem?]; exact HHD.out
          have hz0 : 0 < (⟨S.toArray⟩ : ByteArray).size := hpos
          have e0 := byte_at hc0 hz0
          rw [hkd] at cT
          have hk4 : (kd : Int) < 4 := by omega
          have hk0 : (0 : Int) ≤ (kd : Int) := by omega
          have hposi : (0 : Int) < S.length := by omega
          have hl0 : (0 : Int) < l.length := by omega
          have hl0n : 0 < l.length := by omega
          have hw : IntKind.i64.wrap ((l.length : Int) - 1) = ((l.length - 1 : Nat) : Int) := by rw [IntKind.wrap_i64]; omega
          generalize kindC (kd : Int) = c0 at *
          generalize w3.alloc (.cells #[.int .u8 108, .int .u8 98, .int .u8 114, .int .u8 99] 5 (4, 5)) = W4 at *
          generalize w3.heap.size = gF at *
          clear hcv hc0 hkd HK HHD HNL hx4 hb hbk
          refine wp_region_held_drew (S := fun w' => Below W4.heap.size W4 w') (by kernel_rfl) (Below.refl _ _).drew (fun hS => ?_)
          change wpAnyH _ _ _ _ _ _ _ _ W4.drew
          generalize W4.drew = wd at *
          refine hTake (by kernel_rfl) (fun d _ _ _ _ h => by cases d <;> exact h) hS 0 (some 41) _ rfl (v := ?_) (by kernel_rfl) ?_ ?_
          rotate_left
          · intro _ _; go_simp; first | done | with_reducible rfl
          simp only [Act.put, List.setIfInBounds_toArray, List.set_cons_zero, List.set_cons_succ]
          refine hTake (by kernel_rfl) (fun d _ _ _ _ h => by cases d <;> exact h) hS 1 (some 42) _ rfl (v := ?_) (by kernel_rfl) ?_ ?_
          rotate_left
          · intro _ _; go_simp; first | done | with_reducible rfl
          simp only [Act.put, List.setIfInBounds_toArray, List.set_cons_zero, List.set_cons_succ]
          refine hTake (by kernel_rfl) (fun d _ _ _ _ h => by cases d <;> exact h) hS 2 (some 43) _ rfl (v := ?_) (by kernel_rfl) ?_ ?_
          rotate_left
          · intro _ _; go_simp; first | done | with_reducible rfl
          simp only [Act.put, List.setIfInBounds_toArray, List.set_cons_zero, List.set_cons_succ]
          refine hTake (by kernel_rfl) (fun d _ _ _ _ h => by cases d <;> exact h) hS 3 (some 44) _ rfl (v := ?_) (by kernel_rfl) ?_ ?_
          rotate_left
          · intro _ _; go_simp; first | done | with_reducible rfl
          simp only [Act.put, List.setIfInBounds_toArray, List.set_cons_zero, List.set_cons_succ]
          refine hTake (by kernel_rfl) (fun d _ _ _ _ h => by cases d <;> exact h) hS 4 (some 45) _ rfl (v := ?_) (by kernel_rfl) ?_ ?_
          rotate_left
          · intro _ _; go_simp; first | done | with_reducible rfl
          simp only [Act.put, List.setIfInBounds_toArray, List.set_cons_zero, List.set_cons_succ]
          refine hTake (by kernel_rfl) (fun d _ _ _ _ h => by cases d <;> exact h) hS 5 (some 46) _ rfl (v := ?_) (by kernel_rfl) ?_ ?_
          rotate_left
          · intro _ _; go_simp; first | done | with_reducible rfl
          simp only [Act.put, List.setIfInBounds_toArray, List.set_cons_zero, List.set_cons_succ]
          refine hTake (by kernel_rfl) (fun d _ _ _ _ h => by cases d <;> exact h) hS 6 (some 47) _ rfl (v := ?_) (by kernel_rfl) ?_ ?_
          rotate_left
          · intro _ _; go_simp; first | done | with_reducible rfl
          simp only [Act.put, List.setIfInBounds_toArray, List.set_cons_zero, List.set_cons_succ]
          refine hTake (by kernel_rfl) (fun d _ _ _ _ h => by cases d <;> exact h) hS 7 (some 48) _ rfl (v := ?_) (by kernel_rfl) ?_ ?_
          rotate_left
          · intro _ _; go_simp; first | done | with_reducible rfl
          simp only [Act.put, List.setIfInBounds_toArray, List.set_cons_zero, List.set_cons_succ]
          refine hTake (by kernel_rfl) (fun d _ _ _ _ h => by cases d <;> exact h) hS 8 (some 49) _ rfl (v := ?_) (by kernel_rfl) ?_ ?_
          rotate_left
          · intro _ _; go_simp; first | done | with_reducible rfl
          simp only [Act.put, List.setIfInBounds_toArray, List.set_cons_zero, List.set_cons_succ]
          refine hTake (by kernel_rfl) (fun d _ _ _ _ h => by cases d <;> exact h) hS 9 (some 50) _ rfl (v := ?_) (by kernel_rfl) ?_ ?_
          rotate_left
          · intro _ _; go_simp; first | done | with_reducible rfl
          simp only [Act.put, List.setIfInBounds_toArray, List.set_cons_zero, List.set_cons_succ]
          refine hTake (by kernel_rfl) (fun d _ _ _ _ h => by cases d <;> exact h) hS 10 (some 51) _ rfl (v := ?_) (by kernel_rfl) ?_ ?_
          rotate_left
          · intro _ _; go_simp; first | done | with_reducible rfl
          simp only [Act.put, List.setIfInBounds_toArray, List.set_cons_zero, List.set_cons_succ]
          refine hTake (by kernel_rfl) (fun d _ _ _ _ h => by cases d <;> exact h) hS 11 (some 52) _ rfl (v := ?_) (by kernel_rfl) ?_ ?_
          rotate_left
          · intro _ _; go_simp; first | done | with_reducible rfl
          simp only [Act.put, List.setIfInBounds_toArray, List.set_cons_zero, List.set_cons_succ]
          refine hTake (by kernel_rfl) (fun d _ _ _ _ h => by cases d <;> exact h) hS 12 (some 53) _ rfl (v := ?_) (by kernel_rfl) ?_ ?_
          rotate_left
          · intro w9 hS9; have q := cellB hS9 cT; go_simp; first | done | with_reducible rfl
          simp only [Act.put, List.setIfInBounds_toArray, List.set_cons_zero, List.set_cons_succ]
          refine hTake (by kernel_rfl) (fun d _ _ _ _ h => by cases d <;> exact h) hS 13 (some 54) _ rfl (v := ?_) (by kernel_rfl) ?_ ?_
          rotate_left
          · intro _ _; go_simp; first | done | with_reducible rfl
          simp only [Act.put, List.setIfInBounds_toArray, List.set_cons_zero, List.set_cons_succ]
          refine hTake (by kernel_rfl) (fun d _ _ _ _ h => by cases d <;> exact h) hS 14 (some 55) _ rfl (v := ?_) (by kernel_rfl) ?_ ?_
          rotate_left
          · intro w9 hS9; have q := cellB hS9 cF; go_simp; first | done | with_reducible rfl
          simp only [Act.put, List.setIfInBounds_toArray, List.set_cons_zero, List.set_cons_succ]
          refine hTake (by kernel_rfl) (fun d _ _ _ _ h => by cases d <;> exact h) hS 15 (some 56) _ rfl (v := ?_) (by kernel_rfl) ?_ ?_
          rotate_left
          · intro _ _; go_simp; first | done | with_reducible rfl
          simp only [Act.put, List.setIfInBounds_toArray, List.set_cons_zero, List.set_cons_succ]
          refine hTake (by kernel_rfl) (fun d _ _ _ _ h => by cases d <;> exact h) hS 16 (some 57) _ rfl (v := ?_) (by kernel_rfl) ?_ ?_
          rotate_left
          · intro _ _; go_simp; first | done | with_reducible rfl
          simp only [Act.put, List.setIfInBounds_toArray, List.set_cons_zero, List.set_cons_succ]
          refine hTake (by kernel_rfl) (fun d _ _ _ _ h => by cases d <;> exact h) hS 17 (some 2) _ rfl (v := ?_) (by kernel_rfl) ?_ ?_
          rotate_left
          · intro _ _; go_simp; first | done | with_reducible rfl
          simp only [Act.put, List.setIfInBounds_toArray, List.set_cons_zero, List.set_cons_succ]
          refine wpAnyH_done (by kernel_rfl) ?_ _
          have HB9 := Lib.hid (after hb4 hS (Nat.le_refl _))
          clear hS hb4
          go_wp2
          go_ret
          exact ⟨by first | (simp; done) | rfl, HB9.out⟩
end Go.Proofs.YtdlggpphfkjidaaDoor
