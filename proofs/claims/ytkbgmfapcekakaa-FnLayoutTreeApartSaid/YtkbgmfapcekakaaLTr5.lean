/-
  The laws over LayoutTree: FnLayoutTreeApart.
-/
import Derived.Test.YtkbgmfapcekakaaTre
import Derived.Test.YtkbgmfapcekakaaAi
import Derived.Test.YtkbgmfapcekakaaAg
import Derived.Test.YtkbgmfapcekakaaAe
import Derived.Test.YtkbgmfapcekakaaMeet
import Derived.Test.YtkbgmfapcekakaaAf
import Derived.Test.YtkbgmfapcekakaaSSpl
import Derived.Test.YtkbgmfapcekakaaLStyA
namespace Go.Proofs.Ytkbgmfapcekakaa
open Go Go.RowKit

set_option maxRecDepth 100000 in
set_option maxHeartbeats 8000000 in
theorem FnLayoutTreeApart_any {v : Value} (w : World) (hv : RdBytes w v) :
    Calls Try.prog 10 #[v] w fun e w' => e = .returned (.bool true) ∧ Ext w w' := by
  have hv2 := hv
  obtain ⟨ad, n, c, rfl, hn, hc, _⟩ := hv
  unfold maxLen at hc
  by_cases hlen : 1048576 < n
  · have hlen' : (1048576 : Int) < n := by omega
    go_enter Try.func10, Try.ntmps10
    go_wp2
    go_ret
    exact ⟨rfl, Below.refl _ _⟩
  · have hlen' : ¬ ((1048576 : Int) < n) := by omega
    go_enter Try.func10, Try.ntmps10
    go_wp2_with (fail)
    refine (DrawLayoutTree_any _ hv2).mono ?_
    rintro e w1 ⟨v1, sw, sh, rfl, l, hl, hsw, hsh, ho1, hb⟩
    have hrT := ho1.rd
    clear ho1 hv2
    go_wp2_with (fail)
    refine ((LayoutTree_any (l := l) sw sh _ hrT)).mono ?_
    rintro e w2 ⟨v2, rfl, ho2, hx⟩
    replace hb := after hb hx (Nat.le_refl _)
    replace hrT := hrT.below hx (Nat.le_refl _)
    clear hx
    have hrO := ho2.rd
    clear ho2
    go_wp2_with (fail)
    refine ((sLayoutTree_any (l := l) sw sh _ hrT (by omega))).mono ?_
    rintro e w3 ⟨v3, rfl, ho3, hx⟩
    replace hb := after hb hx (Nat.le_refl _)
    replace hrT := hrT.below hx (Nat.le_refl _)
    replace hrO := hrO.below hx (Nat.le_refl _)
    clear hx
    have hrW := ho3.rd
    clear ho3
    cases hok : scrB l sw sh with
    | false =>
      have HO := Lib.hid (rectsOr_f hok)
      rw [HO.out] at hrO hrW
      clear hok
      go_wp2_with (fail)
      refine ((equalRects_any (l := []) _ hrO hrW)).mono ?_
      rintro e w4 ⟨rfl, hx⟩
      replace hb := after hb hx (Nat.le_refl _)
      replace hrT := hrT.below hx (Nat.le_refl _)
      replace hrO := hrO.below hx (Nat.le_refl _)
      clear hx
      clear hrW
      obtain ⟨aO, cO, rfl, hnO, hcO, _⟩ := hrO.rects
      rw [List.length_nil] at hrO
      go_wp2_with (fail)
      refine ((sLayoutTree_any (l := l) sw sh _ hrT (by omega))).mono ?_
      rintro e w5 ⟨v5, rfl, ho5, hx⟩
      replace hb := after hb hx (Nat.le_refl _)
      replace hrT := hrT.below hx (Nat.le_refl _)
      replace hrO := hrO.below hx (Nat.le_refl _)
      clear hx
      have hrW := ho5.rd
      rw [HO.out] at hrW
      clear ho5
      go_wp2_with (fail)
      refine ((equalRects_any (l := []) _ hrO hrW)).mono ?_
      rintro e w6 ⟨rfl, hx⟩
      replace hb := after hb hx (Nat.le_refl _)
      clear hx
      go_wp2
      go_ret
      exact ⟨rfl, hb⟩
    | true =>
      have HO := Lib.hid (rectsOr_t hok)
      rw [HO.out] at hrO hrW
      obtain ⟨hval, hsw2, hsh2⟩ := scrB_iff.1 hok
      clear hok hsw hsh
      go_wp2_with (fail)
      refine ((equalRects_any (l := rectL l sw sh) _ hrO hrW)).mono ?_
      rintro e w4 ⟨rfl, hx⟩
      replace hb := after hb hx (Nat.le_refl _)
      replace hrT := hrT.below hx (Nat.le_refl _)
      replace hrO := hrO.below hx (Nat.le_refl _)
      clear hx
      clear hrW
      have HV := Lib.hid hval
      have hlo := hval.lo
      have hz : ((l.length : Int) == 0) = false := beq_eq_false_iff_ne.2 (by omega)
      have HR := Lib.hid (fun k (hk : k < l.length) => rect_ok hval hsw2 hsh2 hk)
      obtain ⟨bO, oO, cO, rfl, hnO, hcO, hR⟩ := rectS hrO hlo
      have HRD := Lib.hid hrO
      obtain ⟨bT, oT, cT, rfl, hnT, hcT⟩ := rd_addr hlo hrT
      clear hval hrO
      have HRT := Lib.hid hrT
      have HAP := Lib.hid (fun (i k : Nat) (hi : i < l.length) (h0 : 0 < k) (hk : k < i) (he : (bx l i).parent = (bx l k).parent) => rect_apart HV.out hsw2 hsh2 (i := i) (k := k) hi h0 hk he)
      clear hrT
      go_wp2
      go_loopw [7] (fun n wr => ∃ i : Nat, n = .int .i64 i ∧ 1 ≤ i ∧ i ≤ l.length ∧ Hid (Rd wr 9 (.slice (some ⟨bT, oT, none⟩) l.length cT) (Bs l)) ∧ Hid (RC l sw sh bO oO wr) ∧ Below w.heap.size w wr) (fun n _ => l.length - (intOf n).toNat)
      case atStart => exact ⟨1, by go_num, Nat.le_refl _, hlo, HRT.out, hR, hb⟩
      case round =>
        clear HRT hR hb
        obtain ⟨wi, rfl⟩ : ∃ wi, wi = wr := ⟨_, rfl⟩
        obtain ⟨i, rfl, hi1, hi, HTT, HRR, hb⟩ := hrel
        by_cases hlt : i < l.length
        · have hii : (i : Int) < l.length := by omega
          have hii0 : (0 : Int) ≤ (i : Int) := by omega
          have cpi := (cells_at hlt HTT.out).c0
          have hci := HRR.out.cs i hlt
          have hbi0 := HRR.out.lt
          have hri := HR.out i hlt
          have hsi := hri.rs (show (100000 : Int) ≤ 1000000 by omega)
          have hvi := hri.vr
          clear hri
          go_wp2
          go_loopw [8] (fun n wr => ∃ k : Nat, n = .int .i64 k ∧ 1 ≤ k ∧ k ≤ i ∧ Below wi.heap.size wi wr) (fun n _ => i - (intOf n).toNat)
          case atStart => exact ⟨1, by go_num, Nat.le_refl _, hi1, Below.refl _ _⟩
          case round =>
            obtain ⟨k, rfl, hk1, hk, hbi⟩ := hrel
            by_cases hlt2 : k < i
            · have hkl : k < l.length := by omega
              have hki : (k : Int) < l.length := by omega
              have hkii : (k : Int) < (i : Int) := by omega
              have hki0 : (0 : Int) ≤ (k : Int) := by omega
              have cpi9 := cell_below hbi cpi
              have cpk := (cells_at hkl (HTT.out.below hbi (Nat.le_refl _))).c0
              by_cases he : (bx l i).parent = (bx l k).parent
              · have hA := HAP.out i k hlt hk1 hlt2 he
                have hrk := HR.out k hkl
                have hsk := hrk.rs (show (100000 : Int) ≤ 1000000 by omega)
                have hvk := hrk.vr
                have HIN := Lib.hid (fun W => MeetRects_any (r := rect l sw sh i) (s := rect l sw sh k) W hsi hsk hvi hvk hA)
                have hck := (HRR.out.below hbi (Nat.le_refl _)).cs k hkl
                have hci9 := hci.below hbi hbi0
                rw [he] at cpi9
                clear hA hrk hsk hvk he
                generalize rect l sw sh k = s at *
                generalize rect l sw sh i = r at *
                have hbo : bO < wr.heap.size := Nat.lt_of_lt_of_le hbi0 hbi.size
                have HCI := Lib.hid (fun w9 (h : Below wr.heap.size wr w9) => hci9.below h hbo)
                have HCK := Lib.hid (fun w9 (h : Below wr.heap.size wr w9) => hck.below h hbo)
                clear hci9 hck hbo
                go_wp2
                go_quiet (fail)
                clear cpi9 cpk
                go_upto_region 14 with fail
                generalize hW : wr.drewN _ = wn
                have hbn : Below wr.heap.size wr wn := by rw [← hW]; exact below_drewN (Below.refl _ _) _
                clear hW
                replace hbi := after hbi hbn (Nat.le_refl _)
                have HCI2 := Lib.hid (fun w9 (h : Below wn.heap.size wn w9) => HCI.out w9 (after hbn h (Nat.le_refl _)))
                have HCK2 := Lib.hid (fun w9 (h : Below wn.heap.size wn w9) => HCK.out w9 (after hbn h (Nat.le_refl _)))
                clear HCI HCK hbn
                refine wp_region_held_drew (S := fun w' => Below wn.heap.size wn w') (by kernel_rfl) (Below.refl _ _).drew (fun hS => ?_)
                change wpAnyH _ _ _ _ _ _ _ _ wn.drew
                generalize wn.drew = wd at *
                refine hTake (by kernel_rfl) (fun d _ _ _ _ h => by cases d <;> exact h) hS 0 (some 65) _ rfl (v := ?_) (by kernel_rfl) ?_ ?_
                rotate_left
                · intro _ _; go_simp; first | done | with_reducible rfl
                simp only [Act.put, List.setIfInBounds_toArray, List.set_cons_zero, List.set_cons_succ]
                refine hTake (by kernel_rfl) (fun d _ _ _ _ h => by cases d <;> exact h) hS 1 (some 66) _ rfl (v := ?_) (by kernel_rfl) ?_ ?_
                rotate_left
                · intro _ _; go_simp; first | done | with_reducible rfl
                simp only [Act.put, List.setIfInBounds_toArray, List.set_cons_zero, List.set_cons_succ]
                refine hTake (by kernel_rfl) (fun d _ _ _ _ h => by cases d <;> exact h) hS 2 (some 67) _ rfl (v := ?_) (by kernel_rfl) ?_ ?_
                rotate_left
                · intro _ _; go_simp; first | done | with_reducible rfl
                simp only [Act.put, List.setIfInBounds_toArray, List.set_cons_zero, List.set_cons_succ]
                refine hTake (by kernel_rfl) (fun d _ _ _ _ h => by cases d <;> exact h) hS 3 (some 68) _ rfl (v := ?_) (by kernel_rfl) ?_ ?_
                rotate_left
                · intro w9 hS9; obtain ⟨q0, q1, q2, q3⟩ := HCI2.out _ hS9; go_simp; first | done | with_reducible rfl
                simp only [Act.put, List.setIfInBounds_toArray, List.set_cons_zero, List.set_cons_succ]
                refine hTake (by kernel_rfl) (fun d _ _ _ _ h => by cases d <;> exact h) hS 4 (some 69) _ rfl (v := ?_) (by kernel_rfl) ?_ ?_
                rotate_left
                · intro _ _; go_simp; first | done | with_reducible rfl
                simp only [Act.put, List.setIfInBounds_toArray, List.set_cons_zero, List.set_cons_succ]
                refine hTake (by kernel_rfl) (fun d _ _ _ _ h => by cases d <;> exact h) hS 5 (some 70) _ rfl (v := ?_) (by kernel_rfl) ?_ ?_
                rotate_left
                · intro _ _; go_simp; first | done | with_reducible rfl
                simp only [Act.put, List.setIfInBounds_toArray, List.set_cons_zero, List.set_cons_succ]
                refine hTake (by kernel_rfl) (fun d _ _ _ _ h => by cases d <;> exact h) hS 6 (some 71) _ rfl (v := ?_) (by kernel_rfl) ?_ ?_
                rotate_left
                · intro _ _; go_simp; first | done | with_reducible rfl
                simp only [Act.put, List.setIfInBounds_toArray, List.set_cons_zero, List.set_cons_succ]
                refine hTake (by kernel_rfl) (fun d _ _ _ _ h => by cases d <;> exact h) hS 7 (some 72) _ rfl (v := ?_) (by kernel_rfl) ?_ ?_
                rotate_left
                · intro w9 hS9; obtain ⟨q0, q1, q2, q3⟩ := HCK2.out _ hS9; go_simp; first | done | with_reducible rfl
                simp only [Act.put, List.setIfInBounds_toArray, List.set_cons_zero, List.set_cons_succ]
                clear HCI2 HCK2
                refine wpAnyH_ready (rs := [8, 12]) (by kernel_rfl) (by simp) ?_
                refine AllReadyH.cons (o := _) rfl (fun K9 hK9 => ?_) (AllReadyH.cons (o := _) rfl (fun K9 hK9 => ?_) AllReadyH.nil)
                · go_simp
                  refine ((HIN.out _)).mono ?_
                  rintro e w7 ⟨rfl, hx7⟩
                  unfold Rc.agg
                  try go_wp2_with fail
                  refine hK9.out _ _ (after hS hx7 (Nat.le_refl _)) (fun hS => ?_)
                  clear hK9 K9
                  try simp only [Act.put, List.setIfInBounds_toArray, List.set_cons_zero, List.set_cons_succ]
                  clear hx7
                  refine hTake (by kernel_rfl) (fun d _ _ _ _ h => by cases d <;> exact h) hS 9 (some 64) _ rfl (v := ?_) (by kernel_rfl) ?_ ?_
                  rotate_left
                  · intro _ _; go_simp; first | done | with_reducible rfl
                  simp only [Act.put, List.setIfInBounds_toArray, List.set_cons_zero, List.set_cons_succ]
                  refine hTake (by kernel_rfl) (fun d _ _ _ _ h => by cases d <;> exact h) hS 10 (some 74) _ rfl (v := ?_) (by kernel_rfl) ?_ ?_
                  rotate_left
                  · intro _ _; go_simp; first | done | with_reducible rfl
                  simp only [Act.put, List.setIfInBounds_toArray, List.set_cons_zero, List.set_cons_succ]
                  refine hTake (by kernel_rfl) (fun d _ _ _ _ h => by cases d <;> exact h) hS 11 (some 75) _ rfl (v := ?_) (by kernel_rfl) ?_ ?_
                  rotate_left
                  · intro _ _; go_simp; first | done | with_reducible rfl
                  simp only [Act.put, List.setIfInBounds_toArray, List.set_cons_zero, List.set_cons_succ]
                  refine wpAnyH_ready (rs := [12]) (by kernel_rfl) (by simp) ?_
                  refine AllReadyH.cons (o := _) rfl (fun K9 hK9 => ?_) AllReadyH.nil
                  go_simp
                  have hS0 := hS
                  refine hK9.out _ _ (hS.alloc hS.size _) (fun hS => ?_)
                  clear hK9 K9
                  try simp only [Act.put, List.setIfInBounds_toArray, List.set_cons_zero, List.set_cons_succ]
                  clear hS
                  refine wpAnyH_ready (rs := [13]) (by kernel_rfl) (by simp) ?_
                  refine AllReadyH.cons (o := _) rfl (fun K9 hK9 => ?_) AllReadyH.nil
                  go_simp
                  refine hK9.out _ _ (hS0.alloc hS0.size _) (fun hS => ?_)
                  clear hK9 K9
                  try simp only [Act.put, List.setIfInBounds_toArray, List.set_cons_zero, List.set_cons_succ]
                  refine hTake (by kernel_rfl) (fun d _ _ _ _ h => by cases d <;> exact h) hS 14 (some 10) _ rfl (v := ?_) (by kernel_rfl) ?_ ?_
                  rotate_left
                  · intro _ _; go_simp; first | done | with_reducible rfl
                  simp only [Act.put, List.setIfInBounds_toArray, List.set_cons_zero, List.set_cons_succ]
                  refine wpAnyH_done (by kernel_rfl) ?_ _
                  have kQ := Keep.new w7 (.cells #[.int .i64 0, .int .i64 0, .int .i64 0, .int .i64 0] 35)
                  clear hS0
                  generalize w7.alloc (.cells #[.int .i64 0, .int .i64 0, .int .i64 0, .int .i64 0] 35) = W7 at *
                  generalize w7.heap.size = gQ at *
                  have HB6 := Lib.hid (after hbi hS (Nat.le_refl _))
                  clear hS hbi kQ
                  go_wp2
                  go_roundw
                  case rel => exact ⟨k + 1, by go_num, by omega, by omega, HB6.out⟩
                  case measure => simp [intOf]; omega
                · go_simp
                  have kZ := Keep.new wd (.cells #[.int .i64 0, .int .i64 0, .int .i64 0, .int .i64 0] 35)
                  have hgw := hS.size
                  refine hK9.out _ _ (hS.alloc hS.size _) (fun hS => ?_)
                  clear hK9 K9
                  try simp only [Act.put, List.setIfInBounds_toArray, List.set_cons_zero, List.set_cons_succ]
                  generalize wd.alloc (.cells #[.int .i64 0, .int .i64 0, .int .i64 0, .int .i64 0] 35) = we at *
                  generalize wd.heap.size = gQ at *
                  refine wpAnyH_ready (rs := [8]) (by kernel_rfl) (by simp) ?_
                  refine AllReadyH.cons (o := _) rfl (fun K9 hK9 => ?_) AllReadyH.nil
                  go_simp
                  refine ((HIN.out _)).mono ?_
                  rintro e w7 ⟨rfl, hx7⟩
                  unfold Rc.agg
                  try go_wp2_with fail
                  replace kZ := keepE kZ hx7
                  refine hK9.out _ _ (after hS hx7 (Nat.le_refl _)) (fun hS => ?_)
                  clear hK9 K9
                  try simp only [Act.put, List.setIfInBounds_toArray, List.set_cons_zero, List.set_cons_succ]
                  clear hx7
                  refine hTake (by kernel_rfl) (fun d _ _ _ _ h => by cases d <;> exact h) hS 9 (some 64) _ rfl (v := ?_) (by kernel_rfl) ?_ ?_
                  rotate_left
                  · intro _ _; go_simp; first | done | with_reducible rfl
                  simp only [Act.put, List.setIfInBounds_toArray, List.set_cons_zero, List.set_cons_succ]
                  refine hTake (by kernel_rfl) (fun d _ _ _ _ h => by cases d <;> exact h) hS 10 (some 74) _ rfl (v := ?_) (by kernel_rfl) ?_ ?_
                  rotate_left
                  · intro _ _; go_simp; first | done | with_reducible rfl
                  simp only [Act.put, List.setIfInBounds_toArray, List.set_cons_zero, List.set_cons_succ]
                  refine hTake (by kernel_rfl) (fun d _ _ _ _ h => by cases d <;> exact h) hS 11 (some 75) _ rfl (v := ?_) (by kernel_rfl) ?_ ?_
                  rotate_left
                  · intro _ _; go_simp; first | done | with_reducible rfl
                  simp only [Act.put, List.setIfInBounds_toArray, List.set_cons_zero, List.set_cons_succ]
                  have z0 := kZ.cell 0
                  have z1 := kZ.cell 1
                  have z2 := kZ.cell 2
                  have z3 := kZ.cell 3
                  have f0 := kZ.frozen 0
                  have f1 := kZ.frozen 1
                  have f2 := kZ.frozen 2
                  have f3 := kZ.frozen 3
                  have kQ := keep_rect kZ rfl (.int .i64 0) (.int .i64 0) (.int .i64 0) (.int .i64 0)
                  refine wpAnyH_ready (rs := [13]) (by kernel_rfl) (by simp) ?_
                  refine AllReadyH.cons (o := _) rfl (fun K9 hK9 => ?_) AllReadyH.nil
                  go_simp
                  refine hK9.out _ _ (below_set4' hS hgw _ _ _ _) (fun hS => ?_)
                  clear hK9 K9
                  try simp only [Act.put, List.setIfInBounds_toArray, List.set_cons_zero, List.set_cons_succ]
                  clear z0 z1 z2 z3 f0 f1 f2 f3 kZ hgw
                  generalize (((w7.setCell ⟨gQ, 0, none⟩ (.int .i64 0)).setCell ⟨gQ, 1, none⟩ (.int .i64 0)).setCell ⟨gQ, 2, none⟩ (.int .i64 0)).setCell ⟨gQ, 3, none⟩ (.int .i64 0) = W7 at *
                  refine hTake (by kernel_rfl) (fun d _ _ _ _ h => by cases d <;> exact h) hS 14 (some 10) _ rfl (v := ?_) (by kernel_rfl) ?_ ?_
                  rotate_left
                  · intro _ _; go_simp; first | done | with_reducible rfl
                  simp only [Act.put, List.setIfInBounds_toArray, List.set_cons_zero, List.set_cons_succ]
                  refine wpAnyH_done (by kernel_rfl) ?_ _
                  have HB6 := Lib.hid (after hbi hS (Nat.le_refl _))
                  clear hS hbi kQ
                  go_wp2
                  go_roundw
                  case rel => exact ⟨k + 1, by go_num, by omega, by omega, HB6.out⟩
                  case measure => simp [intOf]; omega
              · have e1 : ((bx l i).parent == (bx l k).parent) = false := beq_eq_false_iff_ne.2 he
                have HBI := Lib.hid (fun n => below_drewN hbi n)
                clear he
                go_wp2
                go_quiet (fail)
                clear cpi9 cpk
                go_wp2
                go_roundw
                case rel => exact ⟨k + 1, by go_num, by omega, by omega, HBI.out _⟩
                case measure => simp [intOf]; omega
            · obtain rfl : k = i := by omega
              have hB := Lib.hid (hb.trans (hbi.mono hb.size))
              clear cpi
              go_wp2
              go_roundw
              case rel => exact ⟨k + 1, by go_num, by omega, by omega, HTT.out.below hbi (Nat.le_refl _), HRR.out.below hbi (Nat.le_refl _), hB.out⟩
              case measure => simp [intOf]; omega
        · obtain rfl : i = l.length := by omega
          go_wp2
          go_ret
          exact ⟨rfl, hb⟩
end Go.Proofs.Ytkbgmfapcekakaa
