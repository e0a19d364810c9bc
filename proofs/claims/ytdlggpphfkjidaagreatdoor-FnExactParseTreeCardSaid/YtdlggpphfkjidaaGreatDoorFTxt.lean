/-
  The text of a tree: impl.FormatTree.
-/
import Derived.Test.YtdlggpphfkjidaaGreatDoorITxt
import Derived.Test.YtdlggpphfkjidaaGreatDoorVal2
import Derived.Test.YtdlggpphfkjidaaGreatDoorMake
namespace Go.Proofs.YtdlggpphfkjidaaGreatDoor
open Go Go.RowKit

/-- the text of a valid tree, or no text -/
def fmtT (l : List Bx) : List UInt8 := if vldB l then treeT l else []
theorem fmtT_t {l : List Bx} (h : vldB l = true) : fmtT l = treeT l := by
  unfold fmtT
  rw [if_pos h]
theorem fmtT_f {l : List Bx} (h : vldB l = false) : fmtT l = [] := by
  unfold fmtT
  rw [h]
  rfl
def linesTo (l : List Bx) (k : Nat) : List (List UInt8) := (List.range k).map (lineT l)
theorem linesTo_succ (l : List Bx) (k : Nat) : linesTo l (k + 1) = linesTo l k ++ [lineT l k] := by
  unfold linesTo
  rw [List.range_succ, List.map_append]
  rfl
theorem linesTo_length (l : List Bx) (k : Nat) : (linesTo l k).length = k := by simp [linesTo]
theorem lines_join {l : List Bx} (h : 1 ≤ l.length) : Lib.join (linesTo l l.length) [10] = treeT l := by
  unfold linesTo treeT
  obtain ⟨k, hk⟩ : ∃ k, l.length = k + 1 := ⟨l.length - 1, by omega⟩
  rw [hk]
  exact join_lines l k
theorem box_len {b : Bx} (h : okB b = true) : (boxT b).length ≤ 1300 := by
  have hb := okB_bounds h
  rw [← outTo_five]
  exact outTo_len (by omega) (by omega) (fun k => by unfold vlT; split <;> omega) 5
theorem line_len {l : List Bx} (hv : Valid l) {k : Nat} (hk : k < l.length) : (lineT l k).length ≤ 1400 := by
  have h1 := box_len (hv.ok k hk)
  have h2 := hv.depth k hk
  unfold lineT
  rw [List.length_append, List.length_replicate]
  omega
theorem text_len {l : List Bx} (hv : Valid l) : ∀ k, k ≤ l.length → (textTo l k).length ≤ 1500 * k
  | 0, _ => by simp [textTo]
  | 1, h => by
    have := line_len hv (k := 0) (by omega)
    show (lineT l 0).length ≤ _
    omega
  | k + 2, h => by
    have h1 := line_len hv (k := k + 1) (by omega)
    have ih := text_len hv (k + 1) (by omega)
    show (textTo l (k + 1) ++ 10 :: lineT l (k + 1)).length ≤ _
    rw [List.length_append, List.length_cons]
    omega
theorem Own.madeStrs (W : World) (base c : Nat) (hb : base ≤ W.heap.size) (hc : c ≤ 1048576) :
    Own (W.alloc (.cells (madeCells #[Value.string ⟨#[]⟩] c) 9)) base 1 (.slice (some ⟨W.heap.size, 0, none⟩) 0 c) (Ss []) := by
  have h := Own.made W (madeCells #[Value.string ⟨#[]⟩] c) 9 base 1 0 c hb (Nat.zero_le _) (by unfold maxLen; omega) (by rw [size_madeCells, Nat.mul_one])
  simpa [Ss] using h
set_option maxRecDepth 100000 in
set_option maxHeartbeats 1600000 in
theorem FormatTree_any {v : Value} {l : List Bx} (w : World) (hv : Rd w 9 v (Bs l)) (ht : Tab w) :
    Calls Tryz.prog 7 #[v] w fun e w' => e = .returned (sv (fmtT l)) ∧ Ext w w' := by
  have hrd := hv
  obtain ⟨a, c, rfl, hn, hc, _⟩ := hv.boxes
  unfold maxLen at hc
  have HT := Lib.hid (fun w' (h : Below w.heap.size w w') => ht.below h (Nat.le_refl _))
  clear hv ht
  go_enter Tryz.func7, Tryz.ntmps7
  cases hok : vldB l with
  | false =>
    have HO := Lib.hid (fmtT_f hok)
    go_wp2_with (fail)
    refine (ValidTree_any (l := l) _ hrd).mono ?_
    rintro e w1 ⟨he, hx⟩
    rw [hok] at he
    subst he
    clear hok hrd
    go_wp2
    go_ret
    exact ⟨by rw [HO.out]; rfl, hx⟩
  | true =>
    have HO := Lib.hid (fmtT_t hok)
    go_wp2_with (fail)
    refine (ValidTree_any (l := l) _ hrd).mono ?_
    rintro e w1 ⟨he, hx⟩
    rw [hok] at he
    subst he
    replace hrd := hrd.below hx (Nat.le_refl _)
    have hval := vldB_iff.1 hok
    have hlo := hval.lo
    have hhi := hval.hi
    have HV := Lib.hid hval
    obtain ⟨a', c', e', _, _, hX⟩ := hrd.boxes
    cases e'
    obtain ⟨bT, oT, rfl, hbT, _⟩ := hX 0 _ (bx_get (by omega))
    have hmk := fun W => mk_run0 (P := Tryz.prog) el_str l.length (by omega) W
    have hs1 := hx.size
    have HX1 := Lib.hid hx
    have HR := Lib.hid hrd
    clear hok hval hX hx hrd
    go_upto_region 5 with fail
    have ho := Own.madeStrs w1 w1.heap.size l.length (Nat.le_refl _) (by omega)
    have hb3 := Below.of_alloc w1 (.cells (madeCells #[Value.string ⟨#[]⟩] l.length) 9)
    clear hmk
    generalize w1.alloc (.cells (madeCells #[Value.string ⟨#[]⟩] l.length) 9) = W3 at *
    have HB3 := Lib.hid hb3
    have h31 := hb3.size
    clear hb3
    go_wp2
    go_loopw [3, 14] (fun o i wr => ∃ k : Nat, i = .int .i64 k ∧ k ≤ l.length ∧ Own wr w1.heap.size 1 o (Ss (linesTo l k)) ∧ Below w1.heap.size W3 wr) (fun _ i _ => l.length - (intOf i).toNat)
    case atStart => exact ⟨0, rfl, Nat.zero_le _, ho, Below.refl _ _⟩
    case round =>
      clear ho
      obtain ⟨k, rfl, hk, ho, hb⟩ := hrel
      have hwb : w1.heap.size ≤ wr.heap.size := Nat.le_trans h31 hb.size
      by_cases hlt : k < l.length
      · have hki : (k : Int) < l.length := by omega
        have hR := HR.out.below (HB3.out.trans hb) (Nat.le_refl _)
        obtain ⟨d0, d1, d2, d3, d4, d5, d6, d7, d8⟩ := cells_at hlt hR
        go_upto_region 7 with fail
        have kt := Keep.new wr (.cells (bx l k).arr 39)
        have hnt := ho.noBlk
        replace hb := hb.alloc hwb (.cells (bx l k).arr 39)
        replace ho := ho.alloc (.cells (bx l k).arr 39)
        clear d0 d1 d2 d3 d4 d5 d6 d7 d8 hR
        have hokb := HV.out.ok k hlt
        have hdep := HV.out.depth k hlt
        have hdn := HV.out.down hlt
        have hpos : 0 < (anc l k).length := by rw [anc_eq hdn]; simp
        have hbl := box_len hokb
        have HL : Hid ((⟨Array.replicate ((anc l k).length - 1) 45⟩ ++ ⟨(boxT (bx l k)).toArray⟩ : ByteArray) = ⟨(lineT l k).toArray⟩) := by
          show _ = _
          rw [show (⟨Array.replicate ((anc l k).length - 1) 45⟩ : ByteArray) = ⟨(List.replicate ((anc l k).length - 1) 45).toArray⟩ by simp, ba_append]
          rfl
        have HLS := Lib.hid (linesTo_succ l k)
        have hll := linesTo_length l k
        have HBX := Lib.hid (fun w (h : Tab w) => text_any (b := bx l k) w hokb h)
        have hrl : (List.replicate ((anc l k).length - 1) (45 : UInt8)).length = (anc l k).length - 1 := List.length_replicate ..
        have hsum : ¬ 9223372036854775807 < (anc l k).length - 1 + (boxT (bx l k)).length := by omega
        have hnw : IntKind.i64.wrap (((anc l k).length : Int) - 1) = (((anc l k).length - 1 : Nat) : Int) := by rw [IntKind.wrap_i64]; omega
        unfold Bx.arr at kt hb ho
        unfold Bx.agg at HBX
        generalize wr.alloc (.cells #[.int .i64 (bx l k).parent, .int .i64 (bx l k).kind, .int .i64 (bx l k).w, .int .i64 (bx l k).h, .int .i64 (bx l k).pad, .int .i64 (bx l k).gap, .int .i64 (bx l k).grow, .int .i64 (bx l k).shrink, .int .i64 (bx l k).justify] 39) = W1 at *
        generalize wr.heap.size = t at *
        refine wp_region_held_drew (S := fun w' => SK w1.heap.size W3 t (.cells #[.int .i64 (bx l k).parent, .int .i64 (bx l k).kind, .int .i64 (bx l k).w, .int .i64 (bx l k).h, .int .i64 (bx l k).pad, .int .i64 (bx l k).gap, .int .i64 (bx l k).grow, .int .i64 (bx l k).shrink, .int .i64 (bx l k).justify] 39) w') (by kernel_rfl) ⟨hb.drew, kt⟩ (fun hS => ?_)
        have ho0 := ho.drew
        clear ho kt hb
        generalize W1.drew = wd at *
        refine hTake (by kernel_rfl) (fun d _ _ _ _ h => by cases d <;> exact h) hS 0 (some 19) _ rfl (v := ?_) (by kernel_rfl) ?_ ?_
        rotate_left
        · intro _ _; go_simp; first | done | with_reducible rfl
        simp only [Act.put, List.setIfInBounds_toArray, List.set_cons_zero, List.set_cons_succ]
        refine hTake (by kernel_rfl) (fun d _ _ _ _ h => by cases d <;> exact h) hS 1 (some 20) _ rfl (v := ?_) (by kernel_rfl) ?_ ?_
        rotate_left
        · intro _ _; go_simp; first | done | with_reducible rfl
        simp only [Act.put, List.setIfInBounds_toArray, List.set_cons_zero, List.set_cons_succ]
        refine hTake (by kernel_rfl) (fun d _ _ _ _ h => by cases d <;> exact h) hS 2 (some 21) _ rfl (v := ?_) (by kernel_rfl) ?_ ?_
        rotate_left
        · intro _ _; go_simp; first | done | with_reducible rfl
        simp only [Act.put, List.setIfInBounds_toArray, List.set_cons_zero, List.set_cons_succ]
        refine hTake (by kernel_rfl) (fun d _ _ _ _ h => by cases d <;> exact h) hS 7 (some 26) _ rfl (v := ?_) (by kernel_rfl) ?_ ?_
        rotate_left
        · intro w9 hS9; have q0 := hS9.2.cell 0; have q1 := hS9.2.cell 1; have q2 := hS9.2.cell 2; have q3 := hS9.2.cell 3; have q4 := hS9.2.cell 4; have q5 := hS9.2.cell 5; have q6 := hS9.2.cell 6; have q7 := hS9.2.cell 7; have q8 := hS9.2.cell 8; go_simp; first | done | with_reducible rfl
        simp only [Act.put, List.setIfInBounds_toArray, List.set_cons_zero, List.set_cons_succ]
        refine wpAnyH_ready (rs := [3]) (by kernel_rfl) (by simp) ?_
        refine AllReadyH.cons (o := _) rfl (fun K9 hK9 => ?_) AllReadyH.nil
        go_simp
        refine (path_any (l := l) (i := k) _ (HR.out.below (HB3.out.trans hS.1) (Nat.le_refl _)) hlt hdn (by omega)).mono ?_
        rintro e w7 ⟨v7, rfl, ho7, hx⟩
        obtain ⟨a7, c7, rfl, hn7, hc7, _⟩ := ho7.rd.ints
        rw [ni_length, List.length_reverse] at hn7 ⊢
        try go_wp2_with fail
        replace ho0 := ho0.below hx (Nat.le_refl _)
        refine hK9.out _ _ (hS.ext hx h31) (fun hS => ?_)
        clear hK9 K9
        try simp only [Act.put, List.setIfInBounds_toArray, List.set_cons_zero, List.set_cons_succ]
        clear hx ho7
        refine hTake (by kernel_rfl) (fun d _ _ _ _ h => by cases d <;> exact h) hS 4 (some 23) _ rfl (v := ?_) (by kernel_rfl) ?_ ?_
        rotate_left
        · intro _ _; go_simp; first | done | with_reducible rfl
        simp only [Act.put, List.setIfInBounds_toArray, List.set_cons_zero, List.set_cons_succ]
        refine hTake (by kernel_rfl) (fun d _ _ _ _ h => by cases d <;> exact h) hS 5 (some 24) _ rfl (v := ?_) (by kernel_rfl) ?_ ?_
        rotate_left
        · intro _ _; go_simp; first | done | with_reducible rfl
        simp only [Act.put, List.setIfInBounds_toArray, List.set_cons_zero, List.set_cons_succ]
        refine wpAnyH_ready (rs := [6]) (by kernel_rfl) (by simp) ?_
        refine AllReadyH.cons (o := _) rfl (fun K9 hK9 => ?_) AllReadyH.nil
        go_simp
        refine (repeat_any ((anc l k).length - 1) _ (by omega)).mono ?_
        rintro e w8 ⟨rfl, hx⟩
        unfold sv
        try go_wp2_with fail
        replace ho0 := ho0.below hx (Nat.le_refl _)
        refine hK9.out _ _ (hS.ext hx h31) (fun hS => ?_)
        clear hK9 K9
        try simp only [Act.put, List.setIfInBounds_toArray, List.set_cons_zero, List.set_cons_succ]
        clear hx
        refine wpAnyH_ready (rs := [8]) (by kernel_rfl) (by simp) ?_
        refine AllReadyH.cons (o := _) rfl (fun K9 hK9 => ?_) AllReadyH.nil
        go_simp
        refine (HBX.out _ (HT.out _ (HX1.out.trans ((HB3.out.trans hS.1).mono hs1)))).mono ?_
        rintro e w9 ⟨rfl, hx⟩
        unfold sv
        try go_wp2_with fail
        replace ho0 := ho0.below hx (Nat.le_refl _)
        refine hK9.out _ _ (hS.ext hx h31) (fun hS => ?_)
        clear hK9 K9
        try simp only [Act.put, List.setIfInBounds_toArray, List.set_cons_zero, List.set_cons_succ]
        clear hx
        refine hTake (by kernel_rfl) (fun d _ _ _ _ h => by cases d <;> exact h) hS 9 (some 28) _ rfl (v := ?_) (by kernel_rfl) ?_ ?_
        rotate_left
        · intro _ _; go_simp; first | done | with_reducible rfl
        simp only [Act.put, List.setIfInBounds_toArray, List.set_cons_zero, List.set_cons_succ]
        refine wpAnyH_ready (rs := [10]) (by kernel_rfl) (by simp) ?_
        refine AllReadyH.cons (o := _) rfl (fun K9 hK9 => ?_) AllReadyH.nil
        go_simp
        rw [HL.out]
        refine hK9.out _ _ (hS.alloc _ h31) (fun hS => ?_)
        clear hK9 K9
        try simp only [Act.put, List.setIfInBounds_toArray, List.set_cons_zero, List.set_cons_succ]
        refine wpAnyH_ready (rs := [11]) (by kernel_rfl) (by simp) ?_
        refine AllReadyH.cons (o := _) rfl (fun K9 hK9 => ?_) AllReadyH.nil
        refine step_app rfl _ _ _ rfl el_str rfl (ho0.alloc _) rfl (show Rd _ 1 _ (Ss [lineT l k]) from Rd.oneAt _ _ rfl) (Ss_one _) ?hl ?hb ?hK
        case hl => rw [Ss_length, Ss_length, hll]; simp only [List.length_cons, List.length_nil]; omega
        case hb => exact Nat.le_trans h31 hS.1.size
        intro v8 wA ho8 hg8 hf8
        have hs8 := hS.app (ho0.alloc _) hg8 h31 (Nat.le_refl _) hnt
        refine hK9.out _ _ hs8 (fun hS => ?_)
        clear hK9 K9
        try simp only [Act.put, List.setIfInBounds_toArray]
        refine hTake (by kernel_rfl) (fun d _ _ _ _ h => by cases d <;> exact h) hS 12 (some 3) _ rfl (v := ?_) (by kernel_rfl) ?_ ?_
        rotate_left
        · intro _ _; go_simp; first | done | with_reducible rfl
        simp only [Act.put]
        refine wpAnyH_done (by kernel_rfl) ?_ _
        rw [← Ss_append, ← HLS.out] at ho8
        have hb8 := hs8.1
        clear hS hg8 hf8 ho0 hs8
        go_wp2
        go_roundw
        case rel => exact ⟨k + 1, by go_num, by omega, ho8, hb8⟩
        case measure => simp [intOf]; omega
      · obtain rfl : k = l.length := by omega
        have htl := text_len HV.out l.length (Nat.le_refl _)
        have HW := Lib.hid (lines_join hlo)
        have HJ := Lib.hid (join_any (l := linesTo l l.length) 10 wr ho.rd (fun e => by
          have := linesTo_length l l.length
          rw [e, List.length_nil] at this
          omega) (by rw [linesTo_length]; omega) (by rw [HW.out]; unfold treeT; omega))
        have HBF := Lib.hid (HX1.out.trans ((HB3.out.trans hb).mono hs1))
        clear ho hb
        go_wp2_with (fail)
        refine HJ.out.mono ?_
        rintro e w11 ⟨rfl, hx⟩
        rw [HW.out, ← HO.out]
        clear HJ HW HO
        go_wp2
        go_ret
        exact ⟨rfl, after HBF.out hx (Nat.le_refl _)⟩
end Go.Proofs.YtdlggpphfkjidaaGreatDoor
