/-
  The text of a tree, of the reference: decimal, boxText, FormatTree.
-/
import Derived.Deep.Cut
import Derived.IntWalk
import Derived.StillTailTactics
import Derived.Laws.IdiomStrings
import Derived.Test.YtdlggpphfkjidaaGreatDoorReg
import Derived.Test.YtdlggpphfkjidaaGreatDoorBx
import Derived.Test.YtdlggpphfkjidaaGreatDoorCa
import Derived.Test.YtdlggpphfkjidaaGreatDoorStr
import Derived.Test.YtdlggpphfkjidaaGreatDoorTxt
import Derived.Test.YtdlggpphfkjidaaGreatDoorSVal
import Derived.Test.YtdlggpphfkjidaaGreatDoorNat
import Derived.Test.YtdlggpphfkjidaaGreatDoorSpec
namespace Go.Proofs.YtdlggpphfkjidaaGreatDoor
open Go Go.RowKit

theorem conv_one (W : World) (g : Nat) (c : UInt8) (x : Int) (hx : x = (c.toNat : Int)) (h : W.cell? ⟨g, 0, none⟩ = some (.int .u8 x)) :
    Sem.run Tryz.prog (convert 22 9 (.slice (some ⟨g, 0, none⟩) 1 1)) W = .ok (.string ⟨#[c]⟩) W :=
  run_convert_bytes_back W 22 9 5 ⟨g, 0, none⟩ 1 [c] (by kernel_rfl) (by kernel_rfl) (by kernel_rfl) (fun j hj => by
    have : j = 0 := by simp at hj; omega
    subst this
    subst hx
    exact h)
theorem dig_nat {d : Nat} (h : d < 10) : ((UInt8.ofNat (48 + d)).toNat : Int) = 48 + (d : Int) := by
  rw [UInt8.toNat_ofNat']
  omega
set_option maxRecDepth 100000 in
set_option maxHeartbeats 1000000 in
theorem sdec_any (n : Nat) : ∀ (w : World), n < 1000000 → Calls Tryz.prog 56 #[.int .i64 (n : Int)] w fun e w' => e = .returned (sv (Lib.decDigits n)) ∧ Ext w w' := by
  induction n using Nat.strongRecOn with
  | _ n ih =>
    intro w hn
    by_cases h : n < 10
    · have hi : (n : Int) < 10 := by omega
      have h0 : ¬ (n : Int) < 0 := by omega
      have HD : Hid (Lib.decDigits n = [UInt8.ofNat (48 + n)]) := by
        show _ = _
        rw [Lib.decDigits, dif_pos h]
      have hcv := conv_one (w.alloc (.cells #[.int .u8 (48 + (n : Int))] 5)) w.heap.size (UInt8.ofNat (48 + n)) _ (dig_nat h).symm (by rw [cell_of_heap (heap_alloc_new w _)]; rfl)
      have HB := Lib.hid (Below.of_alloc w (.cells #[.int .u8 (48 + (n : Int))] 5))
      generalize UInt8.ofNat (48 + n) = c at *
      clear ih
      go_enter Tryz.func56, Tryz.ntmps56
      go_wp2
      go_ret
      exact ⟨by rw [HD.out]; rfl, HB.out⟩
    · have hi : ¬ (n : Int) < 10 := by omega
      have h0 : ¬ (n : Int) < 0 := by omega
      have HD : Hid (Lib.decDigits n = Lib.decDigits (n / 10) ++ [UInt8.ofNat (48 + n % 10)]) := by
        show _ = _
        rw [Lib.decDigits, dif_neg h]
      have HIH := Lib.hid (fun w => ih (n / 10) (by omega) w (by omega))
      have HCV := Lib.hid (fun W g h => conv_one W g (UInt8.ofNat (48 + n % 10)) (48 + ((n % 10 : Nat) : Int)) (dig_nat (by omega)).symm h)
      generalize UInt8.ofNat (48 + n % 10) = c at *
      have htm : (n : Int).tmod 10 = ((n % 10 : Nat) : Int) := by rw [Int.tmod_eq_emod_of_nonneg (by omega)]; omega
      have hdv : IntKind.i64.wrap ((n : Int) / 10) = ((n / 10 : Nat) : Int) := by rw [IntKind.wrap_i64]; omega
      have hd10 : n % 10 < 10 := Nat.mod_lt _ (by omega)
      have hln : ¬ 9223372036854775807 < (Lib.decDigits (n / 10)).length + 1 := by
        have := dec_len (n / 10)
        omega
      generalize n / 10 = m at *
      generalize n % 10 = d at *
      have hdi : (d : Int) < 10 := by omega
      have hw48 : IntKind.i64.wrap (48 + (d : Int)) = 48 + (d : Int) := by rw [IntKind.wrap_i64]; omega
      have hw8 : IntKind.u8.wrap (48 + (d : Int)) = 48 + (d : Int) := by rw [IntKind.wrap_u8]; omega
      clear ih h
      go_enter Tryz.func56, Tryz.ntmps56
      go_upto_region 5 with fail
      refine wp_region_held_drew (S := fun w' => Below w.heap.size w w') (by kernel_rfl) (Below.refl _ _).drew (fun hS => ?_)
      change wpAnyH _ _ _ _ _ _ _ _ w.drew
      generalize w.drew = wd at *
      refine hTake (by kernel_rfl) (fun d _ _ _ _ h => by cases d <;> exact h) hS 0 (some 16) _ rfl (v := ?_) (by kernel_rfl) ?_ ?_
      rotate_left
      · intro _ _; go_simp; first | done | with_reducible rfl
      simp only [Act.put, List.setIfInBounds_toArray, List.set_cons_zero, List.set_cons_succ]
      refine hTake (by kernel_rfl) (fun d _ _ _ _ h => by cases d <;> exact h) hS 1 (some 17) _ rfl (v := ?_) (by kernel_rfl) ?_ ?_
      rotate_left
      · intro _ _; go_simp; first | done | with_reducible rfl
      simp only [Act.put, List.setIfInBounds_toArray, List.set_cons_zero, List.set_cons_succ]
      refine hTake (by kernel_rfl) (fun d _ _ _ _ h => by cases d <;> exact h) hS 3 (some 19) _ rfl (v := ?_) (by kernel_rfl) ?_ ?_
      rotate_left
      · intro _ _; go_simp; first | done | with_reducible rfl
      simp only [Act.put, List.setIfInBounds_toArray, List.set_cons_zero, List.set_cons_succ]
      refine hTake (by kernel_rfl) (fun d _ _ _ _ h => by cases d <;> exact h) hS 4 (some 20) _ rfl (v := ?_) (by kernel_rfl) ?_ ?_
      rotate_left
      · intro _ _; go_simp; first | done | with_reducible rfl
      simp only [Act.put, List.setIfInBounds_toArray, List.set_cons_zero, List.set_cons_succ]
      refine hTake (by kernel_rfl) (fun d _ _ _ _ h => by cases d <;> exact h) hS 5 (some 21) _ rfl (v := ?_) (by kernel_rfl) ?_ ?_
      rotate_left
      · intro _ _; go_simp; first | done | with_reducible rfl
      simp only [Act.put, List.setIfInBounds_toArray, List.set_cons_zero, List.set_cons_succ]
      refine hTake (by kernel_rfl) (fun d _ _ _ _ h => by cases d <;> exact h) hS 6 (some 22) _ rfl (v := ?_) (by kernel_rfl) ?_ ?_
      rotate_left
      · intro _ _; go_simp; first | done | with_reducible rfl
      simp only [Act.put, List.setIfInBounds_toArray, List.set_cons_zero, List.set_cons_succ]
      refine wpAnyH_ready (rs := [2, 7]) (by kernel_rfl) (by simp) ?_
      refine AllReadyH.cons (o := _) rfl (fun K9 hK9 => ?_) (AllReadyH.cons (o := _) rfl (fun K9 hK9 => ?_) AllReadyH.nil)
      · go_simp
        refine (HIH.out _).mono ?_
        rintro e w7 ⟨rfl, hx7⟩
        unfold sv
        try go_wp2_with fail
        refine hK9.out _ _ (after hS hx7 (Nat.le_refl _)) (fun hS => ?_)
        clear hK9 K9
        try simp only [Act.put, List.setIfInBounds_toArray, List.set_cons_zero, List.set_cons_succ]
        clear hx7
        refine wpAnyH_ready (rs := [7]) (by kernel_rfl) (by simp) ?_
        refine AllReadyH.cons (o := _) rfl (fun K9 hK9 => ?_) AllReadyH.nil
        go_simp
        have k7 := Keep.new w7 (.cells #[.int .u8 (48 + (d : Int))] 5)
        refine hK9.out _ _ (hS.alloc hS.size _) (fun hS => ?_)
        clear hK9 K9
        try simp only [Act.put, List.setIfInBounds_toArray, List.set_cons_zero, List.set_cons_succ]
        refine wpAnyH_ready (rs := [8]) (by kernel_rfl) (by simp) ?_
        refine AllReadyH.cons (o := _) rfl (fun K9 hK9 => ?_) AllReadyH.nil
        have hcv := HCV.out _ _ (k7.cell 0)
        go_simp
        refine hK9.out _ _ hS (fun hS => ?_)
        clear hK9 K9
        try simp only [Act.put, List.setIfInBounds_toArray, List.set_cons_zero, List.set_cons_succ]
        clear hcv k7
        refine hTake (by kernel_rfl) (fun d _ _ _ _ h => by cases d <;> exact h) hS 9 (some 25) _ rfl (v := ?_) (by kernel_rfl) ?_ ?_
        rotate_left
        · intro _ _; go_simp; first | done | with_reducible rfl
        simp only [Act.put, List.setIfInBounds_toArray, List.set_cons_zero, List.set_cons_succ]
        refine hTake (by kernel_rfl) (fun d _ _ _ _ h => by cases d <;> exact h) hS 10 (some 2) _ rfl (v := ?_) (by kernel_rfl) ?_ ?_
        rotate_left
        · intro _ _; go_simp; first | done | with_reducible rfl
        simp only [Act.put, List.setIfInBounds_toArray, List.set_cons_zero, List.set_cons_succ]
        refine wpAnyH_done (by kernel_rfl) ?_ _
        have HB := Lib.hid hS
        clear hS
        rw [show ByteArray.mk #[c] = ⟨[c].toArray⟩ from rfl, ba_append]
        go_wp2
        go_ret
        exact ⟨by rw [HD.out]; rfl, HB.out⟩
      · go_simp
        have k7 := Keep.new wd (.cells #[.int .u8 (48 + (d : Int))] 5)
        refine hK9.out _ _ (hS.alloc hS.size _) (fun hS => ?_)
        clear hK9 K9
        try simp only [Act.put, List.setIfInBounds_toArray, List.set_cons_zero, List.set_cons_succ]
        refine wpAnyH_ready (rs := [2, 8]) (by kernel_rfl) (by simp) ?_
        refine AllReadyH.cons (o := _) rfl (fun K9 hK9 => ?_) (AllReadyH.cons (o := _) rfl (fun K9 hK9 => ?_) AllReadyH.nil)
        · go_simp
          refine (HIH.out _).mono ?_
          rintro e w7 ⟨rfl, hx7⟩
          unfold sv
          try go_wp2_with fail
          replace k7 := keepE k7 hx7
          refine hK9.out _ _ (after hS hx7 (Nat.le_refl _)) (fun hS => ?_)
          clear hK9 K9
          try simp only [Act.put, List.setIfInBounds_toArray, List.set_cons_zero, List.set_cons_succ]
          clear hx7
          refine wpAnyH_ready (rs := [8]) (by kernel_rfl) (by simp) ?_
          refine AllReadyH.cons (o := _) rfl (fun K9 hK9 => ?_) AllReadyH.nil
          have hcv := HCV.out _ _ (k7.cell 0)
          go_simp
          refine hK9.out _ _ hS (fun hS => ?_)
          clear hK9 K9
          try simp only [Act.put, List.setIfInBounds_toArray, List.set_cons_zero, List.set_cons_succ]
          clear hcv k7
          refine hTake (by kernel_rfl) (fun d _ _ _ _ h => by cases d <;> exact h) hS 9 (some 25) _ rfl (v := ?_) (by kernel_rfl) ?_ ?_
          rotate_left
          · intro _ _; go_simp; first | done | with_reducible rfl
          simp only [Act.put, List.setIfInBounds_toArray, List.set_cons_zero, List.set_cons_succ]
          refine hTake (by kernel_rfl) (fun d _ _ _ _ h => by cases d <;> exact h) hS 10 (some 2) _ rfl (v := ?_) (by kernel_rfl) ?_ ?_
          rotate_left
          · intro _ _; go_simp; first | done | with_reducible rfl
          simp only [Act.put, List.setIfInBounds_toArray, List.set_cons_zero, List.set_cons_succ]
          refine wpAnyH_done (by kernel_rfl) ?_ _
          have HB := Lib.hid hS
          clear hS
          rw [show ByteArray.mk #[c] = ⟨[c].toArray⟩ from rfl, ba_append]
          go_wp2
          go_ret
          exact ⟨by rw [HD.out]; rfl, HB.out⟩
        · have hcv := HCV.out _ _ (k7.cell 0)
          go_simp
          refine hK9.out _ _ hS (fun hS => ?_)
          clear hK9 K9
          try simp only [Act.put, List.setIfInBounds_toArray, List.set_cons_zero, List.set_cons_succ]
          clear hcv k7
          refine wpAnyH_ready (rs := [2]) (by kernel_rfl) (by simp) ?_
          refine AllReadyH.cons (o := _) rfl (fun K9 hK9 => ?_) AllReadyH.nil
          go_simp
          refine (HIH.out _).mono ?_
          rintro e w7 ⟨rfl, hx7⟩
          unfold sv
          try go_wp2_with fail
          refine hK9.out _ _ (after hS hx7 (Nat.le_refl _)) (fun hS => ?_)
          clear hK9 K9
          try simp only [Act.put, List.setIfInBounds_toArray, List.set_cons_zero, List.set_cons_succ]
          clear hx7
          refine hTake (by kernel_rfl) (fun d _ _ _ _ h => by cases d <;> exact h) hS 9 (some 25) _ rfl (v := ?_) (by kernel_rfl) ?_ ?_
          rotate_left
          · intro _ _; go_simp; first | done | with_reducible rfl
          simp only [Act.put, List.setIfInBounds_toArray, List.set_cons_zero, List.set_cons_succ]
          refine hTake (by kernel_rfl) (fun d _ _ _ _ h => by cases d <;> exact h) hS 10 (some 2) _ rfl (v := ?_) (by kernel_rfl) ?_ ?_
          rotate_left
          · intro _ _; go_simp; first | done | with_reducible rfl
          simp only [Act.put, List.setIfInBounds_toArray, List.set_cons_zero, List.set_cons_succ]
          refine wpAnyH_done (by kernel_rfl) ?_ _
          have HB := Lib.hid hS
          clear hS
          rw [show ByteArray.mk #[c] = ⟨[c].toArray⟩ from rfl, ba_append]
          go_wp2
          go_ret
          exact ⟨by rw [HD.out]; rfl, HB.out⟩
theorem vl_le {b : Bx} (h : okB b = true) (k : Nat) : 0 ≤ vlT b k ∧ vlT b k ≤ 100 := by
  have hb := okB_bounds h
  unfold vlT
  split <;> omega
theorem num_eq {n : Int} (h : 0 ≤ n) : Lib.decDigits n.toNat = numT n ∧ ((n.toNat : Nat) : Int) = n := ⟨rfl, by omega⟩
theorem sdec_int {n : Int} (w : World) (h : 0 ≤ n ∧ n ≤ 100) : Calls Tryz.prog 56 #[.int .i64 n] w fun e w' => e = .returned (sv (numT n)) ∧ Ext w w' := by
  obtain ⟨m, rfl⟩ := Int.eq_ofNat_of_zero_le h.1
  exact sdec_any m w (by omega)
theorem keep_nx (w : World) (o1 o2 : Obj) : Keep (w.heap.size + 1) o2 ((w.alloc o1).alloc o2) := by
  have := Keep.new (w.alloc o1) o2
  rw [World.size_alloc] at this
  exact this
set_option maxRecDepth 100000 in
set_option maxHeartbeats 1600000 in
theorem sboxText_any {b : Bx} (w : World) (hok : okB b = true) :
    Calls Tryz.prog 25 #[b.agg] w fun e w' => e = .returned (sv (boxT b)) ∧ Ext w w' := by
  have hb := okB_bounds hok
  have kb := Keep.new w (.cells #[.int .i64 b.parent, .int .i64 b.kind, .int .i64 b.w, .int .i64 b.h, .int .i64 b.pad, .int .i64 b.gap, .int .i64 b.grow, .int .i64 b.shrink, .int .i64 b.justify] 39)
  have hb0 := Below.of_alloc w (.cells #[.int .i64 b.parent, .int .i64 b.kind, .int .i64 b.w, .int .i64 b.h, .int .i64 b.pad, .int .i64 b.gap, .int .i64 b.grow, .int .i64 b.shrink, .int .i64 b.justify] 39)
  have HVL := Lib.hid (vl_le hok)
  have HLN := Lib.hid (outTo_len (b := b) (by omega) (by omega) (fun k => (vl_le hok k).2))
  have hk : b.kind = 0 ∨ b.kind = 1 ∨ b.kind = 2 ∨ b.kind = 3 := by omega
  unfold Bx.agg
  go_enter Tryz.func25, Tryz.ntmps25
  go_upto_region 1 with fail
  generalize w.alloc (.cells #[.int .i64 b.parent, .int .i64 b.kind, .int .i64 b.w, .int .i64 b.h, .int .i64 b.pad, .int .i64 b.gap, .int .i64 b.grow, .int .i64 b.shrink, .int .i64 b.justify] 39) = W at *
  obtain ⟨g, hg⟩ : ∃ g, w.heap.size = g := ⟨_, rfl⟩
  rw [hg] at kb ⊢
  clear hg
  have hgl := kb.lt
  rcases hk with hkd | hkd | hkd | hkd
  · have c1 : W.cell? ⟨g, 1, none⟩ = some (.int .i64 0) := by rw [← hkd]; exact kb.cell 1
    go_upto_region 3 with fail
    have kb1 := kb.alloc (.cells #[.string ⟨#[108, 101, 97, 102]⟩, .string ⟨#[98, 108, 111, 99, 107]⟩, .string ⟨#[114, 111, 119]⟩, .string ⟨#[99, 111, 108, 117, 109, 110]⟩] 9)
    have hb1 := hb0.alloc hb0.size (.cells #[.string ⟨#[108, 101, 97, 102]⟩, .string ⟨#[98, 108, 111, 99, 107]⟩, .string ⟨#[114, 111, 119]⟩, .string ⟨#[99, 111, 108, 117, 109, 110]⟩] 9)
    generalize W.alloc (.cells #[.string ⟨#[108, 101, 97, 102]⟩, .string ⟨#[98, 108, 111, 99, 107]⟩, .string ⟨#[114, 111, 119]⟩, .string ⟨#[99, 111, 108, 117, 109, 110]⟩] 9) = W1 at *
    have hcw : W1.cell? ⟨g, 2, none⟩ = some (.int .i64 b.w) := kb1.cell 2
    have hch : W1.cell? ⟨g, 3, none⟩ = some (.int .i64 b.h) := kb1.cell 3
    have HDW := Lib.hid (fun w => sdec_int (n := b.w) w (by omega))
    have HDH := Lib.hid (fun w => sdec_int (n := b.h) w (by omega))
    have hl1 := num_len (n := b.w) (by omega)
    have hl2 := num_len (n := b.h) (by omega)
    have hln1 : ¬ 9223372036854775807 < 5 + (numT b.w).length := by omega
    have hln2 : ¬ 9223372036854775807 < 5 + (numT b.w).length + 1 := by omega
    have hln3 : ¬ 9223372036854775807 < 5 + (numT b.w).length + 1 + (numT b.h).length := by omega
    have HE : Hid ((⟨#[108, 101, 97, 102]⟩ ++ ⟨#[32]⟩ ++ ⟨(numT b.w).toArray⟩ ++ ⟨#[32]⟩ ++ ⟨(numT b.h).toArray⟩ : ByteArray) = ⟨(outTo b 0).toArray⟩) := by
      show _ = _
      rw [outTo_leaf hkd, show (⟨#[108, 101, 97, 102]⟩ : ByteArray) = ⟨leafT.toArray⟩ from rfl, show (⟨#[32]⟩ : ByteArray) = ⟨[32].toArray⟩ from rfl]
      simp only [ba_append]
    clear kb hb0 c1 hl1 hl2
    refine wp_region_held_drew (S := fun w' => Below W1.heap.size W1 w') (by kernel_rfl) (Below.refl _ _).drew (fun hS => ?_)
    change wpAnyH _ _ _ _ _ _ _ _ W1.drew
    generalize W1.drew = wd at *
    refine hTake (by kernel_rfl) (fun d _ _ _ _ h => by cases d <;> exact h) hS 0 (some 15) _ rfl (v := ?_) (by kernel_rfl) ?_ ?_
    rotate_left
    · intro _ _; go_simp; first | done | with_reducible rfl
    simp only [Act.put, List.setIfInBounds_toArray, List.set_cons_zero, List.set_cons_succ]
    refine hTake (by kernel_rfl) (fun d _ _ _ _ h => by cases d <;> exact h) hS 1 (some 16) _ rfl (v := ?_) (by kernel_rfl) ?_ ?_
    rotate_left
    · intro _ _; go_simp; first | done | with_reducible rfl
    simp only [Act.put, List.setIfInBounds_toArray, List.set_cons_zero, List.set_cons_succ]
    refine hTake (by kernel_rfl) (fun d _ _ _ _ h => by cases d <;> exact h) hS 2 (some 17) _ rfl (v := ?_) (by kernel_rfl) ?_ ?_
    rotate_left
    · intro _ _; go_simp; first | done | with_reducible rfl
    simp only [Act.put, List.setIfInBounds_toArray, List.set_cons_zero, List.set_cons_succ]
    refine hTake (by kernel_rfl) (fun d _ _ _ _ h => by cases d <;> exact h) hS 3 (some 18) _ rfl (v := ?_) (by kernel_rfl) ?_ ?_
    rotate_left
    · intro w9 hS9; have q := cellB hS9 hcw; go_simp; first | done | with_reducible rfl
    simp only [Act.put, List.setIfInBounds_toArray, List.set_cons_zero, List.set_cons_succ]
    refine hTake (by kernel_rfl) (fun d _ _ _ _ h => by cases d <;> exact h) hS 7 (some 22) _ rfl (v := ?_) (by kernel_rfl) ?_ ?_
    rotate_left
    · intro _ _; go_simp; first | done | with_reducible rfl
    simp only [Act.put, List.setIfInBounds_toArray, List.set_cons_zero, List.set_cons_succ]
    refine hTake (by kernel_rfl) (fun d _ _ _ _ h => by cases d <;> exact h) hS 8 (some 23) _ rfl (v := ?_) (by kernel_rfl) ?_ ?_
    rotate_left
    · intro w9 hS9; have q := cellB hS9 hch; go_simp; first | done | with_reducible rfl
    simp only [Act.put, List.setIfInBounds_toArray, List.set_cons_zero, List.set_cons_succ]
    refine wpAnyH_ready (rs := [4]) (by kernel_rfl) (by simp) ?_
    refine AllReadyH.cons (o := _) rfl (fun K9 hK9 => ?_) AllReadyH.nil
    go_simp
    refine (HDW.out _).mono ?_
    rintro e w7 ⟨rfl, hx7⟩
    unfold sv
    try go_wp2_with fail
    refine hK9.out _ _ (after hS hx7 (Nat.le_refl _)) (fun hS => ?_)
    clear hK9 K9
    try simp only [Act.put, List.setIfInBounds_toArray, List.set_cons_zero, List.set_cons_succ]
    clear hx7
    refine hTake (by kernel_rfl) (fun d _ _ _ _ h => by cases d <;> exact h) hS 5 (some 20) _ rfl (v := ?_) (by kernel_rfl) ?_ ?_
    rotate_left
    · intro _ _; go_simp; first | done | with_reducible rfl
    simp only [Act.put, List.setIfInBounds_toArray, List.set_cons_zero, List.set_cons_succ]
    refine hTake (by kernel_rfl) (fun d _ _ _ _ h => by cases d <;> exact h) hS 6 (some 21) _ rfl (v := ?_) (by kernel_rfl) ?_ ?_
    rotate_left
    · intro _ _; go_simp; first | done | with_reducible rfl
    simp only [Act.put, List.setIfInBounds_toArray, List.set_cons_zero, List.set_cons_succ]
    refine wpAnyH_ready (rs := [9]) (by kernel_rfl) (by simp) ?_
    refine AllReadyH.cons (o := _) rfl (fun K9 hK9 => ?_) AllReadyH.nil
    go_simp
    refine (HDH.out _).mono ?_
    rintro e w8 ⟨rfl, hx8⟩
    unfold sv
    try go_wp2_with fail
    refine hK9.out _ _ (after hS hx8 (Nat.le_refl _)) (fun hS => ?_)
    clear hK9 K9
    try simp only [Act.put, List.setIfInBounds_toArray, List.set_cons_zero, List.set_cons_succ]
    clear hx8
    refine hTake (by kernel_rfl) (fun d _ _ _ _ h => by cases d <;> exact h) hS 10 (some 25) _ rfl (v := ?_) (by kernel_rfl) ?_ ?_
    rotate_left
    · intro _ _; go_simp; first | done | with_reducible rfl
    simp only [Act.put, List.setIfInBounds_toArray, List.set_cons_zero, List.set_cons_succ]
    refine hTake (by kernel_rfl) (fun d _ _ _ _ h => by cases d <;> exact h) hS 11 (some 3) _ rfl (v := ?_) (by kernel_rfl) ?_ ?_
    rotate_left
    · intro _ _; go_simp; first | done | with_reducible rfl
    simp only [Act.put, List.setIfInBounds_toArray, List.set_cons_zero, List.set_cons_succ]
    refine wpAnyH_done (by kernel_rfl) ?_ _
    have hb2 := after hb1 hS (Nat.le_refl _)
    have kb2 := keepE kb1 hS
    rw [HE.out]
    clear hS hb1 kb1 hcw hch
    generalize w8 = W2 at *
    have d4 : W2.cell? ⟨g, 4, none⟩ = some (.int .i64 b.pad) := kb2.cell 4
    have d5 : W2.cell? ⟨g, 5, none⟩ = some (.int .i64 b.gap) := kb2.cell 5
    have d6 : W2.cell? ⟨g, 6, none⟩ = some (.int .i64 b.grow) := kb2.cell 6
    have d7 : W2.cell? ⟨g, 7, none⟩ = some (.int .i64 b.shrink) := kb2.cell 7
    have d8 : W2.cell? ⟨g, 8, none⟩ = some (.int .i64 b.justify) := kb2.cell 8
    have hg2 := kb2.lt
    clear kb2
    go_upto_region 6 with fail
    have kV := (Keep.new W2 (.cells #[.int .i64 b.pad, .int .i64 b.gap, .int .i64 b.grow, .int .i64 b.shrink, .int .i64 b.justify] 3)).alloc (.cells #[.string ⟨#[112, 97, 100]⟩, .string ⟨#[103, 97, 112]⟩, .string ⟨#[103, 114, 111, 119]⟩, .string ⟨#[115, 104, 114, 105, 110, 107]⟩, .string ⟨#[106, 117, 115, 116, 105, 102, 121]⟩] 9)
    have kN := keep_nx W2 (.cells #[.int .i64 b.pad, .int .i64 b.gap, .int .i64 b.grow, .int .i64 b.shrink, .int .i64 b.justify] 3) (.cells #[.string ⟨#[112, 97, 100]⟩, .string ⟨#[103, 97, 112]⟩, .string ⟨#[103, 114, 111, 119]⟩, .string ⟨#[115, 104, 114, 105, 110, 107]⟩, .string ⟨#[106, 117, 115, 116, 105, 102, 121]⟩] 9)
    have hb3 := (hb2.alloc hb2.size (.cells #[.int .i64 b.pad, .int .i64 b.gap, .int .i64 b.grow, .int .i64 b.shrink, .int .i64 b.justify] 3)).alloc (Nat.le_trans hb2.size (Below.of_alloc _ _).size) (.cells #[.string ⟨#[112, 97, 100]⟩, .string ⟨#[103, 97, 112]⟩, .string ⟨#[103, 114, 111, 119]⟩, .string ⟨#[115, 104, 114, 105, 110, 107]⟩, .string ⟨#[106, 117, 115, 116, 105, 102, 121]⟩] 9)
    generalize (W2.alloc (.cells #[.int .i64 b.pad, .int .i64 b.gap, .int .i64 b.grow, .int .i64 b.shrink, .int .i64 b.justify] 3)).alloc (.cells #[.string ⟨#[112, 97, 100]⟩, .string ⟨#[103, 97, 112]⟩, .string ⟨#[103, 114, 111, 119]⟩, .string ⟨#[115, 104, 114, 105, 110, 107]⟩, .string ⟨#[106, 117, 115, 116, 105, 102, 121]⟩] 9) = W3 at *
    obtain ⟨v, hv⟩ : ∃ v, W2.heap.size = v := ⟨_, rfl⟩
    rw [hv] at kV kN ⊢
    have CV := Lib.hid (fun (k : Nat) (hk : k < 5) => (show W3.cell? ⟨v, k, none⟩ = some (.int .i64 (vlT b k)) by
      rw [kV.cell k]
      have : k = 0 ∨ k = 1 ∨ k = 2 ∨ k = 3 ∨ k = 4 := by omega
      rcases this with rfl | rfl | rfl | rfl | rfl <;> rfl))
    have CN := Lib.hid (fun (k : Nat) (hk : k < 5) => (show W3.cell? ⟨v + 1, k, none⟩ = some (.string ⟨(nmT k).toArray⟩) by
      rw [kN.cell k]
      have : k = 0 ∨ k = 1 ∨ k = 2 ∨ k = 3 ∨ k = 4 := by omega
      rcases this with rfl | rfl | rfl | rfl | rfl <;> rfl))
    have HB3 := Lib.hid hb3
    clear d4 d5 d6 d7 d8 hg2 kV kN hb2 hb3 hv
    go_wp2
    go_loopw [3, 6] (fun o i wr => ∃ k : Nat, i = .int .i64 k ∧ k ≤ 5 ∧ o = .string ⟨(outTo b k).toArray⟩ ∧ Below W3.heap.size W3 wr) (fun _ i _ => 5 - (intOf i).toNat)
    case atStart => exact ⟨0, rfl, by omega, rfl, Below.refl _ _⟩
    case round =>
      obtain ⟨k, rfl, hk, rfl, hb⟩ := hrel
      by_cases hlt : k < 5
      · have hki : (k : Int) < 5 := by omega
        have hk0 : (0 : Int) ≤ (k : Int) := by omega
        have cV := cellB hb (CV.out k hlt)
        have cN := cellB hb (CN.out k hlt)
        have hvl := HVL.out k
        have hxl := HLN.out k
        have hnl := nmT_len k
        have HNO := Lib.hid (outTo_no (b := b) (k := k))
        have HYES := Lib.hid (outTo_yes (b := b) (k := k))
        generalize outTo b k = X at *
        generalize nmT k = N at *
        generalize vlT b k = n at *
        by_cases hn : 0 < n
        · have HZ : Hid ((⟨X.toArray⟩ ++ ⟨#[32]⟩ ++ ⟨N.toArray⟩ ++ ⟨#[32]⟩ ++ ⟨(numT n).toArray⟩ : ByteArray) = ⟨(outTo b (k + 1)).toArray⟩) := by
            show _ = _
            rw [HYES.out (by omega), show (⟨#[32]⟩ : ByteArray) = ⟨[32].toArray⟩ from rfl]
            simp only [ba_append]
          have HD := Lib.hid (fun w => sdec_int (n := n) w (by omega))
          have hdl := num_len (n := n) (by omega)
          have l1 : ¬ 9223372036854775807 < X.length + 1 := by omega
          have l2 : ¬ 9223372036854775807 < X.length + 1 + N.length := by omega
          have l3 : ¬ 9223372036854775807 < X.length + 1 + N.length + 1 := by omega
          have l4 : ¬ 9223372036854775807 < X.length + 1 + N.length + 1 + (numT n).length := by omega
          generalize numT n = D at *
          clear HNO HYES hxl hnl hdl hvl
          go_upto_region 10 with fail
          refine wp_region_held_drew (S := fun w' => Below wr.heap.size wr w') (by kernel_rfl) (Below.refl _ _).drew (fun hS => ?_)
          change wpAnyH _ _ _ _ _ _ _ _ wr.drew
          generalize wr.drew = wd at *
          refine hTake (by kernel_rfl) (fun d _ _ _ _ h => by cases d <;> exact h) hS 0 (some 49) _ rfl (v := ?_) (by kernel_rfl) ?_ ?_
          rotate_left
          · intro _ _; go_simp; first | done | with_reducible rfl
          simp only [Act.put, List.setIfInBounds_toArray, List.set_cons_zero, List.set_cons_succ]
          refine hTake (by kernel_rfl) (fun d _ _ _ _ h => by cases d <;> exact h) hS 1 (some 50) _ rfl (v := ?_) (by kernel_rfl) ?_ ?_
          rotate_left
          · intro _ _; go_simp; first | done | with_reducible rfl
          simp only [Act.put, List.setIfInBounds_toArray, List.set_cons_zero, List.set_cons_succ]
          refine hTake (by kernel_rfl) (fun d _ _ _ _ h => by cases d <;> exact h) hS 2 (some 51) _ rfl (v := ?_) (by kernel_rfl) ?_ ?_
          rotate_left
          · intro _ _; go_simp; first | done | with_reducible rfl
          simp only [Act.put, List.setIfInBounds_toArray, List.set_cons_zero, List.set_cons_succ]
          refine hTake (by kernel_rfl) (fun d _ _ _ _ h => by cases d <;> exact h) hS 3 (some 52) _ rfl (v := ?_) (by kernel_rfl) ?_ ?_
          rotate_left
          · intro _ _; go_simp; first | done | with_reducible rfl
          simp only [Act.put, List.setIfInBounds_toArray, List.set_cons_zero, List.set_cons_succ]
          refine hTake (by kernel_rfl) (fun d _ _ _ _ h => by cases d <;> exact h) hS 4 (some 53) _ rfl (v := ?_) (by kernel_rfl) ?_ ?_
          rotate_left
          · intro _ _; go_simp; first | done | with_reducible rfl
          simp only [Act.put, List.setIfInBounds_toArray, List.set_cons_zero, List.set_cons_succ]
          refine hTake (by kernel_rfl) (fun d _ _ _ _ h => by cases d <;> exact h) hS 5 (some 54) _ rfl (v := ?_) (by kernel_rfl) ?_ ?_
          rotate_left
          · intro w9 hS9; have q := cellB hS9 cN; go_simp; first | done | with_reducible rfl
          simp only [Act.put, List.setIfInBounds_toArray, List.set_cons_zero, List.set_cons_succ]
          refine hTake (by kernel_rfl) (fun d _ _ _ _ h => by cases d <;> exact h) hS 6 (some 55) _ rfl (v := ?_) (by kernel_rfl) ?_ ?_
          rotate_left
          · intro _ _; go_simp; first | done | with_reducible rfl
          simp only [Act.put, List.setIfInBounds_toArray, List.set_cons_zero, List.set_cons_succ]
          refine hTake (by kernel_rfl) (fun d _ _ _ _ h => by cases d <;> exact h) hS 7 (some 56) _ rfl (v := ?_) (by kernel_rfl) ?_ ?_
          rotate_left
          · intro _ _; go_simp; first | done | with_reducible rfl
          simp only [Act.put, List.setIfInBounds_toArray, List.set_cons_zero, List.set_cons_succ]
          refine hTake (by kernel_rfl) (fun d _ _ _ _ h => by cases d <;> exact h) hS 8 (some 57) _ rfl (v := ?_) (by kernel_rfl) ?_ ?_
          rotate_left
          · intro _ _; go_simp; first | done | with_reducible rfl
          simp only [Act.put, List.setIfInBounds_toArray, List.set_cons_zero, List.set_cons_succ]
          refine hTake (by kernel_rfl) (fun d _ _ _ _ h => by cases d <;> exact h) hS 9 (some 58) _ rfl (v := ?_) (by kernel_rfl) ?_ ?_
          rotate_left
          · intro _ _; go_simp; first | done | with_reducible rfl
          simp only [Act.put, List.setIfInBounds_toArray, List.set_cons_zero, List.set_cons_succ]
          refine hTake (by kernel_rfl) (fun d _ _ _ _ h => by cases d <;> exact h) hS 10 (some 59) _ rfl (v := ?_) (by kernel_rfl) ?_ ?_
          rotate_left
          · intro _ _; go_simp; first | done | with_reducible rfl
          simp only [Act.put, List.setIfInBounds_toArray, List.set_cons_zero, List.set_cons_succ]
          refine hTake (by kernel_rfl) (fun d _ _ _ _ h => by cases d <;> exact h) hS 11 (some 60) _ rfl (v := ?_) (by kernel_rfl) ?_ ?_
          rotate_left
          · intro w9 hS9; have q := cellB hS9 cV; go_simp; first | done | with_reducible rfl
          simp only [Act.put, List.setIfInBounds_toArray, List.set_cons_zero, List.set_cons_succ]
          refine wpAnyH_ready (rs := [12]) (by kernel_rfl) (by simp) ?_
          refine AllReadyH.cons (o := _) rfl (fun K9 hK9 => ?_) AllReadyH.nil
          go_simp
          refine (HD.out _).mono ?_
          rintro e w7 ⟨rfl, hx7⟩
          unfold sv
          try go_wp2_with fail
          refine hK9.out _ _ (after hS hx7 (Nat.le_refl _)) (fun hS => ?_)
          clear hK9 K9
          try simp only [Act.put, List.setIfInBounds_toArray, List.set_cons_zero, List.set_cons_succ]
          clear hx7
          refine hTake (by kernel_rfl) (fun d _ _ _ _ h => by cases d <;> exact h) hS 13 (some 62) _ rfl (v := ?_) (by kernel_rfl) ?_ ?_
          rotate_left
          · intro _ _; go_simp; first | done | with_reducible rfl
          simp only [Act.put, List.setIfInBounds_toArray, List.set_cons_zero, List.set_cons_succ]
          refine hTake (by kernel_rfl) (fun d _ _ _ _ h => by cases d <;> exact h) hS 14 (some 3) _ rfl (v := ?_) (by kernel_rfl) ?_ ?_
          rotate_left
          · intro _ _; go_simp; first | done | with_reducible rfl
          simp only [Act.put, List.setIfInBounds_toArray, List.set_cons_zero, List.set_cons_succ]
          refine wpAnyH_done (by kernel_rfl) ?_ _
          have HB7 := Lib.hid (after hb hS (Nat.le_refl _))
          clear hS hb cV cN
          rw [HZ.out]
          go_wp2
          go_roundw
          case rel => exact ⟨k + 1, by go_num, by omega, rfl, HB7.out⟩
          case measure => simp [intOf]; omega
        · have HZ := Lib.hid (HNO.out (by omega))
          clear HNO HYES hxl hnl cN
          go_wp2
          go_roundw
          case rel => exact ⟨k + 1, by go_num, by omega, by rw [HZ.out], hb⟩
          case measure => simp [intOf]; omega
      · obtain rfl : k = 5 := by omega
        have HBE := Lib.hid (HB3.out.trans (hb.mono HB3.out.size))
        clear hb
        go_wp2
        go_ret
        exact ⟨by rw [← outTo_five]; rfl, HBE.out⟩
  · have c1 : W.cell? ⟨g, 1, none⟩ = some (.int .i64 1) := by rw [← hkd]; exact kb.cell 1
    have HE : Hid ((⟨#[98, 108, 111, 99, 107]⟩ : ByteArray) = ⟨(outTo b 0).toArray⟩) := by
      show _ = _
      rw [outTo_kind (by omega), hkd]
      rfl
    go_upto_region 4 with fail
    have kb2 := kb.alloc (.cells #[.string ⟨#[108, 101, 97, 102]⟩, .string ⟨#[98, 108, 111, 99, 107]⟩, .string ⟨#[114, 111, 119]⟩, .string ⟨#[99, 111, 108, 117, 109, 110]⟩] 9)
    have hb2 := hb0.alloc hb0.size (.cells #[.string ⟨#[108, 101, 97, 102]⟩, .string ⟨#[98, 108, 111, 99, 107]⟩, .string ⟨#[114, 111, 119]⟩, .string ⟨#[99, 111, 108, 117, 109, 110]⟩] 9)
    generalize W.alloc (.cells #[.string ⟨#[108, 101, 97, 102]⟩, .string ⟨#[98, 108, 111, 99, 107]⟩, .string ⟨#[114, 111, 119]⟩, .string ⟨#[99, 111, 108, 117, 109, 110]⟩] 9) = W2 at *
    clear kb hb0 c1 hkd
    rw [HE.out]
    have d4 : W2.cell? ⟨g, 4, none⟩ = some (.int .i64 b.pad) := kb2.cell 4
    have d5 : W2.cell? ⟨g, 5, none⟩ = some (.int .i64 b.gap) := kb2.cell 5
    have d6 : W2.cell? ⟨g, 6, none⟩ = some (.int .i64 b.grow) := kb2.cell 6
    have d7 : W2.cell? ⟨g, 7, none⟩ = some (.int .i64 b.shrink) := kb2.cell 7
    have d8 : W2.cell? ⟨g, 8, none⟩ = some (.int .i64 b.justify) := kb2.cell 8
    have hg2 := kb2.lt
    clear kb2
    go_upto_region 6 with fail
    have kV := (Keep.new W2 (.cells #[.int .i64 b.pad, .int .i64 b.gap, .int .i64 b.grow, .int .i64 b.shrink, .int .i64 b.justify] 3)).alloc (.cells #[.string ⟨#[112, 97, 100]⟩, .string ⟨#[103, 97, 112]⟩, .string ⟨#[103, 114, 111, 119]⟩, .string ⟨#[115, 104, 114, 105, 110, 107]⟩, .string ⟨#[106, 117, 115, 116, 105, 102, 121]⟩] 9)
    have kN := keep_nx W2 (.cells #[.int .i64 b.pad, .int .i64 b.gap, .int .i64 b.grow, .int .i64 b.shrink, .int .i64 b.justify] 3) (.cells #[.string ⟨#[112, 97, 100]⟩, .string ⟨#[103, 97, 112]⟩, .string ⟨#[103, 114, 111, 119]⟩, .string ⟨#[115, 104, 114, 105, 110, 107]⟩, .string ⟨#[106, 117, 115, 116, 105, 102, 121]⟩] 9)
    have hb3 := (hb2.alloc hb2.size (.cells #[.int .i64 b.pad, .int .i64 b.gap, .int .i64 b.grow, .int .i64 b.shrink, .int .i64 b.justify] 3)).alloc (Nat.le_trans hb2.size (Below.of_alloc _ _).size) (.cells #[.string ⟨#[112, 97, 100]⟩, .string ⟨#[103, 97, 112]⟩, .string ⟨#[103, 114, 111, 119]⟩, .string ⟨#[115, 104, 114, 105, 110, 107]⟩, .string ⟨#[106, 117, 115, 116, 105, 102, 121]⟩] 9)
    generalize (W2.alloc (.cells #[.int .i64 b.pad, .int .i64 b.gap, .int .i64 b.grow, .int .i64 b.shrink, .int .i64 b.justify] 3)).alloc (.cells #[.string ⟨#[112, 97, 100]⟩, .string ⟨#[103, 97, 112]⟩, .string ⟨#[103, 114, 111, 119]⟩, .string ⟨#[115, 104, 114, 105, 110, 107]⟩, .string ⟨#[106, 117, 115, 116, 105, 102, 121]⟩] 9) = W3 at *
    obtain ⟨v, hv⟩ : ∃ v, W2.heap.size = v := ⟨_, rfl⟩
    rw [hv] at kV kN ⊢
    have CV := Lib.hid (fun (k : Nat) (hk : k < 5) => (show W3.cell? ⟨v, k, none⟩ = some (.int .i64 (vlT b k)) by
      rw [kV.cell k]
      have : k = 0 ∨ k = 1 ∨ k = 2 ∨ k = 3 ∨ k = 4 := by omega
      rcases this with rfl | rfl | rfl | rfl | rfl <;> rfl))
    have CN := Lib.hid (fun (k : Nat) (hk : k < 5) => (show W3.cell? ⟨v + 1, k, none⟩ = some (.string ⟨(nmT k).toArray⟩) by
      rw [kN.cell k]
      have : k = 0 ∨ k = 1 ∨ k = 2 ∨ k = 3 ∨ k = 4 := by omega
      rcases this with rfl | rfl | rfl | rfl | rfl <;> rfl))
    have HB3 := Lib.hid hb3
    clear d4 d5 d6 d7 d8 hg2 kV kN hb2 hb3 hv
    go_wp2
    go_loopw [3, 6] (fun o i wr => ∃ k : Nat, i = .int .i64 k ∧ k ≤ 5 ∧ o = .string ⟨(outTo b k).toArray⟩ ∧ Below W3.heap.size W3 wr) (fun _ i _ => 5 - (intOf i).toNat)
    case atStart => exact ⟨0, rfl, by omega, rfl, Below.refl _ _⟩
    case round =>
      obtain ⟨k, rfl, hk, rfl, hb⟩ := hrel
      by_cases hlt : k < 5
      · have hki : (k : Int) < 5 := by omega
        have hk0 : (0 : Int) ≤ (k : Int) := by omega
        have cV := cellB hb (CV.out k hlt)
        have cN := cellB hb (CN.out k hlt)
        have hvl := HVL.out k
        have hxl := HLN.out k
        have hnl := nmT_len k
        have HNO := Lib.hid (outTo_no (b := b) (k := k))
        have HYES := Lib.hid (outTo_yes (b := b) (k := k))
        generalize outTo b k = X at *
        generalize nmT k = N at *
        generalize vlT b k = n at *
        by_cases hn : 0 < n
        · have HZ : Hid ((⟨X.toArray⟩ ++ ⟨#[32]⟩ ++ ⟨N.toArray⟩ ++ ⟨#[32]⟩ ++ ⟨(numT n).toArray⟩ : ByteArray) = ⟨(outTo b (k + 1)).toArray⟩) := by
            show _ = _
            rw [HYES.out (by omega), show (⟨#[32]⟩ : ByteArray) = ⟨[32].toArray⟩ from rfl]
            simp only [ba_append]
          have HD := Lib.hid (fun w => sdec_int (n := n) w (by omega))
          have hdl := num_len (n := n) (by omega)
          have l1 : ¬ 9223372036854775807 < X.length + 1 := by omega
          have l2 : ¬ 9223372036854775807 < X.length + 1 + N.length := by omega
          have l3 : ¬ 9223372036854775807 < X.length + 1 + N.length + 1 := by omega
          have l4 : ¬ 9223372036854775807 < X.length + 1 + N.length + 1 + (numT n).length := by omega
          generalize numT n = D at *
          clear HNO HYES hxl hnl hdl hvl
          go_upto_region 10 with fail
          refine wp_region_held_drew (S := fun w' => Below wr.heap.size wr w') (by kernel_rfl) (Below.refl _ _).drew (fun hS => ?_)
          change wpAnyH _ _ _ _ _ _ _ _ wr.drew
          generalize wr.drew = wd at *
          refine hTake (by kernel_rfl) (fun d _ _ _ _ h => by cases d <;> exact h) hS 0 (some 49) _ rfl (v := ?_) (by kernel_rfl) ?_ ?_
          rotate_left
          · intro _ _; go_simp; first | done | with_reducible rfl
          simp only [Act.put, List.setIfInBounds_toArray, List.set_cons_zero, List.set_cons_succ]
          refine hTake (by kernel_rfl) (fun d _ _ _ _ h => by cases d <;> exact h) hS 1 (some 50) _ rfl (v := ?_) (by kernel_rfl) ?_ ?_
          rotate_left
          · intro _ _; go_simp; first | done | with_reducible rfl
          simp only [Act.put, List.setIfInBounds_toArray, List.set_cons_zero, List.set_cons_succ]
          refine hTake (by kernel_rfl) (fun d _ _ _ _ h => by cases d <;> exact h) hS 2 (some 51) _ rfl (v := ?_) (by kernel_rfl) ?_ ?_
          rotate_left
          · intro _ _; go_simp; first | done | with_reducible rfl
          simp only [Act.put, List.setIfInBounds_toArray, List.set_cons_zero, List.set_cons_succ]
          refine hTake (by kernel_rfl) (fun d _ _ _ _ h => by cases d <;> exact h) hS 3 (some 52) _ rfl (v := ?_) (by kernel_rfl) ?_ ?_
          rotate_left
          · intro _ _; go_simp; first | done | with_reducible rfl
          simp only [Act.put, List.setIfInBounds_toArray, List.set_cons_zero, List.set_cons_succ]
          refine hTake (by kernel_rfl) (fun d _ _ _ _ h => by cases d <;> exact h) hS 4 (some 53) _ rfl (v := ?_) (by kernel_rfl) ?_ ?_
          rotate_left
          · intro _ _; go_simp; first | done | with_reducible rfl
          simp only [Act.put, List.setIfInBounds_toArray, List.set_cons_zero, List.set_cons_succ]
          refine hTake (by kernel_rfl) (fun d _ _ _ _ h => by cases d <;> exact h) hS 5 (some 54) _ rfl (v := ?_) (by kernel_rfl) ?_ ?_
          rotate_left
          · intro w9 hS9; have q := cellB hS9 cN; go_simp; first | done | with_reducible rfl
          simp only [Act.put, List.setIfInBounds_toArray, List.set_cons_zero, List.set_cons_succ]
          refine hTake (by kernel_rfl) (fun d _ _ _ _ h => by cases d <;> exact h) hS 6 (some 55) _ rfl (v := ?_) (by kernel_rfl) ?_ ?_
          rotate_left
          · intro _ _; go_simp; first | done | with_reducible rfl
          simp only [Act.put, List.setIfInBounds_toArray, List.set_cons_zero, List.set_cons_succ]
          refine hTake (by kernel_rfl) (fun d _ _ _ _ h => by cases d <;> exact h) hS 7 (some 56) _ rfl (v := ?_) (by kernel_rfl) ?_ ?_
          rotate_left
          · intro _ _; go_simp; first | done | with_reducible rfl
          simp only [Act.put, List.setIfInBounds_toArray, List.set_cons_zero, List.set_cons_succ]
          refine hTake (by kernel_rfl) (fun d _ _ _ _ h => by cases d <;> exact h) hS 8 (some 57) _ rfl (v := ?_) (by kernel_rfl) ?_ ?_
          rotate_left
          · intro _ _; go_simp; first | done | with_reducible rfl
          simp only [Act.put, List.setIfInBounds_toArray, List.set_cons_zero, List.set_cons_succ]
          refine hTake (by kernel_rfl) (fun d _ _ _ _ h => by cases d <;> exact h) hS 9 (some 58) _ rfl (v := ?_) (by kernel_rfl) ?_ ?_
          rotate_left
          · intro _ _; go_simp; first | done | with_reducible rfl
          simp only [Act.put, List.setIfInBounds_toArray, List.set_cons_zero, List.set_cons_succ]
          refine hTake (by kernel_rfl) (fun d _ _ _ _ h => by cases d <;> exact h) hS 10 (some 59) _ rfl (v := ?_) (by kernel_rfl) ?_ ?_
          rotate_left
          · intro _ _; go_simp; first | done | with_reducible rfl
          simp only [Act.put, List.setIfInBounds_toArray, List.set_cons_zero, List.set_cons_succ]
          refine hTake (by kernel_rfl) (fun d _ _ _ _ h => by cases d <;> exact h) hS 11 (some 60) _ rfl (v := ?_) (by kernel_rfl) ?_ ?_
          rotate_left
          · intro w9 hS9; have q := cellB hS9 cV; go_simp; first | done | with_reducible rfl
          simp only [Act.put, List.setIfInBounds_toArray, List.set_cons_zero, List.set_cons_succ]
          refine wpAnyH_ready (rs := [12]) (by kernel_rfl) (by simp) ?_
          refine AllReadyH.cons (o := _) rfl (fun K9 hK9 => ?_) AllReadyH.nil
          go_simp
          refine (HD.out _).mono ?_
          rintro e w7 ⟨rfl, hx7⟩
          unfold sv
          try go_wp2_with fail
          refine hK9.out _ _ (after hS hx7 (Nat.le_refl _)) (fun hS => ?_)
          clear hK9 K9
          try simp only [Act.put, List.setIfInBounds_toArray, List.set_cons_zero, List.set_cons_succ]
          clear hx7
          refine hTake (by kernel_rfl) (fun d _ _ _ _ h => by cases d <;> exact h) hS 13 (some 62) _ rfl (v := ?_) (by kernel_rfl) ?_ ?_
          rotate_left
          · intro _ _; go_simp; first | done | with_reducible rfl
          simp only [Act.put, List.setIfInBounds_toArray, List.set_cons_zero, List.set_cons_succ]
          refine hTake (by kernel_rfl) (fun d _ _ _ _ h => by cases d <;> exact h) hS 14 (some 3) _ rfl (v := ?_) (by kernel_rfl) ?_ ?_
          rotate_left
          · intro _ _; go_simp; first | done | with_reducible rfl
          simp only [Act.put, List.setIfInBounds_toArray, List.set_cons_zero, List.set_cons_succ]
          refine wpAnyH_done (by kernel_rfl) ?_ _
          have HB7 := Lib.hid (after hb hS (Nat.le_refl _))
          clear hS hb cV cN
          rw [HZ.out]
          go_wp2
          go_roundw
          case rel => exact ⟨k + 1, by go_num, by omega, rfl, HB7.out⟩
          case measure => simp [intOf]; omega
        · have HZ := Lib.hid (HNO.out (by omega))
          clear HNO HYES hxl hnl cN
          go_wp2
          go_roundw
          case rel => exact ⟨k + 1, by go_num, by omega, by rw [HZ.out], hb⟩
          case measure => simp [intOf]; omega
      · obtain rfl : k = 5 := by omega
        have HBE := Lib.hid (HB3.out.trans (hb.mono HB3.out.size))
        clear hb
        go_wp2
        go_ret
        exact ⟨by rw [← outTo_five]; rfl, HBE.out⟩
  · have c1 : W.cell? ⟨g, 1, none⟩ = some (.int .i64 2) := by rw [← hkd]; exact kb.cell 1
    have HE : Hid ((⟨#[114, 111, 119]⟩ : ByteArray) = ⟨(outTo b 0).toArray⟩) := by
      show _ = _
      rw [outTo_kind (by omega), hkd]
      rfl
    go_upto_region 4 with fail
    have kb2 := kb.alloc (.cells #[.string ⟨#[108, 101, 97, 102]⟩, .string ⟨#[98, 108, 111, 99, 107]⟩, .string ⟨#[114, 111, 119]⟩, .string ⟨#[99, 111, 108, 117, 109, 110]⟩] 9)
    have hb2 := hb0.alloc hb0.size (.cells #[.string ⟨#[108, 101, 97, 102]⟩, .string ⟨#[98, 108, 111, 99, 107]⟩, .string ⟨#[114, 111, 119]⟩, .string ⟨#[99, 111, 108, 117, 109, 110]⟩] 9)
    generalize W.alloc (.cells #[.string ⟨#[108, 101, 97, 102]⟩, .string ⟨#[98, 108, 111, 99, 107]⟩, .string ⟨#[114, 111, 119]⟩, .string ⟨#[99, 111, 108, 117, 109, 110]⟩] 9) = W2 at *
    clear kb hb0 c1 hkd
    rw [HE.out]
    have d4 : W2.cell? ⟨g, 4, none⟩ = some (.int .i64 b.pad) := kb2.cell 4
    have d5 : W2.cell? ⟨g, 5, none⟩ = some (.int .i64 b.gap) := kb2.cell 5
    have d6 : W2.cell? ⟨g, 6, none⟩ = some (.int .i64 b.grow) := kb2.cell 6
    have d7 : W2.cell? ⟨g, 7, none⟩ = some (.int .i64 b.shrink) := kb2.cell 7
    have d8 : W2.cell? ⟨g, 8, none⟩ = some (.int .i64 b.justify) := kb2.cell 8
    have hg2 := kb2.lt
    clear kb2
    go_upto_region 6 with fail
    have kV := (Keep.new W2 (.cells #[.int .i64 b.pad, .int .i64 b.gap, .int .i64 b.grow, .int .i64 b.shrink, .int .i64 b.justify] 3)).alloc (.cells #[.string ⟨#[112, 97, 100]⟩, .string ⟨#[103, 97, 112]⟩, .string ⟨#[103, 114, 111, 119]⟩, .string ⟨#[115, 104, 114, 105, 110, 107]⟩, .string ⟨#[106, 117, 115, 116, 105, 102, 121]⟩] 9)
    have kN := keep_nx W2 (.cells #[.int .i64 b.pad, .int .i64 b.gap, .int .i64 b.grow, .int .i64 b.shrink, .int .i64 b.justify] 3) (.cells #[.string ⟨#[112, 97, 100]⟩, .string ⟨#[103, 97, 112]⟩, .string ⟨#[103, 114, 111, 119]⟩, .string ⟨#[115, 104, 114, 105, 110, 107]⟩, .string ⟨#[106, 117, 115, 116, 105, 102, 121]⟩] 9)
    have hb3 := (hb2.alloc hb2.size (.cells #[.int .i64 b.pad, .int .i64 b.gap, .int .i64 b.grow, .int .i64 b.shrink, .int .i64 b.justify] 3)).alloc (Nat.le_trans hb2.size (Below.of_alloc _ _).size) (.cells #[.string ⟨#[112, 97, 100]⟩, .string ⟨#[103, 97, 112]⟩, .string ⟨#[103, 114, 111, 119]⟩, .string ⟨#[115, 104, 114, 105, 110, 107]⟩, .string ⟨#[106, 117, 115, 116, 105, 102, 121]⟩] 9)
    generalize (W2.alloc (.cells #[.int .i64 b.pad, .int .i64 b.gap, .int .i64 b.grow, .int .i64 b.shrink, .int .i64 b.justify] 3)).alloc (.cells #[.string ⟨#[112, 97, 100]⟩, .string ⟨#[103, 97, 112]⟩, .string ⟨#[103, 114, 111, 119]⟩, .string ⟨#[115, 104, 114, 105, 110, 107]⟩, .string ⟨#[106, 117, 115, 116, 105, 102, 121]⟩] 9) = W3 at *
    obtain ⟨v, hv⟩ : ∃ v, W2.heap.size = v := ⟨_, rfl⟩
    rw [hv] at kV kN ⊢
    have CV := Lib.hid (fun (k : Nat) (hk : k < 5) => (show W3.cell? ⟨v, k, none⟩ = some (.int .i64 (vlT b k)) by
      rw [kV.cell k]
      have : k = 0 ∨ k = 1 ∨ k = 2 ∨ k = 3 ∨ k = 4 := by omega
      rcases this with rfl | rfl | rfl | rfl | rfl <;> rfl))
    have CN := Lib.hid (fun (k : Nat) (hk : k < 5) => (show W3.cell? ⟨v + 1, k, none⟩ = some (.string ⟨(nmT k).toArray⟩) by
      rw [kN.cell k]
      have : k = 0 ∨ k = 1 ∨ k = 2 ∨ k = 3 ∨ k = 4 := by omega
      rcases this with rfl | rfl | rfl | rfl | rfl <;> rfl))
    have HB3 := Lib.hid hb3
    clear d4 d5 d6 d7 d8 hg2 kV kN hb2 hb3 hv
    go_wp2
    go_loopw [3, 6] (fun o i wr => ∃ k : Nat, i = .int .i64 k ∧ k ≤ 5 ∧ o = .string ⟨(outTo b k).toArray⟩ ∧ Below W3.heap.size W3 wr) (fun _ i _ => 5 - (intOf i).toNat)
    case atStart => exact ⟨0, rfl, by omega, rfl, Below.refl _ _⟩
    case round =>
      obtain ⟨k, rfl, hk, rfl, hb⟩ := hrel
      by_cases hlt : k < 5
      · have hki : (k : Int) < 5 := by omega
        have hk0 : (0 : Int) ≤ (k : Int) := by omega
        have cV := cellB hb (CV.out k hlt)
        have cN := cellB hb (CN.out k hlt)
        have hvl := HVL.out k
        have hxl := HLN.out k
        have hnl := nmT_len k
        have HNO := Lib.hid (outTo_no (b := b) (k := k))
        have HYES := Lib.hid (outTo_yes (b := b) (k := k))
        generalize outTo b k = X at *
        generalize nmT k = N at *
        generalize vlT b k = n at *
        by_cases hn : 0 < n
        · have HZ : Hid ((⟨X.toArray⟩ ++ ⟨#[32]⟩ ++ ⟨N.toArray⟩ ++ ⟨#[32]⟩ ++ ⟨(numT n).toArray⟩ : ByteArray) = ⟨(outTo b (k + 1)).toArray⟩) := by
            show _ = _
            rw [HYES.out (by omega), show (⟨#[32]⟩ : ByteArray) = ⟨[32].toArray⟩ from rfl]
            simp only [ba_append]
          have HD := Lib.hid (fun w => sdec_int (n := n) w (by omega))
          have hdl := num_len (n := n) (by omega)
          have l1 : ¬ 9223372036854775807 < X.length + 1 := by omega
          have l2 : ¬ 9223372036854775807 < X.length + 1 + N.length := by omega
          have l3 : ¬ 9223372036854775807 < X.length + 1 + N.length + 1 := by omega
          have l4 : ¬ 9223372036854775807 < X.length + 1 + N.length + 1 + (numT n).length := by omega
          generalize numT n = D at *
          clear HNO HYES hxl hnl hdl hvl
          go_upto_region 10 with fail
          refine wp_region_held_drew (S := fun w' => Below wr.heap.size wr w') (by kernel_rfl) (Below.refl _ _).drew (fun hS => ?_)
          change wpAnyH _ _ _ _ _ _ _ _ wr.drew
          generalize wr.drew = wd at *
          refine hTake (by kernel_rfl) (fun d _ _ _ _ h => by cases d <;> exact h) hS 0 (some 49) _ rfl (v := ?_) (by kernel_rfl) ?_ ?_
          rotate_left
          · intro _ _; go_simp; first | done | with_reducible rfl
          simp only [Act.put, List.setIfInBounds_toArray, List.set_cons_zero, List.set_cons_succ]
          refine hTake (by kernel_rfl) (fun d _ _ _ _ h => by cases d <;> exact h) hS 1 (some 50) _ rfl (v := ?_) (by kernel_rfl) ?_ ?_
          rotate_left
          · intro _ _; go_simp; first | done | with_reducible rfl
          simp only [Act.put, List.setIfInBounds_toArray, List.set_cons_zero, List.set_cons_succ]
          refine hTake (by kernel_rfl) (fun d _ _ _ _ h => by cases d <;> exact h) hS 2 (some 51) _ rfl (v := ?_) (by kernel_rfl) ?_ ?_
          rotate_left
          · intro _ _; go_simp; first | done | with_reducible rfl
          simp only [Act.put, List.setIfInBounds_toArray, List.set_cons_zero, List.set_cons_succ]
          refine hTake (by kernel_rfl) (fun d _ _ _ _ h => by cases d <;> exact h) hS 3 (some 52) _ rfl (v := ?_) (by kernel_rfl) ?_ ?_
          rotate_left
          · intro _ _; go_simp; first | done | with_reducible rfl
          simp only [Act.put, List.setIfInBounds_toArray, List.set_cons_zero, List.set_cons_succ]
          refine hTake (by kernel_rfl) (fun d _ _ _ _ h => by cases d <;> exact h) hS 4 (some 53) _ rfl (v := ?_) (by kernel_rfl) ?_ ?_
          rotate_left
          · intro _ _; go_simp; first | done | with_reducible rfl
          simp only [Act.put, List.setIfInBounds_toArray, List.set_cons_zero, List.set_cons_succ]
          refine hTake (by kernel_rfl) (fun d _ _ _ _ h => by cases d <;> exact h) hS 5 (some 54) _ rfl (v := ?_) (by kernel_rfl) ?_ ?_
          rotate_left
          · intro w9 hS9; have q := cellB hS9 cN; go_simp; first | done | with_reducible rfl
          simp only [Act.put, List.setIfInBounds_toArray, List.set_cons_zero, List.set_cons_succ]
          refine hTake (by kernel_rfl) (fun d _ _ _ _ h => by cases d <;> exact h) hS 6 (some 55) _ rfl (v := ?_) (by kernel_rfl) ?_ ?_
          rotate_left
          · intro _ _; go_simp; first | done | with_reducible rfl
          simp only [Act.put, List.setIfInBounds_toArray, List.set_cons_zero, List.set_cons_succ]
          refine hTake (by kernel_rfl) (fun d _ _ _ _ h => by cases d <;> exact h) hS 7 (some 56) _ rfl (v := ?_) (by kernel_rfl) ?_ ?_
          rotate_left
          · intro _ _; go_simp; first | done | with_reducible rfl
          simp only [Act.put, List.setIfInBounds_toArray, List.set_cons_zero, List.set_cons_succ]
          refine hTake (by kernel_rfl) (fun d _ _ _ _ h => by cases d <;> exact h) hS 8 (some 57) _ rfl (v := ?_) (by kernel_rfl) ?_ ?_
          rotate_left
          · intro _ _; go_simp; first | done | with_reducible rfl
          simp only [Act.put, List.setIfInBounds_toArray, List.set_cons_zero, List.set_cons_succ]
          refine hTake (by kernel_rfl) (fun d _ _ _ _ h => by cases d <;> exact h) hS 9 (some 58) _ rfl (v := ?_) (by kernel_rfl) ?_ ?_
          rotate_left
          · intro _ _; go_simp; first | done | with_reducible rfl
          simp only [Act.put, List.setIfInBounds_toArray, List.set_cons_zero, List.set_cons_succ]
          refine hTake (by kernel_rfl) (fun d _ _ _ _ h => by cases d <;> exact h) hS 10 (some 59) _ rfl (v := ?_) (by kernel_rfl) ?_ ?_
          rotate_left
          · intro _ _; go_simp; first | done | with_reducible rfl
          simp only [Act.put, List.setIfInBounds_toArray, List.set_cons_zero, List.set_cons_succ]
          refine hTake (by kernel_rfl) (fun d _ _ _ _ h => by cases d <;> exact h) hS 11 (some 60) _ rfl (v := ?_) (by kernel_rfl) ?_ ?_
          rotate_left
          · intro w9 hS9; have q := cellB hS9 cV; go_simp; first | done | with_reducible rfl
          simp only [Act.put, List.setIfInBounds_toArray, List.set_cons_zero, List.set_cons_succ]
          refine wpAnyH_ready (rs := [12]) (by kernel_rfl) (by simp) ?_
          refine AllReadyH.cons (o := _) rfl (fun K9 hK9 => ?_) AllReadyH.nil
          go_simp
          refine (HD.out _).mono ?_
          rintro e w7 ⟨rfl, hx7⟩
          unfold sv
          try go_wp2_with fail
          refine hK9.out _ _ (after hS hx7 (Nat.le_refl _)) (fun hS => ?_)
          clear hK9 K9
          try simp only [Act.put, List.setIfInBounds_toArray, List.set_cons_zero, List.set_cons_succ]
          clear hx7
          refine hTake (by kernel_rfl) (fun d _ _ _ _ h => by cases d <;> exact h) hS 13 (some 62) _ rfl (v := ?_) (by kernel_rfl) ?_ ?_
          rotate_left
          · intro _ _; go_simp; first | done | with_reducible rfl
          simp only [Act.put, List.setIfInBounds_toArray, List.set_cons_zero, List.set_cons_succ]
          refine hTake (by kernel_rfl) (fun d _ _ _ _ h => by cases d <;> exact h) hS 14 (some 3) _ rfl (v := ?_) (by kernel_rfl) ?_ ?_
          rotate_left
          · intro _ _; go_simp; first | done | with_reducible rfl
          simp only [Act.put, List.setIfInBounds_toArray, List.set_cons_zero, List.set_cons_succ]
          refine wpAnyH_done (by kernel_rfl) ?_ _
          have HB7 := Lib.hid (after hb hS (Nat.le_refl _))
          clear hS hb cV cN
          rw [HZ.out]
          go_wp2
          go_roundw
          case rel => exact ⟨k + 1, by go_num, by omega, rfl, HB7.out⟩
          case measure => simp [intOf]; omega
        · have HZ := Lib.hid (HNO.out (by omega))
          clear HNO HYES hxl hnl cN
          go_wp2
          go_roundw
          case rel => exact ⟨k + 1, by go_num, by omega, by rw [HZ.out], hb⟩
          case measure => simp [intOf]; omega
      · obtain rfl : k = 5 := by omega
        have HBE := Lib.hid (HB3.out.trans (hb.mono HB3.out.size))
        clear hb
        go_wp2
        go_ret
        exact ⟨by rw [← outTo_five]; rfl, HBE.out⟩
  · have c1 : W.cell? ⟨g, 1, none⟩ = some (.int .i64 3) := by rw [← hkd]; exact kb.cell 1
    have HE : Hid ((⟨#[99, 111, 108, 117, 109, 110]⟩ : ByteArray) = ⟨(outTo b 0).toArray⟩) := by
      show _ = _
      rw [outTo_kind (by omega), hkd]
      rfl
    go_upto_region 4 with fail
    have kb2 := kb.alloc (.cells #[.string ⟨#[108, 101, 97, 102]⟩, .string ⟨#[98, 108, 111, 99, 107]⟩, .string ⟨#[114, 111, 119]⟩, .string ⟨#[99, 111, 108, 117, 109, 110]⟩] 9)
    have hb2 := hb0.alloc hb0.size (.cells #[.string ⟨#[108, 101, 97, 102]⟩, .string ⟨#[98, 108, 111, 99, 107]⟩, .string ⟨#[114, 111, 119]⟩, .string ⟨#[99, 111, 108, 117, 109, 110]⟩] 9)
    generalize W.alloc (.cells #[.string ⟨#[108, 101, 97, 102]⟩, .string ⟨#[98, 108, 111, 99, 107]⟩, .string ⟨#[114, 111, 119]⟩, .string ⟨#[99, 111, 108, 117, 109, 110]⟩] 9) = W2 at *
    clear kb hb0 c1 hkd
    rw [HE.out]
    have d4 : W2.cell? ⟨g, 4, none⟩ = some (.int .i64 b.pad) := kb2.cell 4
    have d5 : W2.cell? ⟨g, 5, none⟩ = some (.int .i64 b.gap) := kb2.cell 5
    have d6 : W2.cell? ⟨g, 6, none⟩ = some (.int .i64 b.grow) := kb2.cell 6
    have d7 : W2.cell? ⟨g, 7, none⟩ = some (.int .i64 b.shrink) := kb2.cell 7
    have d8 : W2.cell? ⟨g, 8, none⟩ = some (.int .i64 b.justify) := kb2.cell 8
    have hg2 := kb2.lt
    clear kb2
    go_upto_region 6 with fail
    have kV := (Keep.new W2 (.cells #[.int .i64 b.pad, .int .i64 b.gap, .int .i64 b.grow, .int .i64 b.shrink, .int .i64 b.justify] 3)).alloc (.cells #[.string ⟨#[112, 97, 100]⟩, .string ⟨#[103, 97, 112]⟩, .string ⟨#[103, 114, 111, 119]⟩, .string ⟨#[115, 104, 114, 105, 110, 107]⟩, .string ⟨#[106, 117, 115, 116, 105, 102, 121]⟩] 9)
    have kN := keep_nx W2 (.cells #[.int .i64 b.pad, .int .i64 b.gap, .int .i64 b.grow, .int .i64 b.shrink, .int .i64 b.justify] 3) (.cells #[.string ⟨#[112, 97, 100]⟩, .string ⟨#[103, 97, 112]⟩, .string ⟨#[103, 114, 111, 119]⟩, .string ⟨#[115, 104, 114, 105, 110, 107]⟩, .string ⟨#[106, 117, 115, 116, 105, 102, 121]⟩] 9)
    have hb3 := (hb2.alloc hb2.size (.cells #[.int .i64 b.pad, .int .i64 b.gap, .int .i64 b.grow, .int .i64 b.shrink, .int .i64 b.justify] 3)).alloc (Nat.le_trans hb2.size (Below.of_alloc _ _).size) (.cells #[.string ⟨#[112, 97, 100]⟩, .string ⟨#[103, 97, 112]⟩, .string ⟨#[103, 114, 111, 119]⟩, .string ⟨#[115, 104, 114, 105, 110, 107]⟩, .string ⟨#[106, 117, 115, 116, 105, 102, 121]⟩] 9)
    generalize (W2.alloc (.cells #[.int .i64 b.pad, .int .i64 b.gap, .int .i64 b.grow, .int .i64 b.shrink, .int .i64 b.justify] 3)).alloc (.cells #[.string ⟨#[112, 97, 100]⟩, .string ⟨#[103, 97, 112]⟩, .string ⟨#[103, 114, 111, 119]⟩, .string ⟨#[115, 104, 114, 105, 110, 107]⟩, .string ⟨#[106, 117, 115, 116, 105, 102, 121]⟩] 9) = W3 at *
    obtain ⟨v, hv⟩ : ∃ v, W2.heap.size = v := ⟨_, rfl⟩
    rw [hv] at kV kN ⊢
    have CV := Lib.hid (fun (k : Nat) (hk : k < 5) => (show W3.cell? ⟨v, k, none⟩ = some (.int .i64 (vlT b k)) by
      rw [kV.cell k]
      have : k = 0 ∨ k = 1 ∨ k = 2 ∨ k = 3 ∨ k = 4 := by omega
      rcases this with rfl | rfl | rfl | rfl | rfl <;> rfl))
    have CN := Lib.hid (fun (k : Nat) (hk : k < 5) => (show W3.cell? ⟨v + 1, k, none⟩ = some (.string ⟨(nmT k).toArray⟩) by
      rw [kN.cell k]
      have : k = 0 ∨ k = 1 ∨ k = 2 ∨ k = 3 ∨ k = 4 := by omega
      rcases this with rfl | rfl | rfl | rfl | rfl <;> rfl))
    have HB3 := Lib.hid hb3
    clear d4 d5 d6 d7 d8 hg2 kV kN hb2 hb3 hv
    go_wp2
    go_loopw [3, 6] (fun o i wr => ∃ k : Nat, i = .int .i64 k ∧ k ≤ 5 ∧ o = .string ⟨(outTo b k).toArray⟩ ∧ Below W3.heap.size W3 wr) (fun _ i _ => 5 - (intOf i).toNat)
    case atStart => exact ⟨0, rfl, by omega, rfl, Below.refl _ _⟩
    case round =>
      obtain ⟨k, rfl, hk, rfl, hb⟩ := hrel
      by_cases hlt : k < 5
      · have hki : (k : Int) < 5 := by omega
        have hk0 : (0 : Int) ≤ (k : Int) := by omega
        have cV := cellB hb (CV.out k hlt)
        have cN := cellB hb (CN.out k hlt)
        have hvl := HVL.out k
        have hxl := HLN.out k
        have hnl := nmT_len k
        have HNO := Lib.hid (outTo_no (b := b) (k := k))
        have HYES := Lib.hid (outTo_yes (b := b) (k := k))
        generalize outTo b k = X at *
        generalize nmT k = N at *
        generalize vlT b k = n at *
        by_cases hn : 0 < n
        · have HZ : Hid ((⟨X.toArray⟩ ++ ⟨#[32]⟩ ++ ⟨N.toArray⟩ ++ ⟨#[32]⟩ ++ ⟨(numT n).toArray⟩ : ByteArray) = ⟨(outTo b (k + 1)).toArray⟩) := by
            show _ = _
            rw [HYES.out (by omega), show (⟨#[32]⟩ : ByteArray) = ⟨[32].toArray⟩ from rfl]
            simp only [ba_append]
          have HD := Lib.hid (fun w => sdec_int (n := n) w (by omega))
          have hdl := num_len (n := n) (by omega)
          have l1 : ¬ 9223372036854775807 < X.length + 1 := by omega
          have l2 : ¬ 9223372036854775807 < X.length + 1 + N.length := by omega
          have l3 : ¬ 9223372036854775807 < X.length + 1 + N.length + 1 := by omega
          have l4 : ¬ 9223372036854775807 < X.length + 1 + N.length + 1 + (numT n).length := by omega
          generalize numT n = D at *
          clear HNO HYES hxl hnl hdl hvl
          go_upto_region 10 with fail
          refine wp_region_held_drew (S := fun w' => Below wr.heap.size wr w') (by kernel_rfl) (Below.refl _ _).drew (fun hS => ?_)
          change wpAnyH _ _ _ _ _ _ _ _ wr.drew
          generalize wr.drew = wd at *
          refine hTake (by kernel_rfl) (fun d _ _ _ _ h => by cases d <;> exact h) hS 0 (some 49) _ rfl (v := ?_) (by kernel_rfl) ?_ ?_
          rotate_left
          · intro _ _; go_simp; first | done | with_reducible rfl
          simp only [Act.put, List.setIfInBounds_toArray, List.set_cons_zero, List.set_cons_succ]
          refine hTake (by kernel_rfl) (fun d _ _ _ _ h => by cases d <;> exact h) hS 1 (some 50) _ rfl (v := ?_) (by kernel_rfl) ?_ ?_
          rotate_left
          · intro _ _; go_simp; first | done | with_reducible rfl
          simp only [Act.put, List.setIfInBounds_toArray, List.set_cons_zero, List.set_cons_succ]
          refine hTake (by kernel_rfl) (fun d _ _ _ _ h => by cases d <;> exact h) hS 2 (some 51) _ rfl (v := ?_) (by kernel_rfl) ?_ ?_
          rotate_left
          · intro _ _; go_simp; first | done | with_reducible rfl
          simp only [Act.put, List.setIfInBounds_toArray, List.set_cons_zero, List.set_cons_succ]
          refine hTake (by kernel_rfl) (fun d _ _ _ _ h => by cases d <;> exact h) hS 3 (some 52) _ rfl (v := ?_) (by kernel_rfl) ?_ ?_
          rotate_left
          · intro _ _; go_simp; first | done | with_reducible rfl
          simp only [Act.put, List.setIfInBounds_toArray, List.set_cons_zero, List.set_cons_succ]
          refine hTake (by kernel_rfl) (fun d _ _ _ _ h => by cases d <;> exact h) hS 4 (some 53) _ rfl (v := ?_) (by kernel_rfl) ?_ ?_
          rotate_left
          · intro _ _; go_simp; first | done | with_reducible rfl
          simp only [Act.put, List.setIfInBounds_toArray, List.set_cons_zero, List.set_cons_succ]
          refine hTake (by kernel_rfl) (fun d _ _ _ _ h => by cases d <;> exact h) hS 5 (some 54) _ rfl (v := ?_) (by kernel_rfl) ?_ ?_
          rotate_left
          · intro w9 hS9; have q := cellB hS9 cN; go_simp; first | done | with_reducible rfl
          simp only [Act.put, List.setIfInBounds_toArray, List.set_cons_zero, List.set_cons_succ]
          refine hTake (by kernel_rfl) (fun d _ _ _ _ h => by cases d <;> exact h) hS 6 (some 55) _ rfl (v := ?_) (by kernel_rfl) ?_ ?_
          rotate_left
          · intro _ _; go_simp; first | done | with_reducible rfl
          simp only [Act.put, List.setIfInBounds_toArray, List.set_cons_zero, List.set_cons_succ]
          refine hTake (by kernel_rfl) (fun d _ _ _ _ h => by cases d <;> exact h) hS 7 (some 56) _ rfl (v := ?_) (by kernel_rfl) ?_ ?_
          rotate_left
          · intro _ _; go_simp; first | done | with_reducible rfl
          simp only [Act.put, List.setIfInBounds_toArray, List.set_cons_zero, List.set_cons_succ]
          refine hTake (by kernel_rfl) (fun d _ _ _ _ h => by cases d <;> exact h) hS 8 (some 57) _ rfl (v := ?_) (by kernel_rfl) ?_ ?_
          rotate_left
          · intro _ _; go_simp; first | done | with_reducible rfl
          simp only [Act.put, List.setIfInBounds_toArray, List.set_cons_zero, List.set_cons_succ]
          refine hTake (by kernel_rfl) (fun d _ _ _ _ h => by cases d <;> exact h) hS 9 (some 58) _ rfl (v := ?_) (by kernel_rfl) ?_ ?_
          rotate_left
          · intro _ _; go_simp; first | done | with_reducible rfl
          simp only [Act.put, List.setIfInBounds_toArray, List.set_cons_zero, List.set_cons_succ]
          refine hTake (by kernel_rfl) (fun d _ _ _ _ h => by cases d <;> exact h) hS 10 (some 59) _ rfl (v := ?_) (by kernel_rfl) ?_ ?_
          rotate_left
          · intro _ _; go_simp; first | done | with_reducible rfl
          simp only [Act.put, List.setIfInBounds_toArray, List.set_cons_zero, List.set_cons_succ]
          refine hTake (by kernel_rfl) (fun d _ _ _ _ h => by cases d <;> exact h) hS 11 (some 60) _ rfl (v := ?_) (by kernel_rfl) ?_ ?_
          rotate_left
          · intro w9 hS9; have q := cellB hS9 cV; go_simp; first | done | with_reducible rfl
          simp only [Act.put, List.setIfInBounds_toArray, List.set_cons_zero, List.set_cons_succ]
          refine wpAnyH_ready (rs := [12]) (by kernel_rfl) (by simp) ?_
          refine AllReadyH.cons (o := _) rfl (fun K9 hK9 => ?_) AllReadyH.nil
          go_simp
          refine (HD.out _).mono ?_
          rintro e w7 ⟨rfl, hx7⟩
          unfold sv
          try go_wp2_with fail
          refine hK9.out _ _ (after hS hx7 (Nat.le_refl _)) (fun hS => ?_)
          clear hK9 K9
          try simp only [Act.put, List.setIfInBounds_toArray, List.set_cons_zero, List.set_cons_succ]
          clear hx7
          refine hTake (by kernel_rfl) (fun d _ _ _ _ h => by cases d <;> exact h) hS 13 (some 62) _ rfl (v := ?_) (by kernel_rfl) ?_ ?_
          rotate_left
          · intro _ _; go_simp; first | done | with_reducible rfl
          simp only [Act.put, List.setIfInBounds_toArray, List.set_cons_zero, List.set_cons_succ]
          refine hTake (by kernel_rfl) (fun d _ _ _ _ h => by cases d <;> exact h) hS 14 (some 3) _ rfl (v := ?_) (by kernel_rfl) ?_ ?_
          rotate_left
          · intro _ _; go_simp; first | done | with_reducible rfl
          simp only [Act.put, List.setIfInBounds_toArray, List.set_cons_zero, List.set_cons_succ]
          refine wpAnyH_done (by kernel_rfl) ?_ _
          have HB7 := Lib.hid (after hb hS (Nat.le_refl _))
          clear hS hb cV cN
          rw [HZ.out]
          go_wp2
          go_roundw
          case rel => exact ⟨k + 1, by go_num, by omega, rfl, HB7.out⟩
          case measure => simp [intOf]; omega
        · have HZ := Lib.hid (HNO.out (by omega))
          clear HNO HYES hxl hnl cN
          go_wp2
          go_roundw
          case rel => exact ⟨k + 1, by go_num, by omega, by rw [HZ.out], hb⟩
          case measure => simp [intOf]; omega
      · obtain rfl : k = 5 := by omega
        have HBE := Lib.hid (HB3.out.trans (hb.mono HB3.out.size))
        clear hb
        go_wp2
        go_ret
        exact ⟨by rw [← outTo_five]; rfl, HBE.out⟩
end Go.Proofs.YtdlggpphfkjidaaGreatDoor
