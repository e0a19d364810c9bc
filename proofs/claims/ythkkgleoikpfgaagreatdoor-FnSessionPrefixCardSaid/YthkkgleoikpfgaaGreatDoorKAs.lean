/-
  Parts of the proof: STxt SPrs SPi SPb.
-/
import Derived.Deep.Cut
import Derived.IntWalk
import Derived.StillTailTactics
import Derived.Laws.IdiomStrings
import Derived.Test.YthkkgleoikpfgaaGreatDoorKAd
import Derived.Test.YthkkgleoikpfgaaGreatDoorKAa
import Derived.Test.YthkkgleoikpfgaaGreatDoorKAb
import Derived.Test.YthkkgleoikpfgaaGreatDoorKAe
import Derived.Test.YthkkgleoikpfgaaGreatDoorKAc
import Derived.Test.YthkkgleoikpfgaaGreatDoorKAf
namespace Go.Proofs.YthkkgleoikpfgaaGreatDoor
open Go Go.RowKit
theorem conv_one (W : World) (g : Nat) (c : UInt8) (x : Int) (hx : x = (c.toNat : Int)) (h : W.cell? ⟨g, 0, none⟩ = some (.int .u8 x)) :
 Sem.run Tryz.prog (convert 22 9 (.slice (some ⟨g, 0, none⟩) 1 1)) W = .ok (.string ⟨#[c]⟩) W :=
 run_convert_bytes_back W 22 9 5 ⟨g, 0, none⟩ 1 [c] (by kernel_rfl) (by kernel_rfl) (by kernel_rfl) (fun j hj => by
  have : j = 0 := by simp at hj; omega
  subst this
  subst hx
  exact h)
theorem dig_nat {d : Nat} (h : d < 10) : ((UInt8.ofNat (48 + d)).toNat : Int) = 48 + (d : Int) := by
 rw [UInt8.toNat_ofNat']
 omega
set_option maxRecDepth 100000 in
set_option maxHeartbeats 1000000 in
theorem sdec_any (n : Nat) : ∀ (w : World), n < 1000000 → Calls Tryz.prog 18 #[.int .i64 (n : Int)] w fun e w' => e = .returned (sv (Lib.decDigits n)) ∧ Ext w w' := by
 induction n using Nat.strongRecOn with
 | _ n ih =>
  intro w hn
  by_cases h : n < 10
  ·have hi : (n : Int) < 10 := by omega
   have h0 : ¬ (n : Int) < 0 := by omega
   have HD : Hid (Lib.decDigits n = [UInt8.ofNat (48 + n)]) := by
    show _ = _
    rw [Lib.decDigits, dif_pos h]
   have hcv := conv_one (w.alloc (.cells #[.int .u8 (48 + (n : Int))] 5)) w.heap.size (UInt8.ofNat (48 + n)) _ (dig_nat h).symm (by rw [cell_of_heap (heap_alloc_new w _)]; rfl)
   have HB := Lib.hid (Below.of_alloc w (.cells #[.int .u8 (48 + (n : Int))] 5))
   generalize UInt8.ofNat (48 + n) = c at *
   clear ih
   go_enter Tryz.func18, Tryz.ntmps18
   go_wp2
   go_ret
   exact ⟨by rw [HD.out]; rfl, HB.out⟩
  ·have hi : ¬ (n : Int) < 10 := by omega
   have h0 : ¬ (n : Int) < 0 := by omega
   have HD : Hid (Lib.decDigits n = Lib.decDigits (n / 10) ++ [UInt8.ofNat (48 + n % 10)]) := by
    show _ = _
    rw [Lib.decDigits, dif_neg h]
   have HIH := Lib.hid (fun w => ih (n / 10) (by omega) w (by omega))
   have HCV := Lib.hid (fun W g h => conv_one W g (UInt8.ofNat (48 + n % 10)) (48 + ((n % 10 : Nat) : Int)) (dig_nat (by omega)).symm h)
   generalize UInt8.ofNat (48 + n % 10) = c at *
   have htm : (n : Int).tmod 10 = ((n % 10 : Nat) : Int) := by rw [Int.tmod_eq_emod_of_nonneg (by omega)]; omega
   have hdv : IntKind.i64.wrap ((n : Int) / 10) = ((n / 10 : Nat) : Int) := by rw [IntKind.wrap_i64]; omega
   have hd10 : n % 10 < 10 := Nat.mod_lt _ (by omega)
   have hln : ¬ 9223372036854775807 < (Lib.decDigits (n / 10)).length + 1 := by
    have := dec_len (n / 10)
    omega
   generalize n / 10 = m at *
   generalize n % 10 = d at *
   have hdi : (d : Int) < 10 := by omega
   have hw48 : IntKind.i64.wrap (48 + (d : Int)) = 48 + (d : Int) := by rw [IntKind.wrap_i64]; omega
   have hw8 : IntKind.u8.wrap (48 + (d : Int)) = 48 + (d : Int) := by rw [IntKind.wrap_u8]; omega
   clear ih h
   go_enter Tryz.func18, Tryz.ntmps18
   go_upto_region 5 with fail
   refine wp_region_held_drew (S := fun w' => Below w.heap.size w w') (by kernel_rfl) (Below.refl _ _).drew (fun hS => ?_)
   change wpAnyH _ _ _ _ _ _ _ _ w.drew
   generalize w.drew = wd at *
   refine hTk hS 0 16 rfl (v := ?_) ?_ ?_
   rotate_left
   ·intro _ _; go_simp; first | done | with_reducible rfl
   simp only [Act.put, lsA, ls0, ls1]
   refine hTk hS 1 17 rfl (v := ?_) ?_ ?_
   rotate_left
   ·intro _ _; go_simp; first | done | with_reducible rfl
   simp only [Act.put, lsA, ls0, ls1]
   refine hTk hS 3 19 rfl (v := ?_) ?_ ?_
   rotate_left
   ·intro _ _; go_simp; first | done | with_reducible rfl
   simp only [Act.put, lsA, ls0, ls1]
   refine hTk hS 4 20 rfl (v := ?_) ?_ ?_
   rotate_left
   ·intro _ _; go_simp; first | done | with_reducible rfl
   simp only [Act.put, lsA, ls0, ls1]
   refine hTk hS 5 21 rfl (v := ?_) ?_ ?_
   rotate_left
   ·intro _ _; go_simp; first | done | with_reducible rfl
   simp only [Act.put, lsA, ls0, ls1]
   refine hTk hS 6 22 rfl (v := ?_) ?_ ?_
   rotate_left
   ·intro _ _; go_simp; first | done | with_reducible rfl
   simp only [Act.put, lsA, ls0, ls1]
   refine wpAnyH_ready (rs := [2, 7]) (by kernel_rfl) (by simp) ?_
   refine AllReadyH.cons (o := _) rfl (fun K9 hK9 => ?_) (AllReadyH.cons (o := _) rfl (fun K9 hK9 => ?_) AllReadyH.nil)
   ·go_simp
    refine (HIH.out _).mono ?_
    rintro e w7 ⟨rfl, hx7⟩
    unfold sv
    try go_wp2_with fail
    refine hK9.out _ _ (after hS hx7 (Nat.le_refl _)) (fun hS => ?_)
    clear hK9 K9
    try simp only [Act.put, lsA, ls0, ls1]
    clear hx7
    refine wpAnyH_ready (rs := [7]) (by kernel_rfl) (by simp) ?_
    refine AllReadyH.cons (o := _) rfl (fun K9 hK9 => ?_) AllReadyH.nil
    go_simp
    have k7 := Keep.new w7 (.cells #[.int .u8 (48 + (d : Int))] 5)
    refine hK9.out _ _ (hS.alloc hS.size _) (fun hS => ?_)
    clear hK9 K9
    try simp only [Act.put, lsA, ls0, ls1]
    refine wpAnyH_ready (rs := [8]) (by kernel_rfl) (by simp) ?_
    refine AllReadyH.cons (o := _) rfl (fun K9 hK9 => ?_) AllReadyH.nil
    have hcv := HCV.out _ _ (k7.cell 0)
    go_simp
    refine hK9.out _ _ hS (fun hS => ?_)
    clear hK9 K9
    try simp only [Act.put, lsA, ls0, ls1]
    clear hcv k7
    refine hTk hS 9 25 rfl (v := ?_) ?_ ?_
    rotate_left
    ·intro _ _; go_simp; first | done | with_reducible rfl
    simp only [Act.put, lsA, ls0, ls1]
    refine hTk hS 10 2 rfl (v := ?_) ?_ ?_
    rotate_left
    ·intro _ _; go_simp; first | done | with_reducible rfl
    simp only [Act.put, lsA, ls0, ls1]
    refine wpAnyH_done (by kernel_rfl) ?_ _
    have HB := Lib.hid hS
    clear hS
    rw [show ByteArray.mk #[c] = ⟨[c].toArray⟩ from rfl, ba_append]
    go_wp2
    go_ret
    exact ⟨by rw [HD.out]; rfl, HB.out⟩
   ·go_simp
    have k7 := Keep.new wd (.cells #[.int .u8 (48 + (d : Int))] 5)
    refine hK9.out _ _ (hS.alloc hS.size _) (fun hS => ?_)
    clear hK9 K9
    try simp only [Act.put, lsA, ls0, ls1]
    refine wpAnyH_ready (rs := [2, 8]) (by kernel_rfl) (by simp) ?_
    refine AllReadyH.cons (o := _) rfl (fun K9 hK9 => ?_) (AllReadyH.cons (o := _) rfl (fun K9 hK9 => ?_) AllReadyH.nil)
    ·go_simp
     refine (HIH.out _).mono ?_
     rintro e w7 ⟨rfl, hx7⟩
     unfold sv
     try go_wp2_with fail
     replace k7 := keepE k7 hx7
     refine hK9.out _ _ (after hS hx7 (Nat.le_refl _)) (fun hS => ?_)
     clear hK9 K9
     try simp only [Act.put, lsA, ls0, ls1]
     clear hx7
     refine wpAnyH_ready (rs := [8]) (by kernel_rfl) (by simp) ?_
     refine AllReadyH.cons (o := _) rfl (fun K9 hK9 => ?_) AllReadyH.nil
     have hcv := HCV.out _ _ (k7.cell 0)
     go_simp
     refine hK9.out _ _ hS (fun hS => ?_)
     clear hK9 K9
     try simp only [Act.put, lsA, ls0, ls1]
     clear hcv k7
     refine hTk hS 9 25 rfl (v := ?_) ?_ ?_
     rotate_left
     ·intro _ _; go_simp; first | done | with_reducible rfl
     simp only [Act.put, lsA, ls0, ls1]
     refine hTk hS 10 2 rfl (v := ?_) ?_ ?_
     rotate_left
     ·intro _ _; go_simp; first | done | with_reducible rfl
     simp only [Act.put, lsA, ls0, ls1]
     refine wpAnyH_done (by kernel_rfl) ?_ _
     have HB := Lib.hid hS
     clear hS
     rw [show ByteArray.mk #[c] = ⟨[c].toArray⟩ from rfl, ba_append]
     go_wp2
     go_ret
     exact ⟨by rw [HD.out]; rfl, HB.out⟩
    ·have hcv := HCV.out _ _ (k7.cell 0)
     go_simp
     refine hK9.out _ _ hS (fun hS => ?_)
     clear hK9 K9
     try simp only [Act.put, lsA, ls0, ls1]
     clear hcv k7
     refine wpAnyH_ready (rs := [2]) (by kernel_rfl) (by simp) ?_
     refine AllReadyH.cons (o := _) rfl (fun K9 hK9 => ?_) AllReadyH.nil
     go_simp
     refine (HIH.out _).mono ?_
     rintro e w7 ⟨rfl, hx7⟩
     unfold sv
     try go_wp2_with fail
     refine hK9.out _ _ (after hS hx7 (Nat.le_refl _)) (fun hS => ?_)
     clear hK9 K9
     try simp only [Act.put, lsA, ls0, ls1]
     clear hx7
     refine hTk hS 9 25 rfl (v := ?_) ?_ ?_
     rotate_left
     ·intro _ _; go_simp; first | done | with_reducible rfl
     simp only [Act.put, lsA, ls0, ls1]
     refine hTk hS 10 2 rfl (v := ?_) ?_ ?_
     rotate_left
     ·intro _ _; go_simp; first | done | with_reducible rfl
     simp only [Act.put, lsA, ls0, ls1]
     refine wpAnyH_done (by kernel_rfl) ?_ _
     have HB := Lib.hid hS
     clear hS
     rw [show ByteArray.mk #[c] = ⟨[c].toArray⟩ from rfl, ba_append]
     go_wp2
     go_ret
     exact ⟨by rw [HD.out]; rfl, HB.out⟩
theorem vl_le {b : Bx} (h : okB b = true) (k : Nat) : 0 ≤ vlT b k ∧ vlT b k ≤ 100 := by
 have hb := okB_bounds h
 unfold vlT
 split <;> omega
theorem sdec_int {n : Int} (w : World) (h : 0 ≤ n ∧ n ≤ 100) : Calls Tryz.prog 18 #[.int .i64 n] w fun e w' => e = .returned (sv (numT n)) ∧ Ext w w' := by
 obtain ⟨m, rfl⟩ := Int.eq_ofNat_of_zero_le h.1
 exact sdec_any m w (by omega)
theorem keep_nx (w : World) (o1 o2 : Obj) : Keep (w.heap.size + 1) o2 ((w.alloc o1).alloc o2) := by
 have := Keep.new (w.alloc o1) o2
 rw [World.size_alloc] at this
 exact this
set_option maxRecDepth 100000 in
set_option maxHeartbeats 1600000 in
theorem sboxText_any {b : Bx} (w : World) (hok : okB b = true) :
 Calls Tryz.prog 19 #[b.agg] w fun e w' => e = .returned (sv (boxT b)) ∧ Ext w w' := by
 have hb := okB_bounds hok
 have kb := Keep.new w (.cells #[.int .i64 b.parent, .int .i64 b.kind, .int .i64 b.w, .int .i64 b.h, .int .i64 b.pad, .int .i64 b.gap, .int .i64 b.grow, .int .i64 b.shrink, .int .i64 b.justify] 39)
 have hb0 := Below.of_alloc w (.cells #[.int .i64 b.parent, .int .i64 b.kind, .int .i64 b.w, .int .i64 b.h, .int .i64 b.pad, .int .i64 b.gap, .int .i64 b.grow, .int .i64 b.shrink, .int .i64 b.justify] 39)
 have HVL := Lib.hid (vl_le hok)
 have HLN := Lib.hid (outTo_len (b := b) (by omega) (by omega) (fun k => (vl_le hok k).2))
 have hk : b.kind = 0 ∨ b.kind = 1 ∨ b.kind = 2 ∨ b.kind = 3 := by omega
 unfold Bx.agg
 go_enter Tryz.func19, Tryz.ntmps19
 go_upto_region 1 with fail
 generalize w.alloc (.cells #[.int .i64 b.parent, .int .i64 b.kind, .int .i64 b.w, .int .i64 b.h, .int .i64 b.pad, .int .i64 b.gap, .int .i64 b.grow, .int .i64 b.shrink, .int .i64 b.justify] 39) = W at *
 obtain ⟨g, hg⟩ : ∃ g, w.heap.size = g := ⟨_, rfl⟩
 rw [hg] at kb ⊢
 clear hg
 have hgl := kb.lt
 rcases hk with hkd | hkd | hkd | hkd
 ·have c1 : W.cell? ⟨g, 1, none⟩ = some (.int .i64 0) := by rw [← hkd]; exact kb.cell 1
  go_upto_region 3 with fail
  have kb1 := kb.alloc (.cells #[.string ⟨#[108, 101, 97, 102]⟩, .string ⟨#[98, 108, 111, 99, 107]⟩, .string ⟨#[114, 111, 119]⟩, .string ⟨#[99, 111, 108, 117, 109, 110]⟩] 9)
  have hb1 := hb0.alloc hb0.size (.cells #[.string ⟨#[108, 101, 97, 102]⟩, .string ⟨#[98, 108, 111, 99, 107]⟩, .string ⟨#[114, 111, 119]⟩, .string ⟨#[99, 111, 108, 117, 109, 110]⟩] 9)
  generalize W.alloc (.cells #[.string ⟨#[108, 101, 97, 102]⟩, .string ⟨#[98, 108, 111, 99, 107]⟩, .string ⟨#[114, 111, 119]⟩, .string ⟨#[99, 111, 108, 117, 109, 110]⟩] 9) = W1 at *
  have hcw : W1.cell? ⟨g, 2, none⟩ = some (.int .i64 b.w) := kb1.cell 2
  have hch : W1.cell? ⟨g, 3, none⟩ = some (.int .i64 b.h) := kb1.cell 3
  have HDW := Lib.hid (fun w => sdec_int (n := b.w) w (by omega))
  have HDH := Lib.hid (fun w => sdec_int (n := b.h) w (by omega))
  have hl1 := num_len (n := b.w) (by omega)
  have hl2 := num_len (n := b.h) (by omega)
  have hln1 : ¬ 9223372036854775807 < 5 + (numT b.w).length := by omega
  have hln2 : ¬ 9223372036854775807 < 5 + (numT b.w).length + 1 := by omega
  have hln3 : ¬ 9223372036854775807 < 5 + (numT b.w).length + 1 + (numT b.h).length := by omega
  have HE : Hid ((⟨#[108, 101, 97, 102]⟩ ++ ⟨#[32]⟩ ++ ⟨(numT b.w).toArray⟩ ++ ⟨#[32]⟩ ++ ⟨(numT b.h).toArray⟩ : ByteArray) = ⟨(outTo b 0).toArray⟩) := by
   show _ = _
   rw [outTo_leaf hkd, show (⟨#[108, 101, 97, 102]⟩ : ByteArray) = ⟨leafT.toArray⟩ from rfl, show (⟨#[32]⟩ : ByteArray) = ⟨[32].toArray⟩ from rfl]
   simp only [ba_append]
  clear kb hb0 c1 hl1 hl2
  refine wp_region_held_drew (S := fun w' => Below W1.heap.size W1 w') (by kernel_rfl) (Below.refl _ _).drew (fun hS => ?_)
  change wpAnyH _ _ _ _ _ _ _ _ W1.drew
  generalize W1.drew = wd at *
  refine hTk hS 0 15 rfl (v := ?_) ?_ ?_
  rotate_left
  ·intro _ _; go_simp; first | done | with_reducible rfl
  simp only [Act.put, lsA, ls0, ls1]
  refine hTk hS 1 16 rfl (v := ?_) ?_ ?_
  rotate_left
  ·intro _ _; go_simp; first | done | with_reducible rfl
  simp only [Act.put, lsA, ls0, ls1]
  refine hTk hS 2 17 rfl (v := ?_) ?_ ?_
  rotate_left
  ·intro _ _; go_simp; first | done | with_reducible rfl
  simp only [Act.put, lsA, ls0, ls1]
  refine hTk hS 3 18 rfl (v := ?_) ?_ ?_
  rotate_left
  ·intro w9 hS9; have q := cellB hS9 hcw; go_simp; first | done | with_reducible rfl
  simp only [Act.put, lsA, ls0, ls1]
  refine hTk hS 7 22 rfl (v := ?_) ?_ ?_
  rotate_left
  ·intro _ _; go_simp; first | done | with_reducible rfl
  simp only [Act.put, lsA, ls0, ls1]
  refine hTk hS 8 23 rfl (v := ?_) ?_ ?_
  rotate_left
  ·intro w9 hS9; have q := cellB hS9 hch; go_simp; first | done | with_reducible rfl
  simp only [Act.put, lsA, ls0, ls1]
  refine wpAnyH_ready (rs := [4]) (by kernel_rfl) (by simp) ?_
  refine AllReadyH.cons (o := _) rfl (fun K9 hK9 => ?_) AllReadyH.nil
  go_simp
  refine (HDW.out _).mono ?_
  rintro e w7 ⟨rfl, hx7⟩
  unfold sv
  try go_wp2_with fail
  refine hK9.out _ _ (after hS hx7 (Nat.le_refl _)) (fun hS => ?_)
  clear hK9 K9
  try simp only [Act.put, lsA, ls0, ls1]
  clear hx7
  refine hTk hS 5 20 rfl (v := ?_) ?_ ?_
  rotate_left
  ·intro _ _; go_simp; first | done | with_reducible rfl
  simp only [Act.put, lsA, ls0, ls1]
  refine hTk hS 6 21 rfl (v := ?_) ?_ ?_
  rotate_left
  ·intro _ _; go_simp; first | done | with_reducible rfl
  simp only [Act.put, lsA, ls0, ls1]
  refine wpAnyH_ready (rs := [9]) (by kernel_rfl) (by simp) ?_
  refine AllReadyH.cons (o := _) rfl (fun K9 hK9 => ?_) AllReadyH.nil
  go_simp
  refine (HDH.out _).mono ?_
  rintro e w8 ⟨rfl, hx8⟩
  unfold sv
  try go_wp2_with fail
  refine hK9.out _ _ (after hS hx8 (Nat.le_refl _)) (fun hS => ?_)
  clear hK9 K9
  try simp only [Act.put, lsA, ls0, ls1]
  clear hx8
  refine hTk hS 10 25 rfl (v := ?_) ?_ ?_
  rotate_left
  ·intro _ _; go_simp; first | done | with_reducible rfl
  simp only [Act.put, lsA, ls0, ls1]
  refine hTk hS 11 3 rfl (v := ?_) ?_ ?_
  rotate_left
  ·intro _ _; go_simp; first | done | with_reducible rfl
  simp only [Act.put, lsA, ls0, ls1]
  refine wpAnyH_done (by kernel_rfl) ?_ _
  have hb2 := after hb1 hS (Nat.le_refl _)
  have kb2 := keepE kb1 hS
  rw [HE.out]
  clear hS hb1 kb1 hcw hch
  generalize w8 = W2 at *
  have d4 : W2.cell? ⟨g, 4, none⟩ = some (.int .i64 b.pad) := kb2.cell 4
  have d5 : W2.cell? ⟨g, 5, none⟩ = some (.int .i64 b.gap) := kb2.cell 5
  have d6 : W2.cell? ⟨g, 6, none⟩ = some (.int .i64 b.grow) := kb2.cell 6
  have d7 : W2.cell? ⟨g, 7, none⟩ = some (.int .i64 b.shrink) := kb2.cell 7
  have d8 : W2.cell? ⟨g, 8, none⟩ = some (.int .i64 b.justify) := kb2.cell 8
  have hg2 := kb2.lt
  clear kb2
  go_upto_region 6 with fail
  have kV := (Keep.new W2 (.cells #[.int .i64 b.pad, .int .i64 b.gap, .int .i64 b.grow, .int .i64 b.shrink, .int .i64 b.justify] 3)).alloc (.cells #[.string ⟨#[112, 97, 100]⟩, .string ⟨#[103, 97, 112]⟩, .string ⟨#[103, 114, 111, 119]⟩, .string ⟨#[115, 104, 114, 105, 110, 107]⟩, .string ⟨#[106, 117, 115, 116, 105, 102, 121]⟩] 9)
  have kN := keep_nx W2 (.cells #[.int .i64 b.pad, .int .i64 b.gap, .int .i64 b.grow, .int .i64 b.shrink, .int .i64 b.justify] 3) (.cells #[.string ⟨#[112, 97, 100]⟩, .string ⟨#[103, 97, 112]⟩, .string ⟨#[103, 114, 111, 119]⟩, .string ⟨#[115, 104, 114, 105, 110, 107]⟩, .string ⟨#[106, 117, 115, 116, 105, 102, 121]⟩] 9)
  have hb3 := (hb2.alloc hb2.size (.cells #[.int .i64 b.pad, .int .i64 b.gap, .int .i64 b.grow, .int .i64 b.shrink, .int .i64 b.justify] 3)).alloc (Nat.le_trans hb2.size (Below.of_alloc _ _).size) (.cells #[.string ⟨#[112, 97, 100]⟩, .string ⟨#[103, 97, 112]⟩, .string ⟨#[103, 114, 111, 119]⟩, .string ⟨#[115, 104, 114, 105, 110, 107]⟩, .string ⟨#[106, 117, 115, 116, 105, 102, 121]⟩] 9)
  generalize (W2.alloc (.cells #[.int .i64 b.pad, .int .i64 b.gap, .int .i64 b.grow, .int .i64 b.shrink, .int .i64 b.justify] 3)).alloc (.cells #[.string ⟨#[112, 97, 100]⟩, .string ⟨#[103, 97, 112]⟩, .string ⟨#[103, 114, 111, 119]⟩, .string ⟨#[115, 104, 114, 105, 110, 107]⟩, .string ⟨#[106, 117, 115, 116, 105, 102, 121]⟩] 9) = W3 at *
  obtain ⟨v, hv⟩ : ∃ v, W2.heap.size = v := ⟨_, rfl⟩
  rw [hv] at kV kN ⊢
  have CV := Lib.hid (fun (k : Nat) (hk : k < 5) => (show W3.cell? ⟨v, k, none⟩ = some (.int .i64 (vlT b k)) by
   rw [kV.cell k]
   have : k = 0 ∨ k = 1 ∨ k = 2 ∨ k = 3 ∨ k = 4 := by omega
   rcases this with rfl | rfl | rfl | rfl | rfl <;> rfl))
  have CN := Lib.hid (fun (k : Nat) (hk : k < 5) => (show W3.cell? ⟨v + 1, k, none⟩ = some (.string ⟨(nmT k).toArray⟩) by
   rw [kN.cell k]
   have : k = 0 ∨ k = 1 ∨ k = 2 ∨ k = 3 ∨ k = 4 := by omega
   rcases this with rfl | rfl | rfl | rfl | rfl <;> rfl))
  have HB3 := Lib.hid hb3
  clear d4 d5 d6 d7 d8 hg2 kV kN hb2 hb3 hv
  go_wp2
  go_loopw [3, 6] (fun o i wr => ∃ k : Nat, i = .int .i64 k ∧ k ≤ 5 ∧ o = .string ⟨(outTo b k).toArray⟩ ∧ Below W3.heap.size W3 wr) (fun _ i _ => 5 - (intOf i).toNat)
  case atStart => exact ⟨0, rfl, by omega, rfl, Below.refl _ _⟩
  case round =>
   obtain ⟨k, rfl, hk, rfl, hb⟩ := hrel
   by_cases hlt : k < 5
   ·have hki : (k : Int) < 5 := by omega
    have hk0 : (0 : Int) ≤ (k : Int) := by omega
    have cV := cellB hb (CV.out k hlt)
    have cN := cellB hb (CN.out k hlt)
    have hvl := HVL.out k
    have hxl := HLN.out k
    have hnl := nmT_len k
    have HNO := Lib.hid (outTo_no (b := b) (k := k))
    have HYES := Lib.hid (outTo_yes (b := b) (k := k))
    generalize outTo b k = X at *
    generalize nmT k = N at *
    generalize vlT b k = n at *
    by_cases hn : 0 < n
    ·have HZ : Hid ((⟨X.toArray⟩ ++ ⟨#[32]⟩ ++ ⟨N.toArray⟩ ++ ⟨#[32]⟩ ++ ⟨(numT n).toArray⟩ : ByteArray) = ⟨(outTo b (k + 1)).toArray⟩) := by
      show _ = _
      rw [HYES.out (by omega), show (⟨#[32]⟩ : ByteArray) = ⟨[32].toArray⟩ from rfl]
      simp only [ba_append]
     have HD := Lib.hid (fun w => sdec_int (n := n) w (by omega))
     have hdl := num_len (n := n) (by omega)
     have l1 : ¬ 9223372036854775807 < X.length + 1 := by omega
     have l2 : ¬ 9223372036854775807 < X.length + 1 + N.length := by omega
     have l3 : ¬ 9223372036854775807 < X.length + 1 + N.length + 1 := by omega
     have l4 : ¬ 9223372036854775807 < X.length + 1 + N.length + 1 + (numT n).length := by omega
     generalize numT n = D at *
     clear HNO HYES hxl hnl hdl hvl
     go_upto_region 10 with fail
     refine wp_region_held_drew (S := fun w' => Below wr.heap.size wr w') (by kernel_rfl) (Below.refl _ _).drew (fun hS => ?_)
     change wpAnyH _ _ _ _ _ _ _ _ wr.drew
     generalize wr.drew = wd at *
     refine hTk hS 0 49 rfl (v := ?_) ?_ ?_
     rotate_left
     ·intro _ _; go_simp; first | done | with_reducible rfl
     simp only [Act.put, lsA, ls0, ls1]
     refine hTk hS 1 50 rfl (v := ?_) ?_ ?_
     rotate_left
     ·intro _ _; go_simp; first | done | with_reducible rfl
     simp only [Act.put, lsA, ls0, ls1]
     refine hTk hS 2 51 rfl (v := ?_) ?_ ?_
     rotate_left
     ·intro _ _; go_simp; first | done | with_reducible rfl
     simp only [Act.put, lsA, ls0, ls1]
     refine hTk hS 3 52 rfl (v := ?_) ?_ ?_
     rotate_left
     ·intro _ _; go_simp; first | done | with_reducible rfl
     simp only [Act.put, lsA, ls0, ls1]
     refine hTk hS 4 53 rfl (v := ?_) ?_ ?_
     rotate_left
     ·intro _ _; go_simp; first | done | with_reducible rfl
     simp only [Act.put, lsA, ls0, ls1]
     refine hTk hS 5 54 rfl (v := ?_) ?_ ?_
     rotate_left
     ·intro w9 hS9; have q := cellB hS9 cN; go_simp; first | done | with_reducible rfl
     simp only [Act.put, lsA, ls0, ls1]
     refine hTk hS 6 55 rfl (v := ?_) ?_ ?_
     rotate_left
     ·intro _ _; go_simp; first | done | with_reducible rfl
     simp only [Act.put, lsA, ls0, ls1]
     refine hTk hS 7 56 rfl (v := ?_) ?_ ?_
     rotate_left
     ·intro _ _; go_simp; first | done | with_reducible rfl
     simp only [Act.put, lsA, ls0, ls1]
     refine hTk hS 8 57 rfl (v := ?_) ?_ ?_
     rotate_left
     ·intro _ _; go_simp; first | done | with_reducible rfl
     simp only [Act.put, lsA, ls0, ls1]
     refine hTk hS 9 58 rfl (v := ?_) ?_ ?_
     rotate_left
     ·intro _ _; go_simp; first | done | with_reducible rfl
     simp only [Act.put, lsA, ls0, ls1]
     refine hTk hS 10 59 rfl (v := ?_) ?_ ?_
     rotate_left
     ·intro _ _; go_simp; first | done | with_reducible rfl
     simp only [Act.put, lsA, ls0, ls1]
     refine hTk hS 11 60 rfl (v := ?_) ?_ ?_
     rotate_left
     ·intro w9 hS9; have q := cellB hS9 cV; go_simp; first | done | with_reducible rfl
     simp only [Act.put, lsA, ls0, ls1]
     refine wpAnyH_ready (rs := [12]) (by kernel_rfl) (by simp) ?_
     refine AllReadyH.cons (o := _) rfl (fun K9 hK9 => ?_) AllReadyH.nil
     go_simp
     refine (HD.out _).mono ?_
     rintro e w7 ⟨rfl, hx7⟩
     unfold sv
     try go_wp2_with fail
     refine hK9.out _ _ (after hS hx7 (Nat.le_refl _)) (fun hS => ?_)
     clear hK9 K9
     try simp only [Act.put, lsA, ls0, ls1]
     clear hx7
     refine hTk hS 13 62 rfl (v := ?_) ?_ ?_
     rotate_left
     ·intro _ _; go_simp; first | done | with_reducible rfl
     simp only [Act.put, lsA, ls0, ls1]
     refine hTk hS 14 3 rfl (v := ?_) ?_ ?_
     rotate_left
     ·intro _ _; go_simp; first | done | with_reducible rfl
     simp only [Act.put, lsA, ls0, ls1]
     refine wpAnyH_done (by kernel_rfl) ?_ _
     have HB7 := Lib.hid (after hb hS (Nat.le_refl _))
     clear hS hb cV cN
     rw [HZ.out]
     go_wp2
     go_roundw
     case rel => exact ⟨k + 1, by go_num, by omega, rfl, HB7.out⟩
     case measure => simp [intOf]; omega
    ·have HZ := Lib.hid (HNO.out (by omega))
     clear HNO HYES hxl hnl cN
     go_wp2
     go_roundw
     case rel => exact ⟨k + 1, by go_num, by omega, by rw [HZ.out], hb⟩
     case measure => simp [intOf]; omega
   ·obtain rfl : k = 5 := by omega
    have HBE := Lib.hid (HB3.out.trans (hb.mono HB3.out.size))
    clear hb
    go_wp2
    go_ret
    exact ⟨by rw [← outTo_five]; rfl, HBE.out⟩
 ·have c1 : W.cell? ⟨g, 1, none⟩ = some (.int .i64 1) := by rw [← hkd]; exact kb.cell 1
  have HE : Hid ((⟨#[98, 108, 111, 99, 107]⟩ : ByteArray) = ⟨(outTo b 0).toArray⟩) := by
   show _ = _
   rw [outTo_kind (by omega), hkd]
   rfl
  go_upto_region 4 with fail
  have kb2 := kb.alloc (.cells #[.string ⟨#[108, 101, 97, 102]⟩, .string ⟨#[98, 108, 111, 99, 107]⟩, .string ⟨#[114, 111, 119]⟩, .string ⟨#[99, 111, 108, 117, 109, 110]⟩] 9)
  have hb2 := hb0.alloc hb0.size (.cells #[.string ⟨#[108, 101, 97, 102]⟩, .string ⟨#[98, 108, 111, 99, 107]⟩, .string ⟨#[114, 111, 119]⟩, .string ⟨#[99, 111, 108, 117, 109, 110]⟩] 9)
  generalize W.alloc (.cells #[.string ⟨#[108, 101, 97, 102]⟩, .string ⟨#[98, 108, 111, 99, 107]⟩, .string ⟨#[114, 111, 119]⟩, .string ⟨#[99, 111, 108, 117, 109, 110]⟩] 9) = W2 at *
  clear kb hb0 c1 hkd
  rw [HE.out]
  have d4 : W2.cell? ⟨g, 4, none⟩ = some (.int .i64 b.pad) := kb2.cell 4
  have d5 : W2.cell? ⟨g, 5, none⟩ = some (.int .i64 b.gap) := kb2.cell 5
  have d6 : W2.cell? ⟨g, 6, none⟩ = some (.int .i64 b.grow) := kb2.cell 6
  have d7 : W2.cell? ⟨g, 7, none⟩ = some (.int .i64 b.shrink) := kb2.cell 7
  have d8 : W2.cell? ⟨g, 8, none⟩ = some (.int .i64 b.justify) := kb2.cell 8
  have hg2 := kb2.lt
  clear kb2
  go_upto_region 6 with fail
  have kV := (Keep.new W2 (.cells #[.int .i64 b.pad, .int .i64 b.gap, .int .i64 b.grow, .int .i64 b.shrink, .int .i64 b.justify] 3)).alloc (.cells #[.string ⟨#[112, 97, 100]⟩, .string ⟨#[103, 97, 112]⟩, .string ⟨#[103, 114, 111, 119]⟩, .string ⟨#[115, 104, 114, 105, 110, 107]⟩, .string ⟨#[106, 117, 115, 116, 105, 102, 121]⟩] 9)
  have kN := keep_nx W2 (.cells #[.int .i64 b.pad, .int .i64 b.gap, .int .i64 b.grow, .int .i64 b.shrink, .int .i64 b.justify] 3) (.cells #[.string ⟨#[112, 97, 100]⟩, .string ⟨#[103, 97, 112]⟩, .string ⟨#[103, 114, 111, 119]⟩, .string ⟨#[115, 104, 114, 105, 110, 107]⟩, .string ⟨#[106, 117, 115, 116, 105, 102, 121]⟩] 9)
  have hb3 := (hb2.alloc hb2.size (.cells #[.int .i64 b.pad, .int .i64 b.gap, .int .i64 b.grow, .int .i64 b.shrink, .int .i64 b.justify] 3)).alloc (Nat.le_trans hb2.size (Below.of_alloc _ _).size) (.cells #[.string ⟨#[112, 97, 100]⟩, .string ⟨#[103, 97, 112]⟩, .string ⟨#[103, 114, 111, 119]⟩, .string ⟨#[115, 104, 114, 105, 110, 107]⟩, .string ⟨#[106, 117, 115, 116, 105, 102, 121]⟩] 9)
  generalize (W2.alloc (.cells #[.int .i64 b.pad, .int .i64 b.gap, .int .i64 b.grow, .int .i64 b.shrink, .int .i64 b.justify] 3)).alloc (.cells #[.string ⟨#[112, 97, 100]⟩, .string ⟨#[103, 97, 112]⟩, .string ⟨#[103, 114, 111, 119]⟩, .string ⟨#[115, 104, 114, 105, 110, 107]⟩, .string ⟨#[106, 117, 115, 116, 105, 102, 121]⟩] 9) = W3 at *
  obtain ⟨v, hv⟩ : ∃ v, W2.heap.size = v := ⟨_, rfl⟩
  rw [hv] at kV kN ⊢
  have CV := Lib.hid (fun (k : Nat) (hk : k < 5) => (show W3.cell? ⟨v, k, none⟩ = some (.int .i64 (vlT b k)) by
   rw [kV.cell k]
   have : k = 0 ∨ k = 1 ∨ k = 2 ∨ k = 3 ∨ k = 4 := by omega
   rcases this with rfl | rfl | rfl | rfl | rfl <;> rfl))
  have CN := Lib.hid (fun (k : Nat) (hk : k < 5) => (show W3.cell? ⟨v + 1, k, none⟩ = some (.string ⟨(nmT k).toArray⟩) by
   rw [kN.cell k]
   have : k = 0 ∨ k = 1 ∨ k = 2 ∨ k = 3 ∨ k = 4 := by omega
   rcases this with rfl | rfl | rfl | rfl | rfl <;> rfl))
  have HB3 := Lib.hid hb3
  clear d4 d5 d6 d7 d8 hg2 kV kN hb2 hb3 hv
  go_wp2
  go_loopw [3, 6] (fun o i wr => ∃ k : Nat, i = .int .i64 k ∧ k ≤ 5 ∧ o = .string ⟨(outTo b k).toArray⟩ ∧ Below W3.heap.size W3 wr) (fun _ i _ => 5 - (intOf i).toNat)
  case atStart => exact ⟨0, rfl, by omega, rfl, Below.refl _ _⟩
  case round =>
   obtain ⟨k, rfl, hk, rfl, hb⟩ := hrel
   by_cases hlt : k < 5
   ·have hki : (k : Int) < 5 := by omega
    have hk0 : (0 : Int) ≤ (k : Int) := by omega
    have cV := cellB hb (CV.out k hlt)
    have cN := cellB hb (CN.out k hlt)
    have hvl := HVL.out k
    have hxl := HLN.out k
    have hnl := nmT_len k
    have HNO := Lib.hid (outTo_no (b := b) (k := k))
    have HYES := Lib.hid (outTo_yes (b := b) (k := k))
    generalize outTo b k = X at *
    generalize nmT k = N at *
    generalize vlT b k = n at *
    by_cases hn : 0 < n
    ·have HZ : Hid ((⟨X.toArray⟩ ++ ⟨#[32]⟩ ++ ⟨N.toArray⟩ ++ ⟨#[32]⟩ ++ ⟨(numT n).toArray⟩ : ByteArray) = ⟨(outTo b (k + 1)).toArray⟩) := by
      show _ = _
      rw [HYES.out (by omega), show (⟨#[32]⟩ : ByteArray) = ⟨[32].toArray⟩ from rfl]
      simp only [ba_append]
     have HD := Lib.hid (fun w => sdec_int (n := n) w (by omega))
     have hdl := num_len (n := n) (by omega)
     have l1 : ¬ 9223372036854775807 < X.length + 1 := by omega
     have l2 : ¬ 9223372036854775807 < X.length + 1 + N.length := by omega
     have l3 : ¬ 9223372036854775807 < X.length + 1 + N.length + 1 := by omega
     have l4 : ¬ 9223372036854775807 < X.length + 1 + N.length + 1 + (numT n).length := by omega
     generalize numT n = D at *
     clear HNO HYES hxl hnl hdl hvl
     go_upto_region 10 with fail
     refine wp_region_held_drew (S := fun w' => Below wr.heap.size wr w') (by kernel_rfl) (Below.refl _ _).drew (fun hS => ?_)
     change wpAnyH _ _ _ _ _ _ _ _ wr.drew
     generalize wr.drew = wd at *
     refine hTk hS 0 49 rfl (v := ?_) ?_ ?_
     rotate_left
     ·intro _ _; go_simp; first | done | with_reducible rfl
     simp only [Act.put, lsA, ls0, ls1]
     refine hTk hS 1 50 rfl (v := ?_) ?_ ?_
     rotate_left
     ·intro _ _; go_simp; first | done | with_reducible rfl
     simp only [Act.put, lsA, ls0, ls1]
     refine hTk hS 2 51 rfl (v := ?_) ?_ ?_
     rotate_left
     ·intro _ _; go_simp; first | done | with_reducible rfl
     simp only [Act.put, lsA, ls0, ls1]
     refine hTk hS 3 52 rfl (v := ?_) ?_ ?_
     rotate_left
     ·intro _ _; go_simp; first | done | with_reducible rfl
     simp only [Act.put, lsA, ls0, ls1]
     refine hTk hS 4 53 rfl (v := ?_) ?_ ?_
     rotate_left
     ·intro _ _; go_simp; first | done | with_reducible rfl
     simp only [Act.put, lsA, ls0, ls1]
     refine hTk hS 5 54 rfl (v := ?_) ?_ ?_
     rotate_left
     ·intro w9 hS9; have q := cellB hS9 cN; go_simp; first | done | with_reducible rfl
     simp only [Act.put, lsA, ls0, ls1]
     refine hTk hS 6 55 rfl (v := ?_) ?_ ?_
     rotate_left
     ·intro _ _; go_simp; first | done | with_reducible rfl
     simp only [Act.put, lsA, ls0, ls1]
     refine hTk hS 7 56 rfl (v := ?_) ?_ ?_
     rotate_left
     ·intro _ _; go_simp; first | done | with_reducible rfl
     simp only [Act.put, lsA, ls0, ls1]
     refine hTk hS 8 57 rfl (v := ?_) ?_ ?_
     rotate_left
     ·intro _ _; go_simp; first | done | with_reducible rfl
     simp only [Act.put, lsA, ls0, ls1]
     refine hTk hS 9 58 rfl (v := ?_) ?_ ?_
     rotate_left
     ·intro _ _; go_simp; first | done | with_reducible rfl
     simp only [Act.put, lsA, ls0, ls1]
     refine hTk hS 10 59 rfl (v := ?_) ?_ ?_
     rotate_left
     ·intro _ _; go_simp; first | done | with_reducible rfl
     simp only [Act.put, lsA, ls0, ls1]
     refine hTk hS 11 60 rfl (v := ?_) ?_ ?_
     rotate_left
     ·intro w9 hS9; have q := cellB hS9 cV; go_simp; first | done | with_reducible rfl
     simp only [Act.put, lsA, ls0, ls1]
     refine wpAnyH_ready (rs := [12]) (by kernel_rfl) (by simp) ?_
     refine AllReadyH.cons (o := _) rfl (fun K9 hK9 => ?_) AllReadyH.nil
     go_simp
     refine (HD.out _).mono ?_
     rintro e w7 ⟨rfl, hx7⟩
     unfold sv
     try go_wp2_with fail
     refine hK9.out _ _ (after hS hx7 (Nat.le_refl _)) (fun hS => ?_)
     clear hK9 K9
     try simp only [Act.put, lsA, ls0, ls1]
     clear hx7
     refine hTk hS 13 62 rfl (v := ?_) ?_ ?_
     rotate_left
     ·intro _ _; go_simp; first | done | with_reducible rfl
     simp only [Act.put, lsA, ls0, ls1]
     refine hTk hS 14 3 rfl (v := ?_) ?_ ?_
     rotate_left
     ·intro _ _; go_simp; first | done | with_reducible rfl
     simp only [Act.put, lsA, ls0, ls1]
     refine wpAnyH_done (by kernel_rfl) ?_ _
     have HB7 := Lib.hid (after hb hS (Nat.le_refl _))
     clear hS hb cV cN
     rw [HZ.out]
     go_wp2
     go_roundw
     case rel => exact ⟨k + 1, by go_num, by omega, rfl, HB7.out⟩
     case measure => simp [intOf]; omega
    ·have HZ := Lib.hid (HNO.out (by omega))
     clear HNO HYES hxl hnl cN
     go_wp2
     go_roundw
     case rel => exact ⟨k + 1, by go_num, by omega, by rw [HZ.out], hb⟩
     case measure => simp [intOf]; omega
   ·obtain rfl : k = 5 := by omega
    have HBE := Lib.hid (HB3.out.trans (hb.mono HB3.out.size))
    clear hb
    go_wp2
    go_ret
    exact ⟨by rw [← outTo_five]; rfl, HBE.out⟩
 ·have c1 : W.cell? ⟨g, 1, none⟩ = some (.int .i64 2) := by rw [← hkd]; exact kb.cell 1
  have HE : Hid ((⟨#[114, 111, 119]⟩ : ByteArray) = ⟨(outTo b 0).toArray⟩) := by
   show _ = _
   rw [outTo_kind (by omega), hkd]
   rfl
  go_upto_region 4 with fail
  have kb2 := kb.alloc (.cells #[.string ⟨#[108, 101, 97, 102]⟩, .string ⟨#[98, 108, 111, 99, 107]⟩, .string ⟨#[114, 111, 119]⟩, .string ⟨#[99, 111, 108, 117, 109, 110]⟩] 9)
  have hb2 := hb0.alloc hb0.size (.cells #[.string ⟨#[108, 101, 97, 102]⟩, .string ⟨#[98, 108, 111, 99, 107]⟩, .string ⟨#[114, 111, 119]⟩, .string ⟨#[99, 111, 108, 117, 109, 110]⟩] 9)
  generalize W.alloc (.cells #[.string ⟨#[108, 101, 97, 102]⟩, .string ⟨#[98, 108, 111, 99, 107]⟩, .string ⟨#[114, 111, 119]⟩, .string ⟨#[99, 111, 108, 117, 109, 110]⟩] 9) = W2 at *
  clear kb hb0 c1 hkd
  rw [HE.out]
  have d4 : W2.cell? ⟨g, 4, none⟩ = some (.int .i64 b.pad) := kb2.cell 4
  have d5 : W2.cell? ⟨g, 5, none⟩ = some (.int .i64 b.gap) := kb2.cell 5
  have d6 : W2.cell? ⟨g, 6, none⟩ = some (.int .i64 b.grow) := kb2.cell 6
  have d7 : W2.cell? ⟨g, 7, none⟩ = some (.int .i64 b.shrink) := kb2.cell 7
  have d8 : W2.cell? ⟨g, 8, none⟩ = some (.int .i64 b.justify) := kb2.cell 8
  have hg2 := kb2.lt
  clear kb2
  go_upto_region 6 with fail
  have kV := (Keep.new W2 (.cells #[.int .i64 b.pad, .int .i64 b.gap, .int .i64 b.grow, .int .i64 b.shrink, .int .i64 b.justify] 3)).alloc (.cells #[.string ⟨#[112, 97, 100]⟩, .string ⟨#[103, 97, 112]⟩, .string ⟨#[103, 114, 111, 119]⟩, .string ⟨#[115, 104, 114, 105, 110, 107]⟩, .string ⟨#[106, 117, 115, 116, 105, 102, 121]⟩] 9)
  have kN := keep_nx W2 (.cells #[.int .i64 b.pad, .int .i64 b.gap, .int .i64 b.grow, .int .i64 b.shrink, .int .i64 b.justify] 3) (.cells #[.string ⟨#[112, 97, 100]⟩, .string ⟨#[103, 97, 112]⟩, .string ⟨#[103, 114, 111, 119]⟩, .string ⟨#[115, 104, 114, 105, 110, 107]⟩, .string ⟨#[106, 117, 115, 116, 105, 102, 121]⟩] 9)
  have hb3 := (hb2.alloc hb2.size (.cells #[.int .i64 b.pad, .int .i64 b.gap, .int .i64 b.grow, .int .i64 b.shrink, .int .i64 b.justify] 3)).alloc (Nat.le_trans hb2.size (Below.of_alloc _ _).size) (.cells #[.string ⟨#[112, 97, 100]⟩, .string ⟨#[103, 97, 112]⟩, .string ⟨#[103, 114, 111, 119]⟩, .string ⟨#[115, 104, 114, 105, 110, 107]⟩, .string ⟨#[106, 117, 115, 116, 105, 102, 121]⟩] 9)
  generalize (W2.alloc (.cells #[.int .i64 b.pad, .int .i64 b.gap, .int .i64 b.grow, .int .i64 b.shrink, .int .i64 b.justify] 3)).alloc (.cells #[.string ⟨#[112, 97, 100]⟩, .string ⟨#[103, 97, 112]⟩, .string ⟨#[103, 114, 111, 119]⟩, .string ⟨#[115, 104, 114, 105, 110, 107]⟩, .string ⟨#[106, 117, 115, 116, 105, 102, 121]⟩] 9) = W3 at *
  obtain ⟨v, hv⟩ : ∃ v, W2.heap.size = v := ⟨_, rfl⟩
  rw [hv] at kV kN ⊢
  have CV := Lib.hid (fun (k : Nat) (hk : k < 5) => (show W3.cell? ⟨v, k, none⟩ = some (.int .i64 (vlT b k)) by
   rw [kV.cell k]
   have : k = 0 ∨ k = 1 ∨ k = 2 ∨ k = 3 ∨ k = 4 := by omega
   rcases this with rfl | rfl | rfl | rfl | rfl <;> rfl))
  have CN := Lib.hid (fun (k : Nat) (hk : k < 5) => (show W3.cell? ⟨v + 1, k, none⟩ = some (.string ⟨(nmT k).toArray⟩) by
   rw [kN.cell k]
   have : k = 0 ∨ k = 1 ∨ k = 2 ∨ k = 3 ∨ k = 4 := by omega
   rcases this with rfl | rfl | rfl | rfl | rfl <;> rfl))
  have HB3 := Lib.hid hb3
  clear d4 d5 d6 d7 d8 hg2 kV kN hb2 hb3 hv
  go_wp2
  go_loopw [3, 6] (fun o i wr => ∃ k : Nat, i = .int .i64 k ∧ k ≤ 5 ∧ o = .string ⟨(outTo b k).toArray⟩ ∧ Below W3.heap.size W3 wr) (fun _ i _ => 5 - (intOf i).toNat)
  case atStart => exact ⟨0, rfl, by omega, rfl, Below.refl _ _⟩
  case round =>
   obtain ⟨k, rfl, hk, rfl, hb⟩ := hrel
   by_cases hlt : k < 5
   ·have hki : (k : Int) < 5 := by omega
    have hk0 : (0 : Int) ≤ (k : Int) := by omega
    have cV := cellB hb (CV.out k hlt)
    have cN := cellB hb (CN.out k hlt)
    have hvl := HVL.out k
    have hxl := HLN.out k
    have hnl := nmT_len k
    have HNO := Lib.hid (outTo_no (b := b) (k := k))
    have HYES := Lib.hid (outTo_yes (b := b) (k := k))
    generalize outTo b k = X at *
    generalize nmT k = N at *
    generalize vlT b k = n at *
    by_cases hn : 0 < n
    ·have HZ : Hid ((⟨X.toArray⟩ ++ ⟨#[32]⟩ ++ ⟨N.toArray⟩ ++ ⟨#[32]⟩ ++ ⟨(numT n).toArray⟩ : ByteArray) = ⟨(outTo b (k + 1)).toArray⟩) := by
      show _ = _
      rw [HYES.out (by omega), show (⟨#[32]⟩ : ByteArray) = ⟨[32].toArray⟩ from rfl]
      simp only [ba_append]
     have HD := Lib.hid (fun w => sdec_int (n := n) w (by omega))
     have hdl := num_len (n := n) (by omega)
     have l1 : ¬ 9223372036854775807 < X.length + 1 := by omega
     have l2 : ¬ 9223372036854775807 < X.length + 1 + N.length := by omega
     have l3 : ¬ 9223372036854775807 < X.length + 1 + N.length + 1 := by omega
     have l4 : ¬ 9223372036854775807 < X.length + 1 + N.length + 1 + (numT n).length := by omega
     generalize numT n = D at *
     clear HNO HYES hxl hnl hdl hvl
     go_upto_region 10 with fail
     refine wp_region_held_drew (S := fun w' => Below wr.heap.size wr w') (by kernel_rfl) (Below.refl _ _).drew (fun hS => ?_)
     change wpAnyH _ _ _ _ _ _ _ _ wr.drew
     generalize wr.drew = wd at *
     refine hTk hS 0 49 rfl (v := ?_) ?_ ?_
     rotate_left
     ·intro _ _; go_simp; first | done | with_reducible rfl
     simp only [Act.put, lsA, ls0, ls1]
     refine hTk hS 1 50 rfl (v := ?_) ?_ ?_
     rotate_left
     ·intro _ _; go_simp; first | done | with_reducible rfl
     simp only [Act.put, lsA, ls0, ls1]
     refine hTk hS 2 51 rfl (v := ?_) ?_ ?_
     rotate_left
     ·intro _ _; go_simp; first | done | with_reducible rfl
     simp only [Act.put, lsA, ls0, ls1]
     refine hTk hS 3 52 rfl (v := ?_) ?_ ?_
     rotate_left
     ·intro _ _; go_simp; first | done | with_reducible rfl
     simp only [Act.put, lsA, ls0, ls1]
     refine hTk hS 4 53 rfl (v := ?_) ?_ ?_
     rotate_left
     ·intro _ _; go_simp; first | done | with_reducible rfl
     simp only [Act.put, lsA, ls0, ls1]
     refine hTk hS 5 54 rfl (v := ?_) ?_ ?_
     rotate_left
     ·intro w9 hS9; have q := cellB hS9 cN; go_simp; first | done | with_reducible rfl
     simp only [Act.put, lsA, ls0, ls1]
     refine hTk hS 6 55 rfl (v := ?_) ?_ ?_
     rotate_left
     ·intro _ _; go_simp; first | done | with_reducible rfl
     simp only [Act.put, lsA, ls0, ls1]
     refine hTk hS 7 56 rfl (v := ?_) ?_ ?_
     rotate_left
     ·intro _ _; go_simp; first | done | with_reducible rfl
     simp only [Act.put, lsA, ls0, ls1]
     refine hTk hS 8 57 rfl (v := ?_) ?_ ?_
     rotate_left
     ·intro _ _; go_simp; first | done | with_reducible rfl
     simp only [Act.put, lsA, ls0, ls1]
     refine hTk hS 9 58 rfl (v := ?_) ?_ ?_
     rotate_left
     ·intro _ _; go_simp; first | done | with_reducible rfl
     simp only [Act.put, lsA, ls0, ls1]
     refine hTk hS 10 59 rfl (v := ?_) ?_ ?_
     rotate_left
     ·intro _ _; go_simp; first | done | with_reducible rfl
     simp only [Act.put, lsA, ls0, ls1]
     refine hTk hS 11 60 rfl (v := ?_) ?_ ?_
     rotate_left
     ·intro w9 hS9; have q := cellB hS9 cV; go_simp; first | done | with_reducible rfl
     simp only [Act.put, lsA, ls0, ls1]
     refine wpAnyH_ready (rs := [12]) (by kernel_rfl) (by simp) ?_
     refine AllReadyH.cons (o := _) rfl (fun K9 hK9 => ?_) AllReadyH.nil
     go_simp
     refine (HD.out _).mono ?_
     rintro e w7 ⟨rfl, hx7⟩
     unfold sv
     try go_wp2_with fail
     refine hK9.out _ _ (after hS hx7 (Nat.le_refl _)) (fun hS => ?_)
     clear hK9 K9
     try simp only [Act.put, lsA, ls0, ls1]
     clear hx7
     refine hTk hS 13 62 rfl (v := ?_) ?_ ?_
     rotate_left
     ·intro _ _; go_simp; first | done | with_reducible rfl
     simp only [Act.put, lsA, ls0, ls1]
     refine hTk hS 14 3 rfl (v := ?_) ?_ ?_
     rotate_left
     ·intro _ _; go_simp; first | done | with_reducible rfl
     simp only [Act.put, lsA, ls0, ls1]
     refine wpAnyH_done (by kernel_rfl) ?_ _
     have HB7 := Lib.hid (after hb hS (Nat.le_refl _))
     clear hS hb cV cN
     rw [HZ.out]
     go_wp2
     go_roundw
     case rel => exact ⟨k + 1, by go_num, by omega, rfl, HB7.out⟩
     case measure => simp [intOf]; omega
    ·have HZ := Lib.hid (HNO.out (by omega))
     clear HNO HYES hxl hnl cN
     go_wp2
     go_roundw
     case rel => exact ⟨k + 1, by go_num, by omega, by rw [HZ.out], hb⟩
     case measure => simp [intOf]; omega
   ·obtain rfl : k = 5 := by omega
    have HBE := Lib.hid (HB3.out.trans (hb.mono HB3.out.size))
    clear hb
    go_wp2
    go_ret
    exact ⟨by rw [← outTo_five]; rfl, HBE.out⟩
 ·have c1 : W.cell? ⟨g, 1, none⟩ = some (.int .i64 3) := by rw [← hkd]; exact kb.cell 1
  have HE : Hid ((⟨#[99, 111, 108, 117, 109, 110]⟩ : ByteArray) = ⟨(outTo b 0).toArray⟩) := by
   show _ = _
   rw [outTo_kind (by omega), hkd]
   rfl
  go_upto_region 4 with fail
  have kb2 := kb.alloc (.cells #[.string ⟨#[108, 101, 97, 102]⟩, .string ⟨#[98, 108, 111, 99, 107]⟩, .string ⟨#[114, 111, 119]⟩, .string ⟨#[99, 111, 108, 117, 109, 110]⟩] 9)
  have hb2 := hb0.alloc hb0.size (.cells #[.string ⟨#[108, 101, 97, 102]⟩, .string ⟨#[98, 108, 111, 99, 107]⟩, .string ⟨#[114, 111, 119]⟩, .string ⟨#[99, 111, 108, 117, 109, 110]⟩] 9)
  generalize W.alloc (.cells #[.string ⟨#[108, 101, 97, 102]⟩, .string ⟨#[98, 108, 111, 99, 107]⟩, .string ⟨#[114, 111, 119]⟩, .string ⟨#[99, 111, 108, 117, 109, 110]⟩] 9) = W2 at *
  clear kb hb0 c1 hkd
  rw [HE.out]
  have d4 : W2.cell? ⟨g, 4, none⟩ = some (.int .i64 b.pad) := kb2.cell 4
  have d5 : W2.cell? ⟨g, 5, none⟩ = some (.int .i64 b.gap) := kb2.cell 5
  have d6 : W2.cell? ⟨g, 6, none⟩ = some (.int .i64 b.grow) := kb2.cell 6
  have d7 : W2.cell? ⟨g, 7, none⟩ = some (.int .i64 b.shrink) := kb2.cell 7
  have d8 : W2.cell? ⟨g, 8, none⟩ = some (.int .i64 b.justify) := kb2.cell 8
  have hg2 := kb2.lt
  clear kb2
  go_upto_region 6 with fail
  have kV := (Keep.new W2 (.cells #[.int .i64 b.pad, .int .i64 b.gap, .int .i64 b.grow, .int .i64 b.shrink, .int .i64 b.justify] 3)).alloc (.cells #[.string ⟨#[112, 97, 100]⟩, .string ⟨#[103, 97, 112]⟩, .string ⟨#[103, 114, 111, 119]⟩, .string ⟨#[115, 104, 114, 105, 110, 107]⟩, .string ⟨#[106, 117, 115, 116, 105, 102, 121]⟩] 9)
  have kN := keep_nx W2 (.cells #[.int .i64 b.pad, .int .i64 b.gap, .int .i64 b.grow, .int .i64 b.shrink, .int .i64 b.justify] 3) (.cells #[.string ⟨#[112, 97, 100]⟩, .string ⟨#[103, 97, 112]⟩, .string ⟨#[103, 114, 111, 119]⟩, .string ⟨#[115, 104, 114, 105, 110, 107]⟩, .string ⟨#[106, 117, 115, 116, 105, 102, 121]⟩] 9)
  have hb3 := (hb2.alloc hb2.size (.cells #[.int .i64 b.pad, .int .i64 b.gap, .int .i64 b.grow, .int .i64 b.shrink, .int .i64 b.justify] 3)).alloc (Nat.le_trans hb2.size (Below.of_alloc _ _).size) (.cells #[.string ⟨#[112, 97, 100]⟩, .string ⟨#[103, 97, 112]⟩, .string ⟨#[103, 114, 111, 119]⟩, .string ⟨#[115, 104, 114, 105, 110, 107]⟩, .string ⟨#[106, 117, 115, 116, 105, 102, 121]⟩] 9)
  generalize (W2.alloc (.cells #[.int .i64 b.pad, .int .i64 b.gap, .int .i64 b.grow, .int .i64 b.shrink, .int .i64 b.justify] 3)).alloc (.cells #[.string ⟨#[112, 97, 100]⟩, .string ⟨#[103, 97, 112]⟩, .string ⟨#[103, 114, 111, 119]⟩, .string ⟨#[115, 104, 114, 105, 110, 107]⟩, .string ⟨#[106, 117, 115, 116, 105, 102, 121]⟩] 9) = W3 at *
  obtain ⟨v, hv⟩ : ∃ v, W2.heap.size = v := ⟨_, rfl⟩
  rw [hv] at kV kN ⊢
  have CV := Lib.hid (fun (k : Nat) (hk : k < 5) => (show W3.cell? ⟨v, k, none⟩ = some (.int .i64 (vlT b k)) by
   rw [kV.cell k]
   have : k = 0 ∨ k = 1 ∨ k = 2 ∨ k = 3 ∨ k = 4 := by omega
   rcases this with rfl | rfl | rfl | rfl | rfl <;> rfl))
  have CN := Lib.hid (fun (k : Nat) (hk : k < 5) => (show W3.cell? ⟨v + 1, k, none⟩ = some (.string ⟨(nmT k).toArray⟩) by
   rw [kN.cell k]
   have : k = 0 ∨ k = 1 ∨ k = 2 ∨ k = 3 ∨ k = 4 := by omega
   rcases this with rfl | rfl | rfl | rfl | rfl <;> rfl))
  have HB3 := Lib.hid hb3
  clear d4 d5 d6 d7 d8 hg2 kV kN hb2 hb3 hv
  go_wp2
  go_loopw [3, 6] (fun o i wr => ∃ k : Nat, i = .int .i64 k ∧ k ≤ 5 ∧ o = .string ⟨(outTo b k).toArray⟩ ∧ Below W3.heap.size W3 wr) (fun _ i _ => 5 - (intOf i).toNat)
  case atStart => exact ⟨0, rfl, by omega, rfl, Below.refl _ _⟩
  case round =>
   obtain ⟨k, rfl, hk, rfl, hb⟩ := hrel
   by_cases hlt : k < 5
   ·have hki : (k : Int) < 5 := by omega
    have hk0 : (0 : Int) ≤ (k : Int) := by omega
    have cV := cellB hb (CV.out k hlt)
    have cN := cellB hb (CN.out k hlt)
    have hvl := HVL.out k
    have hxl := HLN.out k
    have hnl := nmT_len k
    have HNO := Lib.hid (outTo_no (b := b) (k := k))
    have HYES := Lib.hid (outTo_yes (b := b) (k := k))
    generalize outTo b k = X at *
    generalize nmT k = N at *
    generalize vlT b k = n at *
    by_cases hn : 0 < n
    ·have HZ : Hid ((⟨X.toArray⟩ ++ ⟨#[32]⟩ ++ ⟨N.toArray⟩ ++ ⟨#[32]⟩ ++ ⟨(numT n).toArray⟩ : ByteArray) = ⟨(outTo b (k + 1)).toArray⟩) := by
      show _ = _
      rw [HYES.out (by omega), show (⟨#[32]⟩ : ByteArray) = ⟨[32].toArray⟩ from rfl]
      simp only [ba_append]
     have HD := Lib.hid (fun w => sdec_int (n := n) w (by omega))
     have hdl := num_len (n := n) (by omega)
     have l1 : ¬ 9223372036854775807 < X.length + 1 := by omega
     have l2 : ¬ 9223372036854775807 < X.length + 1 + N.length := by omega
     have l3 : ¬ 9223372036854775807 < X.length + 1 + N.length + 1 := by omega
     have l4 : ¬ 9223372036854775807 < X.length + 1 + N.length + 1 + (numT n).length := by omega
     generalize numT n = D at *
     clear HNO HYES hxl hnl hdl hvl
     go_upto_region 10 with fail
     refine wp_region_held_drew (S := fun w' => Below wr.heap.size wr w') (by kernel_rfl) (Below.refl _ _).drew (fun hS => ?_)
     change wpAnyH _ _ _ _ _ _ _ _ wr.drew
     generalize wr.drew = wd at *
     refine hTk hS 0 49 rfl (v := ?_) ?_ ?_
     rotate_left
     ·intro _ _; go_simp; first | done | with_reducible rfl
     simp only [Act.put, lsA, ls0, ls1]
     refine hTk hS 1 50 rfl (v := ?_) ?_ ?_
     rotate_left
     ·intro _ _; go_simp; first | done | with_reducible rfl
     simp only [Act.put, lsA, ls0, ls1]
     refine hTk hS 2 51 rfl (v := ?_) ?_ ?_
     rotate_left
     ·intro _ _; go_simp; first | done | with_reducible rfl
     simp only [Act.put, lsA, ls0, ls1]
     refine hTk hS 3 52 rfl (v := ?_) ?_ ?_
     rotate_left
     ·intro _ _; go_simp; first | done | with_reducible rfl
     simp only [Act.put, lsA, ls0, ls1]
     refine hTk hS 4 53 rfl (v := ?_) ?_ ?_
     rotate_left
     ·intro _ _; go_simp; first | done | with_reducible rfl
     simp only [Act.put, lsA, ls0, ls1]
     refine hTk hS 5 54 rfl (v := ?_) ?_ ?_
     rotate_left
     ·intro w9 hS9; have q := cellB hS9 cN; go_simp; first | done | with_reducible rfl
     simp only [Act.put, lsA, ls0, ls1]
     refine hTk hS 6 55 rfl (v := ?_) ?_ ?_
     rotate_left
     ·intro _ _; go_simp; first | done | with_reducible rfl
     simp only [Act.put, lsA, ls0, ls1]
     refine hTk hS 7 56 rfl (v := ?_) ?_ ?_
     rotate_left
     ·intro _ _; go_simp; first | done | with_reducible rfl
     simp only [Act.put, lsA, ls0, ls1]
     refine hTk hS 8 57 rfl (v := ?_) ?_ ?_
     rotate_left
     ·intro _ _; go_simp; first | done | with_reducible rfl
     simp only [Act.put, lsA, ls0, ls1]
     refine hTk hS 9 58 rfl (v := ?_) ?_ ?_
     rotate_left
     ·intro _ _; go_simp; first | done | with_reducible rfl
     simp only [Act.put, lsA, ls0, ls1]
     refine hTk hS 10 59 rfl (v := ?_) ?_ ?_
     rotate_left
     ·intro _ _; go_simp; first | done | with_reducible rfl
     simp only [Act.put, lsA, ls0, ls1]
     refine hTk hS 11 60 rfl (v := ?_) ?_ ?_
     rotate_left
     ·intro w9 hS9; have q := cellB hS9 cV; go_simp; first | done | with_reducible rfl
     simp only [Act.put, lsA, ls0, ls1]
     refine wpAnyH_ready (rs := [12]) (by kernel_rfl) (by simp) ?_
     refine AllReadyH.cons (o := _) rfl (fun K9 hK9 => ?_) AllReadyH.nil
     go_simp
     refine (HD.out _).mono ?_
     rintro e w7 ⟨rfl, hx7⟩
     unfold sv
     try go_wp2_with fail
     refine hK9.out _ _ (after hS hx7 (Nat.le_refl _)) (fun hS => ?_)
     clear hK9 K9
     try simp only [Act.put, lsA, ls0, ls1]
     clear hx7
     refine hTk hS 13 62 rfl (v := ?_) ?_ ?_
     rotate_left
     ·intro _ _; go_simp; first | done | with_reducible rfl
     simp only [Act.put, lsA, ls0, ls1]
     refine hTk hS 14 3 rfl (v := ?_) ?_ ?_
     rotate_left
     ·intro _ _; go_simp; first | done | with_reducible rfl
     simp only [Act.put, lsA, ls0, ls1]
     refine wpAnyH_done (by kernel_rfl) ?_ _
     have HB7 := Lib.hid (after hb hS (Nat.le_refl _))
     clear hS hb cV cN
     rw [HZ.out]
     go_wp2
     go_roundw
     case rel => exact ⟨k + 1, by go_num, by omega, rfl, HB7.out⟩
     case measure => simp [intOf]; omega
    ·have HZ := Lib.hid (HNO.out (by omega))
     clear HNO HYES hxl hnl cN
     go_wp2
     go_roundw
     case rel => exact ⟨k + 1, by go_num, by omega, by rw [HZ.out], hb⟩
     case measure => simp [intOf]; omega
   ·obtain rfl : k = 5 := by omega
    have HBE := Lib.hid (HB3.out.trans (hb.mono HB3.out.size))
    clear hb
    go_wp2
    go_ret
    exact ⟨by rw [← outTo_five]; rfl, HBE.out⟩
/-! ### splitting, step by step -/
/-- the pieces that end before place i, and where the last piece begins -/
def cutTo (c : UInt8) (s : List UInt8) : Nat → List (List UInt8) × Nat
 | 0 => ([], 0)
 | i + 1 => if s[i]? = some c then ((cutTo c s i).1 ++ [(s.drop (cutTo c s i).2).take (i - (cutTo c s i).2)], i + 1) else cutTo c s i
theorem cutTo_le (c : UInt8) (s : List UInt8) : ∀ i, (cutTo c s i).2 ≤ i
 | 0 => Nat.le_refl _
 | i + 1 => by
  have := cutTo_le c s i
  unfold cutTo
  split
  ·exact Nat.le_refl _
  ·omega
theorem cutTo_length (c : UInt8) (s : List UInt8) : ∀ i, (cutTo c s i).1.length ≤ i
 | 0 => Nat.le_refl _
 | i + 1 => by
  have := cutTo_length c s i
  unfold cutTo
  split
  ·rw [List.length_append, List.length_singleton]
   omega
  ·omega
theorem cutTo_yes {c : UInt8} {s : List UInt8} {i : Nat} (h : s[i]? = some c) : cutTo c s (i + 1) = ((cutTo c s i).1 ++ [(s.drop (cutTo c s i).2).take (i - (cutTo c s i).2)], i + 1) := by
 conv => lhs; unfold cutTo
 rw [if_pos h]
theorem cutTo_no {c : UInt8} {s : List UInt8} {i : Nat} (h : s[i]? ≠ some c) : cutTo c s (i + 1) = cutTo c s i := by
 conv => lhs; unfold cutTo
 rw [if_neg h]
/-- no byte c from the last piece's beginning to place i -/
theorem cutTo_free (c : UInt8) (s : List UInt8) : ∀ i, ∀ j, (cutTo c s i).2 ≤ j → j < i → s[j]? ≠ some c
 | 0, _, _, h => by omega
 | i + 1, j, h1, h2 => by
  by_cases hc : s[i]? = some c
  ·rw [cutTo_yes hc] at h1
   dsimp only at h1
   omega
  ·rw [cutTo_no hc] at h1
   by_cases e : j = i
   ·subst e
    exact hc
   ·exact cutTo_free c s i j h1 (by omega)
/-- the pieces before place i, and the pieces of what is left, are all pieces -/
theorem cutTo_split (c : UInt8) (s : List UInt8) : ∀ i, i ≤ s.length → (cutTo c s i).1 ++ splitB c (s.drop (cutTo c s i).2) = splitB c s
 | 0, _ => by simp [cutTo]
 | i + 1, hi => by
  have ih := cutTo_split c s i (by omega)
  by_cases hc : s[i]? = some c
  ·have hle := cutTo_le c s i
   have hfree := cutTo_free c s i
   rw [cutTo_yes hc, ← ih]
   generalize (cutTo c s i).2 = f at *
   dsimp only
   rw [List.append_assoc]
   congr 1
   have e : s.drop f = (s.drop f).take (i - f) ++ c :: s.drop (i + 1) := by
    conv => lhs; rw [← List.take_append_drop (i - f) (s.drop f)]
    congr 1
    rw [List.drop_drop, show f + (i - f) = i by omega]
    obtain ⟨h1, h2⟩ := List.getElem?_eq_some_iff.1 hc
    rw [← h2]
    exact List.drop_eq_getElem_cons h1
   conv => rhs; rw [e]
   rw [splitB_app c _ _ (fun y hy => by
    obtain ⟨j, hj⟩ := List.getElem?_of_mem hy
    rintro rfl
    have hjl := (List.getElem?_eq_some_iff.1 hj).1
    rw [List.length_take] at hjl
    rw [List.getElem?_take, if_pos (by omega), List.getElem?_drop] at hj
    exact hfree (f + j) (by omega) (by omega) hj)]
   rfl
  ·rw [cutTo_no hc]
   exact ih
theorem cut_all (c : UInt8) (s : List UInt8) : (cutTo c s s.length).1 ++ [s.drop (cutTo c s s.length).2] = splitB c s := by
 have h := cutTo_split c s s.length (Nat.le_refl _)
 rw [splitB_word c (s.drop (cutTo c s s.length).2) (fun y hy => by
  obtain ⟨j, hj⟩ := List.getElem?_of_mem hy
  rintro rfl
  rw [List.getElem?_drop] at hj
  have hjl := (List.getElem?_eq_some_iff.1 hj).1
  exact cutTo_free y s s.length _ (by omega) hjl hj)] at h
 exact h
theorem ba_extract (s : List UInt8) (f k : Nat) : (⟨s.toArray⟩ : ByteArray).extract f k = ⟨((s.drop f).take (k - f)).toArray⟩ := by
 apply ByteArray.ext
 simp [List.extract]
set_option maxRecDepth 100000 in
set_option maxHeartbeats 1600000 in
theorem splitAt_any (s : List UInt8) (c : UInt8) (w : World) (hs : s.length ≤ 2000000) :
 Calls Tryz.prog 40 #[.string ⟨s.toArray⟩, .int .u8 (c.toNat : Int)] w fun e w' => ∃ v', e = .returned v' ∧ Own w' w.heap.size 1 v' (Ss (splitB c s)) ∧ Ext w w' := by
 have HA := Lib.hid (cut_all c s)
 go_enter Tryz.func40, Tryz.ntmps40
 go_wp2
 go_loopw [5, 6, 7] (fun o f i wr => ∃ k : Nat, i = .int .i64 k ∧ k ≤ s.length ∧ f = .int .i64 ((cutTo c s k).2 : Nat) ∧ Own wr w.heap.size 1 o (Ss (cutTo c s k).1) ∧ Below w.heap.size w wr) (fun _ _ i _ => s.length - (intOf i).toNat)
 case atStart => exact ⟨0, rfl, Nat.zero_le _, rfl, Own.empty _ _ _ _, Below.of_alloc _ _⟩
 case round =>
  obtain ⟨k, rfl, hk, rfl, ho, hb⟩ := hrel
  have hle := cutTo_le c s k
  have hcl := cutTo_length c s k
  have hsz := hb.size
  by_cases hlt : k < s.length
  ·have hki : (k : Int) < s.length := by omega
   obtain ⟨d, hd⟩ : ∃ d, s[k]? = some d := ⟨_, List.getElem?_eq_getElem hlt⟩
   have hz0 : k < (⟨s.toArray⟩ : ByteArray).size := by show k < s.length; omega
   have e0 := byte_at hd hz0
   by_cases hdc : d = c
   ·subst hdc
    have HY := Lib.hid (cutTo_yes hd)
    have HPC := Lib.hid (ba_extract s (cutTo d s k).2 k)
    generalize (cutTo d s k).1 = C at *
    generalize (cutTo d s k).2 = f at *
    generalize (s.drop f).take (k - f) = P at *
    have hf0 : (0 : Int) ≤ (f : Int) := by omega
    clear hd
    go_wp2_with (at_builtin; rw [HPC.out]; refine wpList_app rfl _ _ _ rfl el_str rfl (ho.alloc _) rfl (show Rd _ 1 _ (Ss [P]) from Rd.oneAt _ _ rfl) (Ss_one _) ?hl ?hb ?hK)
    case hl => rw [Ss_length, Ss_length]; simp only [List.length_cons, List.length_nil]; omega
    case hb => simp; omega
    intro v' w9 ho9 hg9 hf9
    have hb9 := below_app (hb.alloc hsz _) (ho.alloc _) hg9 (by simp; omega) (Nat.le_refl _)
    rw [← Ss_append] at ho9
    clear ho hb hg9 hf9
    go_wp2
    go_roundw
    case rel => exact ⟨k + 1, by go_num, by omega, by rw [HY.out]; go_num, by rw [HY.out]; exact ho9, hb9⟩
    case measure => simp [intOf]; omega
   ·have n0 : ((d.toNat : Int) == (c.toNat : Int)) = false := byte_ne hdc
    have HN := Lib.hid (cutTo_no (c := c) (s := s) (i := k) (by rw [hd]; intro e; exact hdc (Option.some.inj e)))
    clear hd hdc
    go_wp2
    go_roundw
    case rel => exact ⟨k + 1, by go_num, by omega, by rw [HN.out], by rw [HN.out]; exact ho, hb⟩
    case measure => simp [intOf]; omega
  ·obtain rfl : k = s.length := by omega
   have HPC := Lib.hid ((ba_extract s (cutTo c s s.length).2 s.length).trans (by rw [← List.length_drop, List.take_length]))
   generalize (cutTo c s s.length).1 = C at *
   generalize (cutTo c s s.length).2 = f at *
   generalize s.drop f = P at *
   have hf0 : (0 : Int) ≤ (f : Int) := by omega
   go_wp2_with (at_builtin; rw [HPC.out]; refine wpList_app rfl _ _ _ rfl el_str rfl (ho.alloc _) rfl (show Rd _ 1 _ (Ss [P]) from Rd.oneAt _ _ rfl) (Ss_one _) ?hl2 ?hb2 ?hK2)
   case hl2 => rw [Ss_length, Ss_length]; simp only [List.length_cons, List.length_nil]; omega
   case hb2 => simp; omega
   intro v' w9 ho9 hg9 hf9
   have hb9 := below_app (hb.alloc hsz _) (ho.alloc _) hg9 (by simp; omega) (Nat.le_refl _)
   rw [← Ss_append, HA.out] at ho9
   clear ho hb hg9 hf9
   go_wp2
   go_ret
   exact ⟨_, rfl, ho9, hb9⟩
theorem all_take {s : List UInt8} {k : Nat} {c : UInt8} (h : s[k]? = some c) (ha : (s.take k).all digB = true) (hc : digB c = true) : (s.take (k + 1)).all digB = true := by
 rw [take_snoc h, List.all_append, ha]
 simp [hc]
theorem all_no {s : List UInt8} {k : Nat} {c : UInt8} (h : s[k]? = some c) (hc : digB c = false) : prI s = -1 := by
 have : ¬ s.all digB = true := fun e => by
  rw [List.all_eq_true] at e
  have := e c (List.mem_of_getElem? h)
  rw [hc] at this
  cases this
 unfold prI
 rw [if_neg this]
 split <;> rfl
theorem inR_dig (c : UInt8) : inR (c.toNat : Int) 48 57 = digB c := by
 unfold inR digB
 rw [Bool.eq_iff_iff]
 simp only [Bool.and_eq_true, decide_eq_true_eq]
 omega
set_option maxRecDepth 100000 in
set_option maxHeartbeats 1000000 in
theorem sparseInt_any (s : List UInt8) (w : World) (hs : s.length ≤ 10000000) :
 Calls Tryz.prog 42 #[sv s] w fun e w' => e = .returned (.int .i64 (prI s)) ∧ Ext w w' := by
 unfold sv
 by_cases h0 : s.length = 0
 ·have HP : Hid (prI s = -1) := by
   show _ = _
   unfold prI
   rw [if_pos (.inl h0)]
  have hz : ((s.length : Int) == 0) = true := by simp [h0]
  have hz5 : ¬ (5 : Int) < s.length := by omega
  go_enter Tryz.func42, Tryz.ntmps42
  go_wp2
  go_ret
  exact ⟨by rw [HP.out]; rfl, Below.refl _ _⟩
 have hz : ((s.length : Int) == 0) = false := beq_eq_false_iff_ne.2 (by omega)
 by_cases h5 : 5 < s.length
 ·have HP : Hid (prI s = -1) := by
   show _ = _
   unfold prI
   rw [if_pos (.inr h5)]
  have hz5 : (5 : Int) < s.length := by omega
  go_enter Tryz.func42, Tryz.ntmps42
  go_wp2
  go_ret
  exact ⟨by rw [HP.out]; rfl, Below.refl _ _⟩
 have hz5 : ¬ (5 : Int) < s.length := by omega
 go_enter Tryz.func42, Tryz.ntmps42
 go_wp2
 go_loopw [3, 4] (fun n i wr => ∃ k : Nat, i = .int .i64 k ∧ k ≤ s.length ∧ n = .int .i64 (decVal (s.take k) : Nat) ∧ (s.take k).all digB = true ∧ Below w.heap.size w wr) (fun _ i _ => s.length - (intOf i).toNat)
 case atStart => exact ⟨0, rfl, Nat.zero_le _, rfl, rfl, Below.refl _ _⟩
 case round =>
  obtain ⟨k, rfl, hk, rfl, ha, hb⟩ := hrel
  by_cases hlt : k < s.length
  ·have hki : (k : Int) < s.length := by omega
   obtain ⟨d, hd⟩ : ∃ d, s[k]? = some d := ⟨_, List.getElem?_eq_getElem hlt⟩
   have hz0 : k < (⟨s.toArray⟩ : ByteArray).size := by show k < s.length; omega
   have e0 := byte_at hd hz0
   have hdl := d.toNat_lt
   have hcv : wrap64 (d.toNat : Int) = (d.toNat : Int) := by unfold wrap64; omega
   cases hdg : digB d with
   | true =>
    have HA := Lib.hid (all_take hd ha hdg)
    have HD : Hid (decVal (s.take (k + 1)) = 10 * decVal (s.take k) + (d.toNat - 48)) := by
     show _ = _
     rw [take_snoc hd, decVal_app]
    have hlim := decVal_5 ha (by rw [List.length_take]; omega)
    have hdg2 : 48 ≤ d.toNat ∧ d.toNat ≤ 57 := by
     unfold digB at hdg
     rw [Bool.and_eq_true, decide_eq_true_eq, decide_eq_true_eq] at hdg
     exact hdg
    have HR := Lib.hid (inR_dig d)
    rw [hdg] at HR
    generalize decVal (s.take k) = V at *
    clear hd hdg ha
    go_wp2_with (fail)
    refine (inRange_any _ _ _ _).mono ?_
    rintro e w' ⟨rfl, rfl⟩
    rw [HR.out]
    go_wp2
    go_roundw
    case rel => exact ⟨k + 1, by go_num, by omega, by rw [HD.out]; go_num, HA.out, hb⟩
    case measure => simp [intOf]; omega
   | false =>
    have HP := Lib.hid (all_no hd hdg)
    have HR := Lib.hid (inR_dig d)
    rw [hdg] at HR
    clear hd hdg ha
    go_wp2_with (fail)
    refine (inRange_any _ _ _ _).mono ?_
    rintro e w' ⟨rfl, rfl⟩
    rw [HR.out]
    go_wp2
    go_ret
    exact ⟨by rw [HP.out]; rfl, hb⟩
  ·obtain rfl : k = s.length := by omega
   have hlim := decVal_5 ha (by rw [List.length_take]; omega)
   rw [List.take_length] at ha hlim ⊢
   have HP : Hid (prI s = if Lib.decDigits (decVal s) = s then (decVal s : Int) else -1) := by
    show _ = _
    unfold prI
    rw [if_neg (by omega), if_pos ha]
   by_cases he : Lib.decDigits (decVal s) = s
   ·rw [if_pos he] at HP
    have HQ := Lib.hid he
    generalize decVal s = V at *
    clear he ha
    go_wp2_with (fail)
    refine (sdec_any V _ (by omega)).mono ?_
    rintro e w7 ⟨rfl, hx7⟩
    unfold sv
    rw [HQ.out]
    replace hb := after hb hx7 (Nat.le_refl _)
    clear hx7
    go_wp2
    go_ret
    exact ⟨by rw [HP.out]; rfl, hb⟩
   ·rw [if_neg he] at HP
    generalize decVal s = V at *
    generalize hD : Lib.decDigits V = D at *
    have hq : (D == s) = false := beq_eq_false_iff_ne.2 he
    clear ha he
    go_wp2_with (fail)
    refine (sdec_any V _ (by omega)).mono ?_
    rintro e w7 ⟨rfl, hx7⟩
    unfold sv
    rw [hD]
    replace hb := after hb hx7 (Nat.le_refl _)
    clear hx7
    go_wp2
    go_ret
    exact ⟨by rw [HP.out]; rfl, hb⟩
theorem splitB_len (c : UInt8) : ∀ s : List UInt8, ∀ x, x ∈ splitB c s → x.length ≤ s.length
 | [], x, h => by
  simp only [splitB, List.mem_singleton] at h
  subst h
  exact Nat.le_refl _
 | y :: t, x, h => by
  have ih := splitB_len c t
  unfold splitB at h
  rw [List.length_cons]
  split at h
  ·rcases List.mem_cons.1 h with h | h
   ·subst h
    exact Nat.zero_le _
   ·have := ih x h
    omega
  ·split at h
   ·rw [List.mem_singleton] at h
    subst h
    rw [List.length_singleton]
    omega
   ·rename_i hd r he
    rcases List.mem_cons.1 h with h | h
    ·subst h
     have := ih hd (by rw [he]; exact List.mem_cons_self)
     rw [List.length_cons]
     omega
    ·have := ih x (by rw [he]; exact List.mem_cons_of_mem _ h)
     omega
theorem splitB_count (c : UInt8) : ∀ s : List UInt8, (splitB c s).length ≤ s.length + 1
 | [] => Nat.le_refl _
 | y :: t => by
  have ih := splitB_count c t
  unfold splitB
  split
  ·rw [List.length_cons, List.length_cons]
   omega
  ·split
   ·simp
   ·rename_i he
    rw [he] at ih
    simp only [List.length_cons] at ih ⊢
    omega
/-- a box and whether there is one, as a value -/
def resB : Option Bx → Value
 | some b => .tuple #[b.agg, .bool true]
 | none => .tuple #[zb.agg, .bool false]
/-- the result's block, the block of the box that is read, the words -/
def PS (w : World) (r g : Nat) (vw : Value) (L : List Value) (b : Bx) (w' : World) : Prop :=
 Below w.heap.size w w' ∧ Keep r (.cells zb.arr 39) w' ∧ Keep g (.cells b.arr 39) w' ∧ Own w' (g + 1) 1 vw L
theorem PS.ext {w w1 w2 : World} {r g : Nat} {vw : Value} {L : List Value} {b : Bx} (h : PS w r g vw L b w1) (hx : Ext w1 w2) : PS w r g vw L b w2 :=
 ⟨after h.1 hx (Nat.le_refl _), keepE h.2.1 hx, keepE h.2.2.1 hx, h.2.2.2.below hx (Nat.le_refl _)⟩
theorem PS.set {w w1 : World} {r g : Nat} {vw : Value} {L : List Value} {b b' : Bx} (h : PS w r g vw L b w1) (hr : w.heap.size ≤ r) (hg : r < g) (o : Nat) (u : Value) (hb : b.arr.setIfInBounds o u = b'.arr) : PS w r g vw L b' (w1.setCell ⟨g, o, none⟩ u) := by
 refine ⟨h.1.setCell (p := ⟨g, o, none⟩) (by show w.heap.size ≤ g; omega) u, h.2.1.setOther (p := ⟨g, o, none⟩) (by show r ≠ g; omega) u, ?_, h.2.2.2.setBelow (p := ⟨g, o, none⟩) (by show g < g + 1; omega) u⟩
 have := h.2.2.1.store o u
 rw [hb] at this
 exact this
theorem PS.drew {w w1 : World} {r g : Nat} {vw : Value} {L : List Value} {b : Bx} (h : PS w r g vw L b w1) : PS w r g vw L b w1.drew := ⟨h.1.drew, h.2.1, h.2.2.1, h.2.2.2.drew⟩
theorem PS.cell {w w1 : World} {r g : Nat} {vw : Value} {L : List Value} {b : Bx} (h : PS w r g vw L b w1) (o : Nat) : w1.cell? ⟨g, o, none⟩ = b.arr[o]? := h.2.2.1.cell o
theorem PS.frozen {w w1 : World} {r g : Nat} {vw : Value} {L : List Value} {b : Bx} (h : PS w r g vw L b w1) (o : Nat) : w1.frozen? ⟨g, o, none⟩ = false := h.2.2.1.frozen o
theorem PS.word {w w1 : World} {r g q off n c : Nat} {l : List (List UInt8)} {b : Bx} (h : PS w r g (.slice (some ⟨q, off, none⟩) n c) (Ss l) b w1) {k : Nat} {x : List UInt8} (hk : l[k]? = some x) : w1.cell? ⟨q, off + k, none⟩ = some (.string ⟨x.toArray⟩) := by
 obtain ⟨a2, c2, e, _, _, hx⟩ := h.2.2.2.rd.strs
 cases e
 obtain ⟨b, off, hb, hj⟩ := hx k x hk
 cases hb
 exact hj k x hk
theorem PS.c9 {w w1 : World} {r g : Nat} {vw : Value} {L : List Value} {b : Bx} (h : PS w r g vw L b w1) : w1.cell? ⟨g, 0, none⟩ = some (.int .i64 b.parent) ∧ w1.cell? ⟨g, 1, none⟩ = some (.int .i64 b.kind) ∧ w1.cell? ⟨g, 2, none⟩ = some (.int .i64 b.w) ∧ w1.cell? ⟨g, 3, none⟩ = some (.int .i64 b.h) ∧ w1.cell? ⟨g, 4, none⟩ = some (.int .i64 b.pad) ∧ w1.cell? ⟨g, 5, none⟩ = some (.int .i64 b.gap) ∧ w1.cell? ⟨g, 6, none⟩ = some (.int .i64 b.grow) ∧ w1.cell? ⟨g, 7, none⟩ = some (.int .i64 b.shrink) ∧ w1.cell? ⟨g, 8, none⟩ = some (.int .i64 b.justify) :=
 ⟨h.cell 0, h.cell 1, h.cell 2, h.cell 3, h.cell 4, h.cell 5, h.cell 6, h.cell 7, h.cell 8⟩
theorem PS.r9 {w w1 : World} {r g : Nat} {vw : Value} {L : List Value} {b : Bx} (h : PS w r g vw L b w1) : w1.cell? ⟨r, 0, none⟩ = some (.int .i64 zb.parent) ∧ w1.cell? ⟨r, 1, none⟩ = some (.int .i64 zb.kind) ∧ w1.cell? ⟨r, 2, none⟩ = some (.int .i64 zb.w) ∧ w1.cell? ⟨r, 3, none⟩ = some (.int .i64 zb.h) ∧ w1.cell? ⟨r, 4, none⟩ = some (.int .i64 zb.pad) ∧ w1.cell? ⟨r, 5, none⟩ = some (.int .i64 zb.gap) ∧ w1.cell? ⟨r, 6, none⟩ = some (.int .i64 zb.grow) ∧ w1.cell? ⟨r, 7, none⟩ = some (.int .i64 zb.shrink) ∧ w1.cell? ⟨r, 8, none⟩ = some (.int .i64 zb.justify) :=
 have k := h.2.1
 ⟨k.cell 0, k.cell 1, k.cell 2, k.cell 3, k.cell 4, k.cell 5, k.cell 6, k.cell 7, k.cell 8⟩
theorem PS.z9 {w w1 : World} {r g : Nat} {vw : Value} {L : List Value} {b : Bx} (h : PS w r g vw L b w1) : w1.frozen? ⟨r, 0, none⟩ = false ∧ w1.frozen? ⟨r, 1, none⟩ = false ∧ w1.frozen? ⟨r, 2, none⟩ = false ∧ w1.frozen? ⟨r, 3, none⟩ = false ∧ w1.frozen? ⟨r, 4, none⟩ = false ∧ w1.frozen? ⟨r, 5, none⟩ = false ∧ w1.frozen? ⟨r, 6, none⟩ = false ∧ w1.frozen? ⟨r, 7, none⟩ = false ∧ w1.frozen? ⟨r, 8, none⟩ = false :=
 have k := h.2.1
 ⟨k.frozen 0, k.frozen 1, k.frozen 2, k.frozen 3, k.frozen 4, k.frozen 5, k.frozen 6, k.frozen 7, k.frozen 8⟩
set_option maxRecDepth 100000 in
set_option maxHeartbeats 1600000 in
theorem sparseBox_any (s : List UInt8) (w : World) (hs : s.length ≤ 2000000) :
 Calls Tryz.prog 66 #[sv s] w fun e w' => e = .returned (resB (pB s)) ∧ Ext w w' := by
 have k0 := (Keep.new w (.cells zb.arr 39)).alloc (.cells (⟨0, -1, 0, 0, 0, 0, 0, 0, 0⟩ : Bx).arr 39)
 have k1 := Keep.new (w.alloc (.cells zb.arr 39)) (.cells (⟨0, -1, 0, 0, 0, 0, 0, 0, 0⟩ : Bx).arr 39)
 have b0 := (Below.of_alloc w (.cells zb.arr 39)).alloc (Below.of_alloc w (.cells zb.arr 39)).size (.cells (⟨0, -1, 0, 0, 0, 0, 0, 0, 0⟩ : Bx).arr 39)
 rw [World.size_alloc] at k1
 unfold sv
 go_enter Tryz.func66, Tryz.ntmps66
 go_wp2_with (fail)
 change Calls _ _ _ ((w.alloc (.cells zb.arr 39)).alloc (.cells (⟨0, -1, 0, 0, 0, 0, 0, 0, 0⟩ : Bx).arr 39)) _
 generalize (w.alloc (.cells zb.arr 39)).alloc (.cells (⟨0, -1, 0, 0, 0, 0, 0, 0, 0⟩ : Bx).arr 39) = W0 at *
 obtain ⟨r, hr⟩ : ∃ r, w.heap.size = r := ⟨_, rfl⟩
 refine (splitAt_any s 32 W0 hs).mono ?_
 rintro e w1 ⟨v1, rfl, ho1, hx1⟩
 have hgw := k1.lt
 have hps : PS w r (r + 1) v1 (Ss (splitB 32 s)) ⟨0, -1, 0, 0, 0, 0, 0, 0, 0⟩ w1 := by
  rw [← hr]
  exact ⟨after b0 hx1 (Nat.le_refl _), keepE k0 hx1, keepE k1 hx1, ho1.weak (by omega)⟩
 rw [hr]
 clear k0 k1 b0 ho1 hx1 hgw
 have HSM := Lib.hid (splitB_len 32 s)
 have hcnt := splitB_count 32 s
 have hwne := splitB_ne 32 s
 have HPB : Hid (pB s = if okB (wordsB (splitB 32 s)) = true ∧ boxT (wordsB (splitB 32 s)) = s then some (wordsB (splitB 32 s)) else none) := rfl
 generalize splitB 32 s = ws at *
 obtain ⟨x, hx0, hxh⟩ : ∃ x, ws[0]? = some x ∧ ws.headD [] = x := by
  cases ws with
  | nil => exact absurd rfl hwne
  | cons x t => exact ⟨x, rfl, rfl⟩
 have hpos : 0 < ws.length := List.length_pos_iff.2 hwne
 obtain ⟨a, c, rfl, hnc, hcm, hce⟩ := hps.2.2.2.rd.strs
 obtain ⟨bW, off, rfl, _⟩ := hce 0 x hx0
 unfold maxLen at hcm
 clear hce
 have hgl := hps.2.2.1.lt
 go_upto_region 4 with fail
 have kq := Keep.new w1 (.cells #[.string ⟨#[108, 101, 97, 102]⟩, .string ⟨#[98, 108, 111, 99, 107]⟩, .string ⟨#[114, 111, 119]⟩, .string ⟨#[99, 111, 108, 117, 109, 110]⟩] 9)
 replace hps := hps.ext (Below.of_alloc w1 (.cells #[.string ⟨#[108, 101, 97, 102]⟩, .string ⟨#[98, 108, 111, 99, 107]⟩, .string ⟨#[114, 111, 119]⟩, .string ⟨#[99, 111, 108, 117, 109, 110]⟩] 9))
 generalize w1.alloc (.cells #[.string ⟨#[108, 101, 97, 102]⟩, .string ⟨#[98, 108, 111, 99, 107]⟩, .string ⟨#[114, 111, 119]⟩, .string ⟨#[99, 111, 108, 117, 109, 110]⟩] 9) = W2 at *
 generalize w1.heap.size = q at *
 have hwr : w.heap.size ≤ r := by omega
 clear hr
 go_wp2
 go_loopw [7] (fun i wr => ∃ k : Nat, i = .int .i64 k ∧ k ≤ 4 ∧ PS w r (r + 1) (.slice (some ⟨bW, off, none⟩) ws.length c) (Ss ws) ⟨0, kTo x k, 0, 0, 0, 0, 0, 0, 0⟩ wr ∧ Keep q (.cells #[.string ⟨#[108, 101, 97, 102]⟩, .string ⟨#[98, 108, 111, 99, 107]⟩, .string ⟨#[114, 111, 119]⟩, .string ⟨#[99, 111, 108, 117, 109, 110]⟩] 9) wr) (fun i _ => 4 - (intOf i).toNat)
 case atStart => exact ⟨0, rfl, by omega, hps, kq⟩
 case round =>
  obtain ⟨k, rfl, hk, hps, kq⟩ := hrel
  by_cases hlt : k < 4
  ·have hki : (k : Int) < 4 := by omega
   have hk0 : (0 : Int) ≤ (k : Int) := by omega
   have cw : wr.cell? ⟨bW, off, none⟩ = some (.string ⟨x.toArray⟩) := hps.word hx0
   have ck : wr.cell? ⟨q, k, none⟩ = some (.string ⟨(kindT (k : Int)).toArray⟩) := by
    rw [kq.cell k]
    have : k = 0 ∨ k = 1 ∨ k = 2 ∨ k = 3 := by omega
    rcases this with rfl | rfl | rfl | rfl <;> rfl
   by_cases hxk : x = kindT (k : Int)
   ·have HK : Hid (kTo x (k + 1) = (k : Int)) := by
     show _ = _
     unfold kTo
     rw [if_pos hxk]
    rw [← hxk] at ck
    have d1 := hps.cell 1
    have f1 := hps.frozen 1
    have hps2 := hps.set hwr (Nat.lt_succ_self r) 1 (.int .i64 (k : Int)) (b' := ⟨0, k, 0, 0, 0, 0, 0, 0, 0⟩) rfl
    have kq2 := kq.setOther (p := ⟨r + 1, 1, none⟩) (by show q ≠ r + 1; omega) (.int .i64 (k : Int))
    replace d1 : wr.cell? ⟨r + 1, 1, none⟩ = some (.int .i64 (kTo x k)) := d1
    clear hps kq hxk
    go_wp2
    go_region
    go_wp2
    go_roundw
    case rel => exact ⟨k + 1, by go_num, by omega, by rw [HK.out]; exact hps2.drew, kq2⟩
    case measure => simp [intOf]; omega
   ·have HK : Hid (kTo x (k + 1) = kTo x k) := by
     show _ = _
     conv => lhs; unfold kTo
     rw [if_neg hxk]
    have hq : (x == kindT (k : Int)) = false := beq_eq_false_iff_ne.2 hxk
    generalize kindT (k : Int) = kk at *
    clear hxk
    go_wp2
    go_region
    go_wp2
    go_roundw
    case rel => exact ⟨k + 1, by go_num, by omega, by rw [HK.out]; exact hps.drew, kq⟩
    case measure => simp [intOf]; omega
  ·obtain rfl : k = 4 := by omega
   clear kq hlt hk
   rw [show ((4 : Nat) : Int) = 4 from rfl]
   have hkk := kTo_le x 4
   have d1 : wr.cell? ⟨r + 1, 1, none⟩ = some (.int .i64 (kTo x 4)) := hps.cell 1
   by_cases h0 : kTo x 4 = 0
   ·rw [h0] at d1
    by_cases h2 : 2 < ws.length
    ·obtain ⟨y1, hy1⟩ : ∃ y, ws[1]? = some y := ⟨_, List.getElem?_eq_getElem (by omega)⟩
     obtain ⟨y2, hy2⟩ : ∃ y, ws[2]? = some y := ⟨_, List.getElem?_eq_getElem h2⟩
     have HF : Hid (runW (ws.drop 3) ⟨0, 0, prI y1, prI y2, 0, 0, 0, 0, 0⟩ = wordsB ws) := by
      show _ = _
      unfold wordsB restOf headW
      rw [hxh, if_pos ⟨h0, h2⟩, if_pos ⟨h0, h2⟩]
      simp only [List.getD, hy1, hy2, Option.getD_some]
     have hi2 : (2 : Int) < ws.length := by omega
     rw [h0] at hps
     have c1 := hps.word hy1
     have l1 := HSM.out y1 (List.mem_of_getElem? hy1)
     have l2 := HSM.out y2 (List.mem_of_getElem? hy2)
     go_wp2_with (fail)
     refine (sparseInt_any y1 _ (by omega)).mono ?_
     rintro e W3 ⟨rfl, hx3⟩
     replace hps := hps.ext hx3
     clear d1 hx3 c1
     have d2 : W3.cell? ⟨r + 1, 2, none⟩ = some (.int .i64 0) := hps.cell 2
     have f2 := hps.frozen 2
     replace hps := hps.set hwr (Nat.lt_succ_self r) 2 (.int .i64 (prI y1)) (b' := ⟨0, 0, prI y1, 0, 0, 0, 0, 0, 0⟩) rfl
     have c2 := hps.word hy2
     go_wp2_with (fail)
     refine (sparseInt_any y2 _ (by omega)).mono ?_
     rintro e W4 ⟨rfl, hx4⟩
     replace hps := hps.ext hx4
     clear d2 f2 hx4 c2
     have d3 : W4.cell? ⟨r + 1, 3, none⟩ = some (.int .i64 0) := hps.cell 3
     have f3 := hps.frozen 3
     replace hps := hps.set hwr (Nat.lt_succ_self r) 3 (.int .i64 (prI y2)) (b' := ⟨0, 0, prI y1, prI y2, 0, 0, 0, 0, 0⟩) rfl
     go_upto_region 14 with fail
     clear d3 f3
     generalize W4.setCell ⟨r + 1, 3, none⟩ (.int .i64 (prI y2)) = W5 at *
     go_wp2
     go_loopw [8] (fun i wr => ∃ (at_ : Nat) (b : Bx), i = .int .i64 at_ ∧ at_ ≤ ws.length + 1 ∧ PS w r (r + 1) (.slice (some ⟨bW, off, none⟩) ws.length c) (Ss ws) b wr ∧ runW (ws.drop at_) b = wordsB ws) (fun i _ => ws.length + 3 - (intOf i).toNat)
     case atStart => exact ⟨3, _, rfl, by omega, hps, HF.out⟩
     case round =>
      obtain ⟨at_, b, rfl, hat, hps, hrun⟩ := hrel
      by_cases hlt : at_ + 1 < ws.length
      ·have hki : (at_ : Int) + 1 < ws.length := by omega
       have hk0 : (0 : Int) ≤ (at_ : Int) := by omega
       obtain ⟨x, hxa⟩ : ∃ x, ws[at_]? = some x := ⟨_, List.getElem?_eq_getElem (by omega)⟩
       obtain ⟨y, hya⟩ : ∃ y, ws[at_ + 1]? = some y := ⟨_, List.getElem?_eq_getElem hlt⟩
       have HR : Hid (runW (ws.drop (at_ + 2)) (setW x (prI y) b) = wordsB ws) := by
        show _ = _
        rw [← hrun]
        obtain ⟨h1, rfl⟩ := List.getElem?_eq_some_iff.1 hxa
        obtain ⟨h2, rfl⟩ := List.getElem?_eq_some_iff.1 hya
        rw [List.drop_eq_getElem_cons h1, List.drop_eq_getElem_cons h2]
        rfl
       have cx := hps.word hxa
       have cy := hps.word hya
       have hyl := HSM.out y (List.mem_of_getElem? hya)
       clear hrun
       go_upto_region 15 with fail
       go_wp2_with (fail)
       refine (sparseInt_any y _ (by omega)).mono ?_
       rintro e W7 ⟨rfl, hx7⟩
       replace hps := hps.ext hx7
       replace cx := hps.word hxa
       clear hx7 cy hyl hxa hya
       go_upto_region 17 with fail
       clear cx
       by_cases n0 : x = padT
       ·have HW : Hid (setW x (prI y) b = { b with pad := prI y }) := by
         show _ = _
         unfold setW
         rw [if_pos n0]
        rw [HW.out] at HR
        have d : W7.cell? ⟨r + 1, 4, none⟩ = some (.int .i64 b.pad) := hps.cell 4
        have z := hps.frozen 4
        have q0 : (x == [112, 97, 100]) = true := beq_iff_eq.2 n0
        replace hps := hps.set hwr (Nat.lt_succ_self r) 4 (.int .i64 (prI y)) (b' := { b with pad := prI y }) rfl
        clear n0 HW
        go_wp2
        go_roundw
        case rel => exact ⟨at_ + 2, _, by go_num, by omega, hps, HR.out⟩
        case measure => simp [intOf]; omega
       ·have q0 : (x == [112, 97, 100]) = false := beq_eq_false_iff_ne.2 n0
        by_cases n1 : x = gapT
        ·have HW : Hid (setW x (prI y) b = { b with gap := prI y }) := by
          show _ = _
          unfold setW
          rw [if_neg n0, if_pos n1]
         rw [HW.out] at HR
         have d : W7.cell? ⟨r + 1, 5, none⟩ = some (.int .i64 b.gap) := hps.cell 5
         have z := hps.frozen 5
         have q1 : (x == [103, 97, 112]) = true := beq_iff_eq.2 n1
         replace hps := hps.set hwr (Nat.lt_succ_self r) 5 (.int .i64 (prI y)) (b' := { b with gap := prI y }) rfl
         clear n0 n1 HW
         go_wp2
         go_roundw
         case rel => exact ⟨at_ + 2, _, by go_num, by omega, hps, HR.out⟩
         case measure => simp [intOf]; omega
        ·have q1 : (x == [103, 97, 112]) = false := beq_eq_false_iff_ne.2 n1
         by_cases n2 : x = growT
         ·have HW : Hid (setW x (prI y) b = { b with grow := prI y }) := by
           show _ = _
           unfold setW
           rw [if_neg n0, if_neg n1, if_pos n2]
          rw [HW.out] at HR
          have d : W7.cell? ⟨r + 1, 6, none⟩ = some (.int .i64 b.grow) := hps.cell 6
          have z := hps.frozen 6
          have q2 : (x == [103, 114, 111, 119]) = true := beq_iff_eq.2 n2
          replace hps := hps.set hwr (Nat.lt_succ_self r) 6 (.int .i64 (prI y)) (b' := { b with grow := prI y }) rfl
          clear n0 n1 n2 HW
          go_wp2
          go_roundw
          case rel => exact ⟨at_ + 2, _, by go_num, by omega, hps, HR.out⟩
          case measure => simp [intOf]; omega
         ·have q2 : (x == [103, 114, 111, 119]) = false := beq_eq_false_iff_ne.2 n2
          by_cases n3 : x = shrinkT
          ·have HW : Hid (setW x (prI y) b = { b with shrink := prI y }) := by
            show _ = _
            unfold setW
            rw [if_neg n0, if_neg n1, if_neg n2, if_pos n3]
           rw [HW.out] at HR
           have d : W7.cell? ⟨r + 1, 7, none⟩ = some (.int .i64 b.shrink) := hps.cell 7
           have z := hps.frozen 7
           have q3 : (x == [115, 104, 114, 105, 110, 107]) = true := beq_iff_eq.2 n3
           replace hps := hps.set hwr (Nat.lt_succ_self r) 7 (.int .i64 (prI y)) (b' := { b with shrink := prI y }) rfl
           clear n0 n1 n2 n3 HW
           go_wp2
           go_roundw
           case rel => exact ⟨at_ + 2, _, by go_num, by omega, hps, HR.out⟩
           case measure => simp [intOf]; omega
          ·have q3 : (x == [115, 104, 114, 105, 110, 107]) = false := beq_eq_false_iff_ne.2 n3
           by_cases n4 : x = justifyT
           ·have HW : Hid (setW x (prI y) b = { b with justify := prI y }) := by
             show _ = _
             unfold setW
             rw [if_neg n0, if_neg n1, if_neg n2, if_neg n3, if_pos n4]
            rw [HW.out] at HR
            have d : W7.cell? ⟨r + 1, 8, none⟩ = some (.int .i64 b.justify) := hps.cell 8
            have z := hps.frozen 8
            have q4 : (x == [106, 117, 115, 116, 105, 102, 121]) = true := beq_iff_eq.2 n4
            replace hps := hps.set hwr (Nat.lt_succ_self r) 8 (.int .i64 (prI y)) (b' := { b with justify := prI y }) rfl
            clear n0 n1 n2 n3 n4 HW
            go_wp2
            go_roundw
            case rel => exact ⟨at_ + 2, _, by go_num, by omega, hps, HR.out⟩
            case measure => simp [intOf]; omega
           ·have q4 : (x == [106, 117, 115, 116, 105, 102, 121]) = false := beq_eq_false_iff_ne.2 n4
            have HW : Hid (setW x (prI y) b = b) := by
             show _ = _
             unfold setW
             rw [if_neg n0, if_neg n1, if_neg n2, if_neg n3, if_neg n4]
            rw [HW.out] at HR
            clear n0 n1 n2 n3 n4 HW
            go_wp2
            go_roundw
            case rel => exact ⟨at_ + 2, b, by go_num, by omega, hps, HR.out⟩
            case measure => simp [intOf]; omega
      ·have HE : Hid (b = wordsB ws) := by
        show _ = _
        rw [← hrun, runW_short (by rw [List.length_drop]; omega)]
       have hps2 := hps
       have hke : ¬ (at_ : Int) + 1 < ws.length := by omega
       clear hrun hps
       rw [HE.out] at hps2
       obtain ⟨d0, d1, d2, d3, d4, d5, d6, d7, d8⟩ := hps2.c9
       generalize wordsB ws = B at *
       clear HE HF
       go_wp2_with (fail)
       refine (validBox_any B _).mono ?_
       rintro e W8 ⟨he, hx8⟩
       replace hps2 := hps2.ext hx8
       clear d0 d1 d2 d3 d4 d5 d6 d7 d8 hx8
       obtain ⟨g0, g1, g2, g3, g4, g5, g6, g7, g8⟩ := hps2.r9
       obtain ⟨z0, z1, z2, z3, z4, z5, z6, z7, z8⟩ := hps2.z9
       cases hok : okB B with
       | false =>
        rw [hok] at he
        subst he
        have HP : Hid (pB s = none) := by
         show _ = _
         rw [HPB.out, if_neg (fun e => by rw [hok] at e; cases e.1)]
        have HX : Hid (Below w.heap.size w (setBx W8 r 0 zb)) := hps2.1.trans (setBx_below _ _ hwr)
        clear hps2 HPB hok
        go_wp2
        refine bodyPost_ret (v := resB (pB s)) ?_ rfl ⟨rfl, HX.out⟩
        rw [HP.out]
        simp [results, Tryz.results66, go_sem, resB, Bx.agg, zb, g0, g1, g2, g3, g4, g5, g6, g7, g8]
       | true =>
        rw [hok] at he
        subst he
        obtain ⟨d0, d1, d2, d3, d4, d5, d6, d7, d8⟩ := hps2.c9
        go_wp2_with (fail)
        refine (sboxText_any (b := B) _ hok).mono ?_
        rintro e W9 ⟨rfl, hx9⟩
        unfold sv
        replace hps2 := hps2.ext hx9
        clear d0 d1 d2 d3 d4 d5 d6 d7 d8 hx9 g0 g1 g2 g3 g4 g5 g6 g7 g8 z0 z1 z2 z3 z4 z5 z6 z7 z8
        obtain ⟨g0, g1, g2, g3, g4, g5, g6, g7, g8⟩ := hps2.r9
        obtain ⟨z0, z1, z2, z3, z4, z5, z6, z7, z8⟩ := hps2.z9
        by_cases hbt : boxT B = s
        ·have HP : Hid (pB s = some B) := by
          show _ = _
          rw [HPB.out, if_pos ⟨hok, hbt⟩]
         obtain ⟨d0, d1, d2, d3, d4, d5, d6, d7, d8⟩ := hps2.c9
         have HX : Hid (Below w.heap.size w (setBx W9 r 0 B)) := hps2.1.trans (setBx_below _ _ hwr)
         have hq : (boxT B == s) = true := beq_iff_eq.2 hbt
         generalize boxT B = T at *
         clear hps2 HPB hok hbt
         go_wp2
         refine bodyPost_ret (v := resB (pB s)) ?_ rfl ⟨rfl, HX.out⟩
         rw [HP.out]
         simp [results, Tryz.results66, go_sem, resB, Bx.agg, zb, g0, g1, g2, g3, g4, g5, g6, g7, g8]
        ·have HP : Hid (pB s = none) := by
          show _ = _
          rw [HPB.out, if_neg (fun e => hbt e.2)]
         have HX : Hid (Below w.heap.size w (setBx W9 r 0 zb)) := hps2.1.trans (setBx_below _ _ hwr)
         have hq : (boxT B == s) = false := beq_eq_false_iff_ne.2 hbt
         generalize boxT B = T at *
         clear hps2 HPB hok hbt
         go_wp2
         refine bodyPost_ret (v := resB (pB s)) ?_ rfl ⟨rfl, HX.out⟩
         rw [HP.out]
         simp [results, Tryz.results66, go_sem, resB, Bx.agg, zb, g0, g1, g2, g3, g4, g5, g6, g7, g8]
    ·have HF : Hid (runW (ws.drop 1) ⟨0, kTo x 4, 0, 0, 0, 0, 0, 0, 0⟩ = wordsB ws) := by
      show _ = _
      unfold wordsB restOf headW
      rw [hxh, if_neg (fun e => h2 e.2), if_neg (fun e => h2 e.2)]
     have hi2 : ¬ (2 : Int) < ws.length := by omega
     go_wp2
     go_upto_region 14 with fail
     clear d1
     go_wp2
     go_loopw [8] (fun i wr => ∃ (at_ : Nat) (b : Bx), i = .int .i64 at_ ∧ at_ ≤ ws.length + 1 ∧ PS w r (r + 1) (.slice (some ⟨bW, off, none⟩) ws.length c) (Ss ws) b wr ∧ runW (ws.drop at_) b = wordsB ws) (fun i _ => ws.length + 3 - (intOf i).toNat)
     case atStart => exact ⟨1, _, rfl, by omega, hps, HF.out⟩
     case round =>
      obtain ⟨at_, b, rfl, hat, hps, hrun⟩ := hrel
      by_cases hlt : at_ + 1 < ws.length
      ·have hki : (at_ : Int) + 1 < ws.length := by omega
       have hk0 : (0 : Int) ≤ (at_ : Int) := by omega
       obtain ⟨x, hxa⟩ : ∃ x, ws[at_]? = some x := ⟨_, List.getElem?_eq_getElem (by omega)⟩
       obtain ⟨y, hya⟩ : ∃ y, ws[at_ + 1]? = some y := ⟨_, List.getElem?_eq_getElem hlt⟩
       have HR : Hid (runW (ws.drop (at_ + 2)) (setW x (prI y) b) = wordsB ws) := by
        show _ = _
        rw [← hrun]
        obtain ⟨h1, rfl⟩ := List.getElem?_eq_some_iff.1 hxa
        obtain ⟨h2, rfl⟩ := List.getElem?_eq_some_iff.1 hya
        rw [List.drop_eq_getElem_cons h1, List.drop_eq_getElem_cons h2]
        rfl
       have cx := hps.word hxa
       have cy := hps.word hya
       have hyl := HSM.out y (List.mem_of_getElem? hya)
       clear hrun
       go_upto_region 15 with fail
       go_wp2_with (fail)
       refine (sparseInt_any y _ (by omega)).mono ?_
       rintro e W7 ⟨rfl, hx7⟩
       replace hps := hps.ext hx7
       replace cx := hps.word hxa
       clear hx7 cy hyl hxa hya
       go_upto_region 17 with fail
       clear cx
       by_cases n0 : x = padT
       ·have HW : Hid (setW x (prI y) b = { b with pad := prI y }) := by
         show _ = _
         unfold setW
         rw [if_pos n0]
        rw [HW.out] at HR
        have d : W7.cell? ⟨r + 1, 4, none⟩ = some (.int .i64 b.pad) := hps.cell 4
        have z := hps.frozen 4
        have q0 : (x == [112, 97, 100]) = true := beq_iff_eq.2 n0
        replace hps := hps.set hwr (Nat.lt_succ_self r) 4 (.int .i64 (prI y)) (b' := { b with pad := prI y }) rfl
        clear n0 HW
        go_wp2
        go_roundw
        case rel => exact ⟨at_ + 2, _, by go_num, by omega, hps, HR.out⟩
        case measure => simp [intOf]; omega
       ·have q0 : (x == [112, 97, 100]) = false := beq_eq_false_iff_ne.2 n0
        by_cases n1 : x = gapT
        ·have HW : Hid (setW x (prI y) b = { b with gap := prI y }) := by
          show _ = _
          unfold setW
          rw [if_neg n0, if_pos n1]
         rw [HW.out] at HR
         have d : W7.cell? ⟨r + 1, 5, none⟩ = some (.int .i64 b.gap) := hps.cell 5
         have z := hps.frozen 5
         have q1 : (x == [103, 97, 112]) = true := beq_iff_eq.2 n1
         replace hps := hps.set hwr (Nat.lt_succ_self r) 5 (.int .i64 (prI y)) (b' := { b with gap := prI y }) rfl
         clear n0 n1 HW
         go_wp2
         go_roundw
         case rel => exact ⟨at_ + 2, _, by go_num, by omega, hps, HR.out⟩
         case measure => simp [intOf]; omega
        ·have q1 : (x == [103, 97, 112]) = false := beq_eq_false_iff_ne.2 n1
         by_cases n2 : x = growT
         ·have HW : Hid (setW x (prI y) b = { b with grow := prI y }) := by
           show _ = _
           unfold setW
           rw [if_neg n0, if_neg n1, if_pos n2]
          rw [HW.out] at HR
          have d : W7.cell? ⟨r + 1, 6, none⟩ = some (.int .i64 b.grow) := hps.cell 6
          have z := hps.frozen 6
          have q2 : (x == [103, 114, 111, 119]) = true := beq_iff_eq.2 n2
          replace hps := hps.set hwr (Nat.lt_succ_self r) 6 (.int .i64 (prI y)) (b' := { b with grow := prI y }) rfl
          clear n0 n1 n2 HW
          go_wp2
          go_roundw
          case rel => exact ⟨at_ + 2, _, by go_num, by omega, hps, HR.out⟩
          case measure => simp [intOf]; omega
         ·have q2 : (x == [103, 114, 111, 119]) = false := beq_eq_false_iff_ne.2 n2
          by_cases n3 : x = shrinkT
          ·have HW : Hid (setW x (prI y) b = { b with shrink := prI y }) := by
            show _ = _
            unfold setW
            rw [if_neg n0, if_neg n1, if_neg n2, if_pos n3]
           rw [HW.out] at HR
           have d : W7.cell? ⟨r + 1, 7, none⟩ = some (.int .i64 b.shrink) := hps.cell 7
           have z := hps.frozen 7
           have q3 : (x == [115, 104, 114, 105, 110, 107]) = true := beq_iff_eq.2 n3
           replace hps := hps.set hwr (Nat.lt_succ_self r) 7 (.int .i64 (prI y)) (b' := { b with shrink := prI y }) rfl
           clear n0 n1 n2 n3 HW
           go_wp2
           go_roundw
           case rel => exact ⟨at_ + 2, _, by go_num, by omega, hps, HR.out⟩
           case measure => simp [intOf]; omega
          ·have q3 : (x == [115, 104, 114, 105, 110, 107]) = false := beq_eq_false_iff_ne.2 n3
           by_cases n4 : x = justifyT
           ·have HW : Hid (setW x (prI y) b = { b with justify := prI y }) := by
             show _ = _
             unfold setW
             rw [if_neg n0, if_neg n1, if_neg n2, if_neg n3, if_pos n4]
            rw [HW.out] at HR
            have d : W7.cell? ⟨r + 1, 8, none⟩ = some (.int .i64 b.justify) := hps.cell 8
            have z := hps.frozen 8
            have q4 : (x == [106, 117, 115, 116, 105, 102, 121]) = true := beq_iff_eq.2 n4
            replace hps := hps.set hwr (Nat.lt_succ_self r) 8 (.int .i64 (prI y)) (b' := { b with justify := prI y }) rfl
            clear n0 n1 n2 n3 n4 HW
            go_wp2
            go_roundw
            case rel => exact ⟨at_ + 2, _, by go_num, by omega, hps, HR.out⟩
            case measure => simp [intOf]; omega
           ·have q4 : (x == [106, 117, 115, 116, 105, 102, 121]) = false := beq_eq_false_iff_ne.2 n4
            have HW : Hid (setW x (prI y) b = b) := by
             show _ = _
             unfold setW
             rw [if_neg n0, if_neg n1, if_neg n2, if_neg n3, if_neg n4]
            rw [HW.out] at HR
            clear n0 n1 n2 n3 n4 HW
            go_wp2
            go_roundw
            case rel => exact ⟨at_ + 2, b, by go_num, by omega, hps, HR.out⟩
            case measure => simp [intOf]; omega
      ·have HE : Hid (b = wordsB ws) := by
        show _ = _
        rw [← hrun, runW_short (by rw [List.length_drop]; omega)]
       have hps2 := hps
       have hke : ¬ (at_ : Int) + 1 < ws.length := by omega
       clear hrun hps
       rw [HE.out] at hps2
       obtain ⟨d0, d1, d2, d3, d4, d5, d6, d7, d8⟩ := hps2.c9
       generalize wordsB ws = B at *
       clear HE HF
       go_wp2_with (fail)
       refine (validBox_any B _).mono ?_
       rintro e W8 ⟨he, hx8⟩
       replace hps2 := hps2.ext hx8
       clear d0 d1 d2 d3 d4 d5 d6 d7 d8 hx8
       obtain ⟨g0, g1, g2, g3, g4, g5, g6, g7, g8⟩ := hps2.r9
       obtain ⟨z0, z1, z2, z3, z4, z5, z6, z7, z8⟩ := hps2.z9
       cases hok : okB B with
       | false =>
        rw [hok] at he
        subst he
        have HP : Hid (pB s = none) := by
         show _ = _
         rw [HPB.out, if_neg (fun e => by rw [hok] at e; cases e.1)]
        have HX : Hid (Below w.heap.size w (setBx W8 r 0 zb)) := hps2.1.trans (setBx_below _ _ hwr)
        clear hps2 HPB hok
        go_wp2
        refine bodyPost_ret (v := resB (pB s)) ?_ rfl ⟨rfl, HX.out⟩
        rw [HP.out]
        simp [results, Tryz.results66, go_sem, resB, Bx.agg, zb, g0, g1, g2, g3, g4, g5, g6, g7, g8]
       | true =>
        rw [hok] at he
        subst he
        obtain ⟨d0, d1, d2, d3, d4, d5, d6, d7, d8⟩ := hps2.c9
        go_wp2_with (fail)
        refine (sboxText_any (b := B) _ hok).mono ?_
        rintro e W9 ⟨rfl, hx9⟩
        unfold sv
        replace hps2 := hps2.ext hx9
        clear d0 d1 d2 d3 d4 d5 d6 d7 d8 hx9 g0 g1 g2 g3 g4 g5 g6 g7 g8 z0 z1 z2 z3 z4 z5 z6 z7 z8
        obtain ⟨g0, g1, g2, g3, g4, g5, g6, g7, g8⟩ := hps2.r9
        obtain ⟨z0, z1, z2, z3, z4, z5, z6, z7, z8⟩ := hps2.z9
        by_cases hbt : boxT B = s
        ·have HP : Hid (pB s = some B) := by
          show _ = _
          rw [HPB.out, if_pos ⟨hok, hbt⟩]
         obtain ⟨d0, d1, d2, d3, d4, d5, d6, d7, d8⟩ := hps2.c9
         have HX : Hid (Below w.heap.size w (setBx W9 r 0 B)) := hps2.1.trans (setBx_below _ _ hwr)
         have hq : (boxT B == s) = true := beq_iff_eq.2 hbt
         generalize boxT B = T at *
         clear hps2 HPB hok hbt
         go_wp2
         refine bodyPost_ret (v := resB (pB s)) ?_ rfl ⟨rfl, HX.out⟩
         rw [HP.out]
         simp [results, Tryz.results66, go_sem, resB, Bx.agg, zb, g0, g1, g2, g3, g4, g5, g6, g7, g8]
        ·have HP : Hid (pB s = none) := by
          show _ = _
          rw [HPB.out, if_neg (fun e => hbt e.2)]
         have HX : Hid (Below w.heap.size w (setBx W9 r 0 zb)) := hps2.1.trans (setBx_below _ _ hwr)
         have hq : (boxT B == s) = false := beq_eq_false_iff_ne.2 hbt
         generalize boxT B = T at *
         clear hps2 HPB hok hbt
         go_wp2
         refine bodyPost_ret (v := resB (pB s)) ?_ rfl ⟨rfl, HX.out⟩
         rw [HP.out]
         simp [results, Tryz.results66, go_sem, resB, Bx.agg, zb, g0, g1, g2, g3, g4, g5, g6, g7, g8]
   ·have hq : (kTo x 4 == 0) = false := beq_eq_false_iff_ne.2 h0
    have HF : Hid (runW (ws.drop 1) ⟨0, kTo x 4, 0, 0, 0, 0, 0, 0, 0⟩ = wordsB ws) := by
     show _ = _
     unfold wordsB restOf headW
     rw [hxh, if_neg (fun e => h0 e.1), if_neg (fun e => h0 e.1)]
    go_wp2
    go_upto_region 14 with fail
    clear d1
    go_wp2
    go_loopw [8] (fun i wr => ∃ (at_ : Nat) (b : Bx), i = .int .i64 at_ ∧ at_ ≤ ws.length + 1 ∧ PS w r (r + 1) (.slice (some ⟨bW, off, none⟩) ws.length c) (Ss ws) b wr ∧ runW (ws.drop at_) b = wordsB ws) (fun i _ => ws.length + 3 - (intOf i).toNat)
    case atStart => exact ⟨1, _, rfl, by omega, hps, HF.out⟩
    case round =>
     obtain ⟨at_, b, rfl, hat, hps, hrun⟩ := hrel
     by_cases hlt : at_ + 1 < ws.length
     ·have hki : (at_ : Int) + 1 < ws.length := by omega
      have hk0 : (0 : Int) ≤ (at_ : Int) := by omega
      obtain ⟨x, hxa⟩ : ∃ x, ws[at_]? = some x := ⟨_, List.getElem?_eq_getElem (by omega)⟩
      obtain ⟨y, hya⟩ : ∃ y, ws[at_ + 1]? = some y := ⟨_, List.getElem?_eq_getElem hlt⟩
      have HR : Hid (runW (ws.drop (at_ + 2)) (setW x (prI y) b) = wordsB ws) := by
       show _ = _
       rw [← hrun]
       obtain ⟨h1, rfl⟩ := List.getElem?_eq_some_iff.1 hxa
       obtain ⟨h2, rfl⟩ := List.getElem?_eq_some_iff.1 hya
       rw [List.drop_eq_getElem_cons h1, List.drop_eq_getElem_cons h2]
       rfl
      have cx := hps.word hxa
      have cy := hps.word hya
      have hyl := HSM.out y (List.mem_of_getElem? hya)
      clear hrun
      go_upto_region 15 with fail
      go_wp2_with (fail)
      refine (sparseInt_any y _ (by omega)).mono ?_
      rintro e W7 ⟨rfl, hx7⟩
      replace hps := hps.ext hx7
      replace cx := hps.word hxa
      clear hx7 cy hyl hxa hya
      go_upto_region 17 with fail
      clear cx
      by_cases n0 : x = padT
      ·have HW : Hid (setW x (prI y) b = { b with pad := prI y }) := by
        show _ = _
        unfold setW
        rw [if_pos n0]
       rw [HW.out] at HR
       have d : W7.cell? ⟨r + 1, 4, none⟩ = some (.int .i64 b.pad) := hps.cell 4
       have z := hps.frozen 4
       have q0 : (x == [112, 97, 100]) = true := beq_iff_eq.2 n0
       replace hps := hps.set hwr (Nat.lt_succ_self r) 4 (.int .i64 (prI y)) (b' := { b with pad := prI y }) rfl
       clear n0 HW
       go_wp2
       go_roundw
       case rel => exact ⟨at_ + 2, _, by go_num, by omega, hps, HR.out⟩
       case measure => simp [intOf]; omega
      ·have q0 : (x == [112, 97, 100]) = false := beq_eq_false_iff_ne.2 n0
       by_cases n1 : x = gapT
       ·have HW : Hid (setW x (prI y) b = { b with gap := prI y }) := by
         show _ = _
         unfold setW
         rw [if_neg n0, if_pos n1]
        rw [HW.out] at HR
        have d : W7.cell? ⟨r + 1, 5, none⟩ = some (.int .i64 b.gap) := hps.cell 5
        have z := hps.frozen 5
        have q1 : (x == [103, 97, 112]) = true := beq_iff_eq.2 n1
        replace hps := hps.set hwr (Nat.lt_succ_self r) 5 (.int .i64 (prI y)) (b' := { b with gap := prI y }) rfl
        clear n0 n1 HW
        go_wp2
        go_roundw
        case rel => exact ⟨at_ + 2, _, by go_num, by omega, hps, HR.out⟩
        case measure => simp [intOf]; omega
       ·have q1 : (x == [103, 97, 112]) = false := beq_eq_false_iff_ne.2 n1
        by_cases n2 : x = growT
        ·have HW : Hid (setW x (prI y) b = { b with grow := prI y }) := by
          show _ = _
          unfold setW
          rw [if_neg n0, if_neg n1, if_pos n2]
         rw [HW.out] at HR
         have d : W7.cell? ⟨r + 1, 6, none⟩ = some (.int .i64 b.grow) := hps.cell 6
         have z := hps.frozen 6
         have q2 : (x == [103, 114, 111, 119]) = true := beq_iff_eq.2 n2
         replace hps := hps.set hwr (Nat.lt_succ_self r) 6 (.int .i64 (prI y)) (b' := { b with grow := prI y }) rfl
         clear n0 n1 n2 HW
         go_wp2
         go_roundw
         case rel => exact ⟨at_ + 2, _, by go_num, by omega, hps, HR.out⟩
         case measure => simp [intOf]; omega
        ·have q2 : (x == [103, 114, 111, 119]) = false := beq_eq_false_iff_ne.2 n2
         by_cases n3 : x = shrinkT
         ·have HW : Hid (setW x (prI y) b = { b with shrink := prI y }) := by
           show _ = _
           unfold setW
           rw [if_neg n0, if_neg n1, if_neg n2, if_pos n3]
          rw [HW.out] at HR
          have d : W7.cell? ⟨r + 1, 7, none⟩ = some (.int .i64 b.shrink) := hps.cell 7
          have z := hps.frozen 7
          have q3 : (x == [115, 104, 114, 105, 110, 107]) = true := beq_iff_eq.2 n3
          replace hps := hps.set hwr (Nat.lt_succ_self r) 7 (.int .i64 (prI y)) (b' := { b with shrink := prI y }) rfl
          clear n0 n1 n2 n3 HW
          go_wp2
          go_roundw
          case rel => exact ⟨at_ + 2, _, by go_num, by omega, hps, HR.out⟩
          case measure => simp [intOf]; omega
         ·have q3 : (x == [115, 104, 114, 105, 110, 107]) = false := beq_eq_false_iff_ne.2 n3
          by_cases n4 : x = justifyT
          ·have HW : Hid (setW x (prI y) b = { b with justify := prI y }) := by
            show _ = _
            unfold setW
            rw [if_neg n0, if_neg n1, if_neg n2, if_neg n3, if_pos n4]
           rw [HW.out] at HR
           have d : W7.cell? ⟨r + 1, 8, none⟩ = some (.int .i64 b.justify) := hps.cell 8
           have z := hps.frozen 8
           have q4 : (x == [106, 117, 115, 116, 105, 102, 121]) = true := beq_iff_eq.2 n4
           replace hps := hps.set hwr (Nat.lt_succ_self r) 8 (.int .i64 (prI y)) (b' := { b with justify := prI y }) rfl
           clear n0 n1 n2 n3 n4 HW
           go_wp2
           go_roundw
           case rel => exact ⟨at_ + 2, _, by go_num, by omega, hps, HR.out⟩
           case measure => simp [intOf]; omega
          ·have q4 : (x == [106, 117, 115, 116, 105, 102, 121]) = false := beq_eq_false_iff_ne.2 n4
           have HW : Hid (setW x (prI y) b = b) := by
            show _ = _
            unfold setW
            rw [if_neg n0, if_neg n1, if_neg n2, if_neg n3, if_neg n4]
           rw [HW.out] at HR
           clear n0 n1 n2 n3 n4 HW
           go_wp2
           go_roundw
           case rel => exact ⟨at_ + 2, b, by go_num, by omega, hps, HR.out⟩
           case measure => simp [intOf]; omega
     ·have HE : Hid (b = wordsB ws) := by
       show _ = _
       rw [← hrun, runW_short (by rw [List.length_drop]; omega)]
      have hps2 := hps
      have hke : ¬ (at_ : Int) + 1 < ws.length := by omega
      clear hrun hps
      rw [HE.out] at hps2
      obtain ⟨d0, d1, d2, d3, d4, d5, d6, d7, d8⟩ := hps2.c9
      generalize wordsB ws = B at *
      clear HE HF
      go_wp2_with (fail)
      refine (validBox_any B _).mono ?_
      rintro e W8 ⟨he, hx8⟩
      replace hps2 := hps2.ext hx8
      clear d0 d1 d2 d3 d4 d5 d6 d7 d8 hx8
      obtain ⟨g0, g1, g2, g3, g4, g5, g6, g7, g8⟩ := hps2.r9
      obtain ⟨z0, z1, z2, z3, z4, z5, z6, z7, z8⟩ := hps2.z9
      cases hok : okB B with
      | false =>
       rw [hok] at he
       subst he
       have HP : Hid (pB s = none) := by
        show _ = _
        rw [HPB.out, if_neg (fun e => by rw [hok] at e; cases e.1)]
       have HX : Hid (Below w.heap.size w (setBx W8 r 0 zb)) := hps2.1.trans (setBx_below _ _ hwr)
       clear hps2 HPB hok
       go_wp2
       refine bodyPost_ret (v := resB (pB s)) ?_ rfl ⟨rfl, HX.out⟩
       rw [HP.out]
       simp [results, Tryz.results66, go_sem, resB, Bx.agg, zb, g0, g1, g2, g3, g4, g5, g6, g7, g8]
      | true =>
       rw [hok] at he
       subst he
       obtain ⟨d0, d1, d2, d3, d4, d5, d6, d7, d8⟩ := hps2.c9
       go_wp2_with (fail)
       refine (sboxText_any (b := B) _ hok).mono ?_
       rintro e W9 ⟨rfl, hx9⟩
       unfold sv
       replace hps2 := hps2.ext hx9
       clear d0 d1 d2 d3 d4 d5 d6 d7 d8 hx9 g0 g1 g2 g3 g4 g5 g6 g7 g8 z0 z1 z2 z3 z4 z5 z6 z7 z8
       obtain ⟨g0, g1, g2, g3, g4, g5, g6, g7, g8⟩ := hps2.r9
       obtain ⟨z0, z1, z2, z3, z4, z5, z6, z7, z8⟩ := hps2.z9
       by_cases hbt : boxT B = s
       ·have HP : Hid (pB s = some B) := by
         show _ = _
         rw [HPB.out, if_pos ⟨hok, hbt⟩]
        obtain ⟨d0, d1, d2, d3, d4, d5, d6, d7, d8⟩ := hps2.c9
        have HX : Hid (Below w.heap.size w (setBx W9 r 0 B)) := hps2.1.trans (setBx_below _ _ hwr)
        have hq : (boxT B == s) = true := beq_iff_eq.2 hbt
        generalize boxT B = T at *
        clear hps2 HPB hok hbt
        go_wp2
        refine bodyPost_ret (v := resB (pB s)) ?_ rfl ⟨rfl, HX.out⟩
        rw [HP.out]
        simp [results, Tryz.results66, go_sem, resB, Bx.agg, zb, g0, g1, g2, g3, g4, g5, g6, g7, g8]
       ·have HP : Hid (pB s = none) := by
         show _ = _
         rw [HPB.out, if_neg (fun e => hbt e.2)]
        have HX : Hid (Below w.heap.size w (setBx W9 r 0 zb)) := hps2.1.trans (setBx_below _ _ hwr)
        have hq : (boxT B == s) = false := beq_eq_false_iff_ne.2 hbt
        generalize boxT B = T at *
        clear hps2 HPB hok hbt
        go_wp2
        refine bodyPost_ret (v := resB (pB s)) ?_ rfl ⟨rfl, HX.out⟩
        rw [HP.out]
        simp [results, Tryz.results66, go_sem, resB, Bx.agg, zb, g0, g1, g2, g3, g4, g5, g6, g7, g8]
end Go.Proofs.YthkkgleoikpfgaaGreatDoor
