/-
  Parts of the proof: Off.
-/
import Derived.IntWalk
import Derived.Deep.CutBlock
import Derived.Deep.DeepCutAuto
import Derived.Test.YthkkgleoikpfgaaGreatDoorKAx
import Derived.Test.YthkkgleoikpfgaaGreatDoorKAk
namespace Go.Proofs.YthkkgleoikpfgaaGreatDoor
open Go Go.RowKit
set_option maxRecDepth 100000 in
set_option maxHeartbeats 2000000 in
theorem offsets_any {v : Value} {l : List Int} {space gap j : Int} (w : World) (hv : Rd w 1 v (Is l)) (hn1 : 1 ≤ l.length) (hn8 : l.length ≤ 8) (hm : ∀ x, x ∈ l → 0 ≤ x ∧ x ≤ 10000) (hs : 0 ≤ space ∧ space ≤ 200000) (hg : 0 ≤ gap ∧ gap ≤ 50) (hj : 0 ≤ j ∧ j ≤ 3) :
 Calls Tryz.prog 137 #[v, .int .i64 space, .int .i64 gap, .int .i64 j] w fun e w' => ∃ v', e = .returned v' ∧ Own w' w.heap.size 1 v' (Is (offL l space gap j)) ∧ Ext w w' := by
 have hrd := hv
 obtain ⟨a, c, rfl, hn, hc, _⟩ := hv.ints
 clear hv
 unfold maxLen at hc
 obtain ⟨m, hlm⟩ : ∃ m, l.length = m + 1 := ⟨l.length - 1, by omega⟩
 have hsum0 := isum_pos l fun x hx => (hm x hx).1
 have hsum1 := isum_le l 10000 fun x hx => (hm x hx).2
 have hgm0 : 0 ≤ gap * (m : Int) := Int.mul_nonneg hg.1 (by omega)
 have hgm1 : gap * (m : Int) ≤ 50 * 8 := Int.mul_le_mul hg.2 (by omega) (by omega) (by omega)
 have hmk := fun W => mk_run (P := Tryz.prog) el_int m m (Nat.le_refl _) (by omega) W
 have hmk0 := fun W => mk_run0 (P := Tryz.prog) el_int (m + 1) (by omega) W
 simp only [Int.natCast_add, Int.natCast_one] at hmk0
 have hL : lftI l space gap = max 0 (space - isum l - gap * m) := by
  unfold lftI
  rw [hlm]
  congr 3
  omega
 have HT := Lib.hid (fun w' (h : Below w.heap.size w w') => total_any (l := l) w' (hrd.below h (Nat.le_refl _)) (fun x hx => by have := hm x hx; omega) (by omega))
 have hm7 : m ≤ 7 := by omega
 have hmw : IntKind.i64.wrap (m : Int) = (m : Int) := by rw [IntKind.wrap_i64]; omega
 have HLM := Lib.hid hlm
 replace hsum1 : isum l ≤ 80000 := by omega
 rw [hlm] at hrd hn HT ⊢
 clear hn1 hn8 hlm
 go_enter Tryz.func137, Tryz.ntmps137
 go_upto_region 2 with fail
 go_cut [10] (fun s wx => s = .int .i64 (lftI l space gap) ∧ wx = w)
 case first =>
  by_cases hp : 0 ≤ space - isum l - gap * m
  ·have hL' := Lib.hid (hL.trans (Int.max_eq_right hp))
   clear hL
   go_wp2_with (fail)
   refine (HT.out _ (Below.refl _ _)).mono ?_
   rintro e w1 ⟨rfl, rfl⟩
   go_wp2
   go_meet
   case rel => exact ⟨by rw [hL'.out], rfl⟩
  ·have hL' := Lib.hid (hL.trans (Int.max_eq_left (by omega)))
   clear hL
   go_wp2_with (fail)
   refine (HT.out _ (Below.refl _ _)).mono ?_
   rintro e w1 ⟨rfl, rfl⟩
   go_wp2
   go_meet
   case rel => exact ⟨by rw [hL'.out], rfl⟩
 case rest =>
 obtain ⟨rfl, rfl⟩ := hcut
 rename World => w
 have hl0 := lft_pos l space gap
 have hl1 : lftI l space gap ≤ 200000 := by rw [hL]; omega
 clear hL
 have HS := Lib.hid (fun (W : World) v (h : Rd W 1 v (Is (List.replicate m 1))) => share_any W h (s := lftI l space gap) ⟨hl0, by omega⟩ (fun x hx => by have := List.eq_of_mem_replicate hx; omega) (by simp; omega))
 have HB := Lib.hid (fun (w1 w3 w4 : World) (h1 : Below w.heap.size w w1) (hx3 : Ext w1 w3) (hx4 : Ext w3 w4) => h1.trans ((hx3.mono h1.size).trans (hx4.mono (Nat.le_trans h1.size hx3.size))))
 have hoM := Own.madeInts1 w w.heap.size m m 3 (Nat.le_refl _) (Nat.le_refl _) (by omega)
 have hbM := Below.of_alloc w (.cells (madeCells #[Value.int .i64 0] m) 3)
 go_upto_block 0 with fail
 go_cut [11, 12] (fun at_ mo wx => at_ = .int .i64 (at0 l space gap j) ∧ Rd wx 1 mo (Is (moreL l space gap j)) ∧ Ext w wx)
 case first =>
  generalize w.alloc (.cells (madeCells #[Value.int .i64 0] m) 3) = wM at *
  by_cases h3 : j = 3 ∧ 0 < m
  ·obtain ⟨rfl, h0⟩ := h3
   have E0 : Hid (at0 l space gap 3 = 0) := by show _ = _; simp [at0]
   have EM : Hid (moreL l space gap 3 = shareL (lftI l space gap) (List.replicate m 1)) := by show _ = _; unfold moreL; rw [HLM.out, if_pos (by omega)]; rfl
   have h0i : (0 : Int) < m := by omega
   go_wp2_with (fail)
   refine (Repeat_any m (by omega) hm7 _ (Rd.one _ _ _)).mono ?_
   rintro e w3 ⟨v3, rfl, ho3, hx3⟩
   go_wp2_with (fail)
   refine (HS.out _ _ ho3.rd).mono ?_
   rintro e w4 ⟨v4, rfl, ho4, hx4⟩
   have hx5 := HB.out _ _ _ (hbM.alloc hbM.size _) hx3 hx4
   go_wp2
   go_meet
   case rel => exact ⟨by rw [E0.out], by rw [EM.out]; exact ho4.rd, hx5⟩
  ·have EM : Hid (moreL l space gap j = List.replicate m 0) := by show _ = _; unfold moreL; rw [HLM.out, if_neg (by omega)]; rfl
   have hR : Rd wM 1 (.slice (some ⟨w.heap.size, 0, none⟩) m m) (Is (moreL l space gap j)) := by rw [EM.out]; exact hoM.rd
   clear hoM
   by_cases j1 : j = 1
   ·subst j1
    have E0 : Hid (at0 l space gap 1 = lftI l space gap) := by show _ = _; simp [at0]
    go_wp2
    go_meet
    case rel => exact ⟨by rw [E0.out], hR, hbM⟩
   by_cases j2 : j = 2
   ·subst j2
    have E0 : Hid (at0 l space gap 2 = lftI l space gap / 2) := by show _ = _; simp [at0]
    go_wp2
    go_meet
    case rel => exact ⟨by rw [E0.out], hR, hbM⟩
   have E0 : Hid (at0 l space gap j = 0) := by show _ = _; unfold at0; rw [if_neg j1, if_neg j2]
   by_cases j3 : j = 3
   ·subst j3
    obtain rfl : m = 0 := by omega
    go_wp2
    go_meet
    case rel => exact ⟨by rw [E0.out], hR, hbM⟩
   ·have b1 : (j == 1) = false := by simp [j1]
    have b2 : (j == 2) = false := by simp [j2]
    have b3 : (j == 3) = false := by simp [j3]
    go_wp2
    go_meet
    case rel => exact ⟨by rw [E0.out], hR, hbM⟩
 case rest =>
 obtain ⟨rfl, hR, hb⟩ := hcut
 have hml : (moreL l space gap j).length = m := by rw [moreL_length, HLM.out]; rfl
 have hmp := more_pos l space gap j
 have hms := at0_more l space gap j
 have hm2 : ∀ x, x ∈ moreL l space gap j → x ≤ 200000 := fun x hx => by
  have := isum_mem hmp hx
  omega
 have hoff : ∀ k, k ≤ m → 0 ≤ offI l space gap j k ∧ offI l space gap j k ≤ 300000 := fun k hk => by
  obtain ⟨x, hx⟩ : ∃ x, l[k]? = some x := ⟨_, List.getElem?_eq_getElem (by rw [HLM.out]; omega)⟩
  have h1 := off_bounds (space := space) (gap := gap) j (fun x hx => (hm x hx).1) hg.1 hx
  have h2 := hm x (List.mem_of_getElem? hx)
  have e : ((l.length : Int) - 1) = m := by rw [HLM.out]; omega
  rw [e] at h1
  omega
 have HO := Lib.hid hoff
 have HM := Lib.hid hm
 have HM2 := Lib.hid (fun x hx => And.intro (hmp x hx) (hm2 x hx))
 have HR := Lib.hid hR
 obtain ⟨am, cm, rfl, hnm, hcm, _⟩ := hR.ints
 rw [hml] at hnm HR ⊢
 unfold maxLen at hcm
 have hmw1 : IntKind.i64.wrap ((m : Int) + 1) = (m : Int) + 1 := by rw [IntKind.wrap_i64]; omega
 have hoN := Own.madeInts1 wc wc.heap.size 0 (m + 1) 3 (Nat.le_refl _) (Nat.zero_le _) (by omega)
 have hbN := Below.of_alloc wc (.cells (madeCells #[Value.int .i64 0] (m + 1)) 3)
 have HA0 := Lib.hid (off_zero l space gap j)
 clear hm hmp hms hm2 hoff hR hsum0 hsum1 hl0 hl1 hgm0 hgm1 HT hmk
 go_wp2
 go_loopw [11, 13, 52] (fun at_ out i wr => ∃ k : Nat, k ≤ m + 1 ∧ i = .int .i64 k ∧ at_ = .int .i64 (offI l space gap j (min k m)) ∧ Own wr wc.heap.size 1 out (Is ((offL l space gap j).take k)) ∧ Below wc.heap.size wc wr) (fun _ _ i _ => m + 1 - (intOf i).toNat)
 case atStart => exact ⟨0, by omega, rfl, by rw [Nat.zero_min, HA0.out], hoN, hbN⟩
 case round =>
  clear hoN hbN
  obtain ⟨k, hk, rfl, rfl, hoO, hbr⟩ := hrel
  by_cases hlt : k < m + 1
  ·obtain ⟨x, hx⟩ : ∃ x, l[k]? = some x := ⟨_, List.getElem?_eq_getElem (by rw [HLM.out]; exact hlt)⟩
   have hb0 := hb.trans (hbr.mono hb.size)
   obtain ⟨b, off, rfl, ck⟩ := (hrd.below hb0 (Nat.le_refl _)).intAt hx
   have hx0 := HM.out x (List.mem_of_getElem? hx)
   have ho0 := HO.out (min k m) (by omega)
   have hsz := hbr.size
   have et : Is ((offL l space gap j).take (k + 1)) = Is ((offL l space gap j).take k) ++ Is [offI l space gap j k] := by
    rw [List.take_add_one, offL_get (by rw [HLM.out]; exact hlt), ← Is_append]
    rfl
   have ET := Lib.hid et
   have hlk : ((offL l space gap j).take k).length ≤ 16 := by rw [List.length_take]; omega
   have HX := Lib.hid hx
   have hlti : (k : Int) < (m : Int) + 1 := by omega
   rw [show min k m = k by omega] at ho0 ⊢
   have hkk : IntKind.i64.wrap ((k : Int) + 1) = (k : Int) + 1 := by rw [IntKind.wrap_i64]; omega
   clear et hx
   by_cases hkm : k < m
   ·obtain ⟨y, hy⟩ : ∃ y, (moreL l space gap j)[k]? = some y := ⟨_, List.getElem?_eq_getElem (by omega)⟩
    have hy0 := HM2.out y (List.mem_of_getElem? hy)
    have es := Lib.hid (off_succ j HX.out hy)
    obtain ⟨bm, om, rfl, _⟩ := HR.out.intAt hy
    have cy : ∀ W, Below wc.heap.size wc W → W.cell? ⟨bm, om + k, none⟩ = some (.int .i64 y) := fun W hW => by
     obtain ⟨b', o', e, h⟩ := (HR.out.below hW (Nat.le_refl _)).intAt hy
     cases e
     exact h
    have HY := Lib.hid cy
    have hkmi : (k : Int) < m := by omega
    clear hy cy
    go_wp2_with (at_builtin; refine wpList_app rfl _ _ _ rfl el_int rfl (hoO.alloc _) rfl (Rd.oneAt _ _ (by simp)) (Is_one [offI l space gap j k]) ?hl ?hb ?hK)
    case hl => rw [Is_length]; simp; omega
    case hb => rw [World.size_alloc]; omega
    intro v' w5 ho5 hg5 hf5
    have hb5 := below_app (hbr.alloc hbr.size (.cells #[.int .i64 (offI l space gap j k)] 3)) (hoO.alloc _) hg5 (by simp; omega) (Nat.le_refl _)
    have cy5 := HY.out _ hb5
    go_wp2
    go_roundw
    case rel => exact ⟨k + 1, by omega, by go_num, by rw [show min (k + 1) m = k + 1 by omega, es.out], by rw [ET.out]; exact ho5, hb5⟩
    case measure => simp [intOf]; omega
   ·obtain rfl : k = m := by omega
    have hkmi : ¬ (k : Int) < k := by omega
    go_wp2_with (at_builtin; refine wpList_app rfl _ _ _ rfl el_int rfl (hoO.alloc _) rfl (Rd.oneAt _ _ (by simp)) (Is_one [offI l space gap j k]) ?hl2 ?hb2 ?hK2)
    case hl2 => rw [Is_length]; simp; omega
    case hb2 => omega
    intro v' w5 ho5 hg5 hf5
    have hb5 := below_app (hbr.alloc hbr.size (.cells #[.int .i64 (offI l space gap j k)] 3)) (hoO.alloc _) hg5 (by simp; omega) (Nat.le_refl _)
    go_wp2
    go_roundw
    case rel => exact ⟨k + 1, by omega, by go_num, by rw [show min (k + 1) k = k by omega], by rw [ET.out]; exact ho5, hb5⟩
    case measure => simp [intOf]
  ·obtain rfl : k = m + 1 := by omega
   have e : (offL l space gap j).take (m + 1) = offL l space gap j := by
    rw [List.take_of_length_le (by rw [offL_length, HLM.out]; exact Nat.le_refl _)]
   rw [e] at hoO
   have hbE := hb.trans (hbr.mono hb.size)
   have hoE := hoO.weak hb.size
   clear e
   go_wp2
   go_ret
   exact ⟨_, rfl, hoE, hbE⟩
end Go.Proofs.YthkkgleoikpfgaaGreatDoor
