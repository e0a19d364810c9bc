/-
  Where sizes begin: spec.offsets.
-/
import Derived.IntWalk
import Derived.Deep.CutBlock
import Derived.Deep.DeepCutAuto
import Derived.Test.YtbkhbmcoococmaaSShare
namespace Go.Proofs.Ytbkhbmcoococmaa
open Go Go.RowKit

set_option maxRecDepth 100000 in
set_option maxHeartbeats 2000000 in
theorem soffsets_any {v : Value} {l : List Int} {space gap j : Int} (w : World) (hv : Rd w 1 v (Is l)) (hn1 : 1 ≤ l.length) (hn8 : l.length ≤ 8) (hm : ∀ x, x ∈ l → 0 ≤ x ∧ x ≤ 10000) (hs : 0 ≤ space ∧ space ≤ 200000) (hg : 0 ≤ gap ∧ gap ≤ 50) (hj : 0 ≤ j ∧ j ≤ 3) :
    Calls Try.prog 114 #[v, .int .i64 space, .int .i64 gap, .int .i64 j] w fun e w' => ∃ v', e = .returned v' ∧ Own w' w.heap.size 1 v' (Is (offL l space gap j)) ∧ Ext w w' := by
  have hrd := hv
  obtain ⟨a, c, rfl, hn, hc, _⟩ := hv.ints
  clear hv
  unfold maxLen at hc
  obtain ⟨m, hlm⟩ : ∃ m, l.length = m + 1 := ⟨l.length - 1, by omega⟩
  have hsum0 := isum_pos l fun x hx => (hm x hx).1
  have hsum1 := isum_le l 10000 fun x hx => (hm x hx).2
  have hgm0 : 0 ≤ gap * (m : Int) := Int.mul_nonneg hg.1 (by omega)
  have hgm1 : gap * (m : Int) ≤ 50 * 8 := Int.mul_le_mul hg.2 (by omega) (by omega) (by omega)
  have hmk := fun W => mk_run (P := Try.prog) el_int (m + 1) (m + 1) (Nat.le_refl _) (by omega) W
  simp only [Int.natCast_add, Int.natCast_one] at hmk
  have hL : lftI l space gap = max 0 (space - isum l - gap * m) := by
    unfold lftI
    rw [hlm]
    congr 3
    omega
  have HT := Lib.hid (fun w' (h : Below w.heap.size w w') => sum_any (l := l) w' (hrd.below h (Nat.le_refl _)) (fun x hx => by have := hm x hx; omega) (by omega))
  have hm7 : m ≤ 7 := by omega
  have hmw : IntKind.i64.wrap (m : Int) = (m : Int) := by rw [IntKind.wrap_i64]; omega
  have hmw1 : IntKind.i64.wrap ((m : Int) + 1) = (m : Int) + 1 := by rw [IntKind.wrap_i64]; omega
  have HLM := Lib.hid hlm
  replace hsum1 : isum l ≤ 80000 := by omega
  rw [hlm] at hrd hn HT ⊢
  clear hn1 hn8 hlm
  have hbA := Below.of_alloc w (.cells #[] 3)
  go_enter Try.func114, Try.ntmps114
  go_upto_region 2 with fail
  generalize hwA : w.alloc (.cells #[] 3) = wA at *
  go_cut [10] (fun s wx => s = .int .i64 (lftI l space gap) ∧ wx = wA)
  case first =>
    by_cases hp : 0 < space - isum l - gap * m
    · have hL' := Lib.hid (hL.trans (Int.max_eq_right (Int.le_of_lt hp)))
      clear hL
      go_wp2_with (fail)
      refine (HT.out _ hbA).mono ?_
      rintro e w1 ⟨rfl, rfl⟩
      go_wp2
      go_meet
      case rel => exact ⟨by rw [hL'.out], rfl⟩
    · have hL' := Lib.hid (hL.trans (Int.max_eq_left (by omega)))
      clear hL
      go_wp2_with (fail)
      refine (HT.out _ hbA).mono ?_
      rintro e w1 ⟨rfl, rfl⟩
      go_wp2
      go_meet
      case rel => exact ⟨by rw [hL'.out], rfl⟩
  case rest =>
  obtain ⟨rfl, hwc⟩ := hcut
  subst hwc
  have hl0 := lft_pos l space gap
  have hl1 : lftI l space gap ≤ 200000 := by rw [hL]; omega
  clear hL
  have HS := Lib.hid (fun (W : World) v (h : Rd W 1 v (Is (List.replicate m 1))) => sshare_any W h (s := lftI l space gap) ⟨hl0, by omega⟩ (fun x hx => by have := List.eq_of_mem_replicate hx; omega) (by simp; omega))
  have hoM := Own.madeInts1 wc wc.heap.size (m + 1) (m + 1) 3 (Nat.le_refl _) (Nat.le_refl _) (by omega)
  have hbM := hbA.trans ((Below.of_alloc wc (.cells (madeCells #[Value.int .i64 0] (m + 1)) 3)).mono hbA.size)
  have hsA : wc.heap.size = w.heap.size + 1 := by rw [← hwA]; simp
  rw [hsA] at hoM
  clear hwA
  have hoR0 : Own wc w.heap.size 1 (.slice (some ⟨w.heap.size, 0, none⟩) 0 0) (Is []) := Own.empty _ _ _ _
  go_upto_block 0 with fail
  generalize wc.alloc (.cells (madeCells #[Value.int .i64 0] (m + 1)) 3) = wM at *
  go_cut [11, 12, 13, 14] (fun mo at_ _on _i wx => at_ = .int .i64 (at0 l space gap j) ∧ Rd wx 1 mo (Is (moreL l space gap j ++ [0])) ∧ Ext w wx)
  case first =>
    by_cases h3 : j = 3 ∧ 0 < m
    · obtain ⟨rfl, h0⟩ := h3
      have E0 : Hid (at0 l space gap 3 = 0) := by show _ = _; simp [at0]
      have EM : Hid (moreL l space gap 3 = shareL (lftI l space gap) (List.replicate m 1)) := by show _ = _; unfold moreL; rw [HLM.out, if_pos (by omega)]; rfl
      have h0i : (0 : Int) < m := by omega
      have h0j : (1 : Int) < (m : Int) + 1 := by omega
      have hb0 := hbM.alloc hbM.size (.cells #[] 3)
      go_wp2_with (fail)
      go_loopw [13, 14] (fun on i wr => ∃ k : Nat, k ≤ m ∧ i = .int .i64 (k + 1 : Int) ∧ Own wr w.heap.size 1 on (Is (List.replicate k 1)) ∧ Below w.heap.size w wr) (fun _ i _ => m + 1 - (intOf i).toNat)
      case atStart => exact ⟨0, by omega, rfl, Own.empty _ _ _ _, hb0⟩
      case round =>
        clear hb0
        obtain ⟨k, hk, rfl, ho, hb⟩ := hrel
        have hsz := hb.size
        by_cases hlt : k < m
        · have hlti : (k : Int) + 1 < (m : Int) + 1 := by omega
          have hkw : IntKind.i64.wrap ((k : Int) + 1 + 1) = (k : Int) + 1 + 1 := by rw [IntKind.wrap_i64]; omega
          have ET := Lib.hid (show Is (List.replicate (k + 1) 1) = Is (List.replicate k 1) ++ Is [1] by rw [List.replicate_succ', Is_append])
          go_wp2_with (at_builtin; refine wpList_app rfl _ _ _ rfl el_int rfl (ho.alloc _) rfl (Rd.oneAt _ _ (by simp)) (Is_one [1]) ?hl ?hb ?hK)
          case hl => rw [Is_length]; simp; omega
          case hb => simp; omega
          intro v' w5 ho5 hg5 hf5
          have hb5 := below_app (hb.alloc hb.size (.cells #[.int .i64 1] 3)) (ho.alloc _) hg5 (by simp; omega) (Nat.le_refl _)
          go_wp2
          go_roundw
          case rel => exact ⟨k + 1, by omega, by go_num, by rw [ET.out]; exact ho5, hb5⟩
          case measure => simp [intOf]; omega
        · obtain rfl : k = m := by omega
          go_wp2_with (fail)
          refine (HS.out _ _ ho.rd).mono ?_
          rintro e w4 ⟨v4, rfl, ho4, hx4⟩
          have hx4' : Below w.heap.size w w4 := hb.trans (hx4.mono hsz)
          have hs4 := hx4.size
          have ho4w := ho4.weak hsz
          have hml : (shareL (lftI l space gap) (List.replicate k 1)).length = k := by rw [share_length]; simp
          have HML := Lib.hid hml
          clear hml
          go_wp2_with (at_builtin; refine wpList_app rfl _ _ _ rfl el_int rfl (ho4w.alloc _) rfl (Rd.oneAt _ _ (by simp)) (Is_one [0]) ?hl2 ?hb2 ?hK2)
          case hl2 => rw [Is_length, HML.out]; omega
          case hb2 => rw [World.size_alloc]; omega
          intro v' w5 ho5 hg5 hf5
          have hb5 := below_app (hx4'.alloc hx4'.size (.cells #[.int .i64 0] 3)) (ho4w.alloc _) hg5 (by simp; omega) (Nat.le_refl _)
          go_wp2
          go_meet
          case rel => exact ⟨by rw [E0.out], by rw [EM.out, Is_append]; exact ho5.rd, hb5⟩
    · have EM : Hid (moreL l space gap j ++ [0] = List.replicate (m + 1) 0) := by show _ = _; unfold moreL; rw [HLM.out, if_neg (by omega), List.replicate_succ']; rfl
      have hR : Rd wM 1 (.slice (some ⟨w.heap.size + 1, 0, none⟩) (m + 1) (m + 1)) (Is (moreL l space gap j ++ [0])) := by rw [EM.out]; exact hoM.rd
      clear hoM
      by_cases j1 : j = 1
      · subst j1
        have E0 : Hid (at0 l space gap 1 = lftI l space gap) := by show _ = _; simp [at0]
        go_wp2
        go_meet
        case rel => exact ⟨by rw [E0.out], hR, hbM⟩
      by_cases j2 : j = 2
      · subst j2
        have E0 : Hid (at0 l space gap 2 = lftI l space gap / 2) := by show _ = _; simp [at0]
        go_wp2
        go_meet
        case rel => exact ⟨by rw [E0.out], hR, hbM⟩
      have E0 : Hid (at0 l space gap j = 0) := by show _ = _; unfold at0; rw [if_neg j1, if_neg j2]
      by_cases j3 : j = 3
      · subst j3
        obtain rfl : m = 0 := by omega
        go_wp2
        go_meet
        case rel => exact ⟨by rw [E0.out], hR, hbM⟩
      · have b1 : (j == 1) = false := by simp [j1]
        have b2 : (j == 2) = false := by simp [j2]
        have b3 : (j == 3) = false := by simp [j3]
        go_wp2
        go_meet
        case rel => exact ⟨by rw [E0.out], hR, hbM⟩
  case rest =>
  obtain ⟨rfl, hR, hb⟩ := hcut
  clear hoM hbM HS hoR0 hmk
  have hml : (moreL l space gap j).length = m := by rw [moreL_length, HLM.out]; rfl
  have hml2 : (moreL l space gap j ++ [0]).length = m + 1 := by rw [List.length_append, hml]; rfl
  have hmp := more_pos l space gap j
  have hms := at0_more l space gap j
  have hm2 : ∀ (k : Nat) (y : Int), (moreL l space gap j ++ [0])[k]? = some y → 0 ≤ y ∧ y ≤ 200000 := fun k y hy => by
    have hmem := List.mem_of_getElem? hy
    rcases List.mem_append.1 hmem with h | h
    · have := isum_mem hmp h
      have := hmp y h
      omega
    · simp at h
      omega
  have hoff : ∀ (k : Nat) (x : Int), l[k]? = some x → 0 ≤ offI l space gap j k ∧ offI l space gap j k ≤ 300000 := fun k x hx => by
    have h1 := off_bounds (space := space) (gap := gap) j (fun x hx => (hm x hx).1) hg.1 hx
    have h2 := hm x (List.mem_of_getElem? hx)
    have e : ((l.length : Int) - 1) = m := by rw [HLM.out]; omega
    rw [e] at h1
    omega
  have hsu : ∀ (k : Nat) (x y : Int), l[k]? = some x → (moreL l space gap j ++ [0])[k]? = some y → offI l space gap j k + x + gap + y = offI l space gap j (k + 1) := fun k x y hx hy => by
    by_cases hk : k < m
    · rw [List.getElem?_append_left (by omega)] at hy
      have := off_succ (space := space) (gap := gap) j hx hy
      omega
    · have hkl := (List.getElem?_eq_some_iff.1 hx).1
      obtain rfl : k = m := by rw [HLM.out] at hkl; omega
      rw [List.getElem?_append_right (by omega), hml, Nat.sub_self] at hy
      simp at hy
      subst hy
      have e1 := isum_take hx
      unfold offI
      rw [e1, List.take_of_length_le (show (moreL l space gap j).length ≤ k + 1 by omega), List.take_of_length_le (show (moreL l space gap j).length ≤ k by omega)]
      push_cast
      rw [Int.mul_add]
      omega
  have HO := Lib.hid hoff
  have HSU := Lib.hid hsu
  have HM := Lib.hid hm
  have HM2 := Lib.hid hm2
  have HR := Lib.hid hR
  obtain ⟨am, cm, rfl, hnm, hcm, _⟩ := hR.ints
  rw [hml2] at hnm HR ⊢
  unfold maxLen at hcm
  have HA0 := Lib.hid (off_zero l space gap j)
  have HML2 := Lib.hid hml2
  clear hm hmp hms hm2 hoff hR hsum0 hsum1 hl0 hl1 hgm0 hgm1 HT hsu hml hml2
  go_wp2_with (fail)
  go_loopw [9, 12, 15] (fun out at_ i wr => ∃ k : Nat, k ≤ m + 1 ∧ i = .int .i64 k ∧ at_ = .int .i64 (offI l space gap j k) ∧ Own wr wc.heap.size 1 out (Is ((offL l space gap j).take k)) ∧ Below wc.heap.size wc wr) (fun _ _ i _ => m + 1 - (intOf i).toNat)
  case atStart => exact ⟨0, by omega, rfl, by rw [HA0.out], Own.empty _ _ _ _, Below.refl _ _⟩
  case round =>
    obtain ⟨k, hk, rfl, rfl, hoO, hbr⟩ := hrel
    have hsw := hb.size
    by_cases hlt : k < m + 1
    · obtain ⟨x, hx⟩ : ∃ x, l[k]? = some x := ⟨_, List.getElem?_eq_getElem (by rw [HLM.out]; exact hlt)⟩
      obtain ⟨y, hy⟩ : ∃ y, (moreL l space gap j ++ [0])[k]? = some y := ⟨_, List.getElem?_eq_getElem (by rw [HML2.out]; exact hlt)⟩
      have hb0 := hb.trans (hbr.mono hb.size)
      obtain ⟨b, off, rfl, ck⟩ := hrd.intAt hx
      obtain ⟨bm, om, rfl, _⟩ := HR.out.intAt hy
      have CX := Lib.hid (fun W (hW : Below w.heap.size w W) => show W.cell? ⟨b, off + k, none⟩ = some (.int .i64 x) by
        obtain ⟨b', o', e, h⟩ := (hrd.below hW (Nat.le_refl _)).intAt hx
        cases e
        exact h)
      have CY := Lib.hid (fun W (hW : Below wc.heap.size wc W) => show W.cell? ⟨bm, om + k, none⟩ = some (.int .i64 y) by
        obtain ⟨b', o', e, h⟩ := (HR.out.below hW (Nat.le_refl _)).intAt hy
        cases e
        exact h)
      have hx0 := HM.out x (List.mem_of_getElem? hx)
      have hy0 := HM2.out k y hy
      have ho0 := HO.out k x hx
      have hsz := hbr.size
      have es := Lib.hid (HSU.out k x y hx hy)
      have ET := Lib.hid (show Is ((offL l space gap j).take (k + 1)) = Is ((offL l space gap j).take k) ++ Is [offI l space gap j k] by
        rw [List.take_add_one, offL_get (by rw [HLM.out]; exact hlt), ← Is_append]
        rfl)
      have hlk : ((offL l space gap j).take k).length ≤ 16 := by rw [List.length_take]; omega
      have hlti : (k : Int) < (m : Int) + 1 := by omega
      have hkk : IntKind.i64.wrap ((k : Int) + 1) = (k : Int) + 1 := by rw [IntKind.wrap_i64]; omega
      clear hx hy ck
      go_wp2_with (at_builtin; refine wpList_app rfl _ _ _ rfl el_int rfl (hoO.alloc _) rfl (Rd.oneAt _ _ (by simp)) (Is_one [offI l space gap j k]) ?hl5 ?hb6 ?hK5)
      case hl5 => rw [Is_length]; simp; omega
      case hb6 => rw [World.size_alloc]; omega
      intro v' w5 ho5 hg5 hf5
      have hb5 := below_app (hbr.alloc hbr.size (.cells #[.int .i64 (offI l space gap j k)] 3)) (hoO.alloc _) hg5 (by simp; omega) (Nat.le_refl _)
      have cy5 := CY.out _ hb5
      have cx5 := CX.out _ (hb.trans (hb5.mono hb.size))
      go_wp2
      go_quiet (fail)
      go_wp2
      go_roundw
      case rel => exact ⟨k + 1, by omega, by go_num, by rw [es.out], by rw [ET.out]; exact own_drewN ho5 _, below_drewN hb5 _⟩
      case measure => simp [intOf]; omega
    · obtain rfl : k = m + 1 := by omega
      have e : (offL l space gap j).take (m + 1) = offL l space gap j := by
        rw [List.take_of_length_le (by rw [offL_length, HLM.out]; exact Nat.le_refl _)]
      rw [e] at hoO
      have hbE := hb.trans (hbr.mono hb.size)
      clear e
      go_wp2
      go_ret
      exact ⟨_, rfl, hoO.weak hb.size, hbE⟩
end Go.Proofs.Ytbkhbmcoococmaa
