/-
  Flexible sizes: spec.bases, spec.grow, spec.shrink, spec.flex. (Printed by wip/sflex.py.)
-/
import Derived.IntWalk
import Derived.Test.YtbkhbmcoococmaaReg
import Derived.Test.YtbkhbmcoococmaaCnt
import Derived.Test.YtbkhbmcoococmaaSShare
import Derived.Test.YtbkhbmcoococmaaFlexd
namespace Go.Proofs.Ytbkhbmcoococmaa
open Go Go.RowKit

set_option maxRecDepth 100000 in
set_option maxHeartbeats 1000000 in
theorem bases_any {v : Value} {fs : List Flx} (w : World) (hv : Rd w 5 v (Fs fs)) (hn8 : fs.length ≤ 8) :
    Calls Try.prog 126 #[v] w fun e w' => ∃ v', e = .returned v' ∧ Own w' w.heap.size 1 v' (Is (basL fs)) ∧ Ext w w' := by
  obtain ⟨a, c, rfl, hn, hc, hcell⟩ := hv.flxs
  clear hv
  unfold maxLen at hc
  have HC := Lib.hid hcell
  clear hcell
  have hb0 := Below.of_alloc w (.cells #[] 3)
  go_enter Try.func126, Try.ntmps126
  go_wp2_with (fail)
  go_loopw [3, 4] (fun out i wr => ∃ k : Nat, k ≤ fs.length ∧ i = .int .i64 k ∧ Own wr w.heap.size 1 out (Is ((basL fs).take k)) ∧ Below w.heap.size w wr) (fun _ i _ => fs.length - (intOf i).toNat)
  case atStart => exact ⟨0, Nat.zero_le _, rfl, Own.empty _ _ _ _, hb0⟩
  case round =>
    clear hb0
    obtain ⟨k, hk, rfl, ho, hb⟩ := hrel
    have hsz := hb.size
    by_cases hlt : k < fs.length
    · obtain ⟨f, hf⟩ : ∃ f, fs[k]? = some f := ⟨_, List.getElem?_eq_getElem hlt⟩
      obtain ⟨b, off, rfl, hbs, hC⟩ := HC.out k f hf
      obtain ⟨e0, e1, e2, e3, e4⟩ := (hC k f hf).below hb hbs
      have ET := Lib.hid (show Is ((basL fs).take (k + 1)) = Is ((basL fs).take k) ++ Is [f.base] by
        rw [List.take_add_one, show (basL fs)[k]? = some f.base by simp [basL, hf], Is_append]
        rfl)
      have hlk : ((basL fs).take k).length ≤ 16 := by rw [List.length_take]; omega
      have hlti : (k : Int) < fs.length := by omega
      have hkw : IntKind.i64.wrap ((k : Int) + 1) = (k : Int) + 1 := by rw [IntKind.wrap_i64]; omega
      clear hf hC
      go_wp2_with (at_builtin; refine wpList_app rfl _ _ _ rfl el_int rfl (ho.alloc _) rfl (Rd.oneAt _ _ (by simp)) (Is_one [f.base]) ?hl ?hb ?hK)
      case hl => rw [Is_length]; simp; omega
      case hb => rw [World.size_alloc]; omega
      intro v' w5 ho5 hg5 hf5
      have hb5 := below_app (hb.alloc hb.size (.cells #[.int .i64 f.base] 3)) (ho.alloc _) hg5 (by simp; omega) (Nat.le_refl _)
      go_wp2
      go_roundw
      case rel => exact ⟨k + 1, by omega, by go_num, by rw [ET.out]; exact ho5, hb5⟩
      case measure => simp [intOf]; omega
    · obtain rfl : k = fs.length := by omega
      rw [List.take_of_length_le (by simp [basL])] at ho
      go_wp2
      go_ret
      exact ⟨_, rfl, ho, hb⟩

theorem own_set_drewN {w : World} {p : Addr} {u : Value} {base size : Nat} {v : Value} {xs : List Value} (h : Own (w.setCell p u) base size v xs) (n : Nat) : Own ((w.drewN n).setCell p u) base size v xs := h
theorem below_set_drewN {B : Nat} {w0 w : World} {p : Addr} {u : Value} (h : Below B w0 (w.setCell p u)) (n : Nat) : Below B w0 ((w.drewN n).setCell p u) := ⟨h.os, h.tape, h.output, h.size, h.block⟩
set_option maxRecDepth 100000 in
set_option maxHeartbeats 2000000 in
theorem sgrow_any {B : Nat} {v ov : Value} {fs : List Flx} {out0 : List Int} {left0 : Int} (w0 w : World) (hv : Rd w0 5 v (Fs fs)) (hB : w0.heap.size ≤ B) (hBw : B ≤ w.heap.size) (hb : Below B w0 w) (hf : ∀ f, f ∈ fs → flOk f) (hn8 : fs.length ≤ 8) (ho : Own w B 1 ov (Is out0)) (hin0 : inB2 fs out0) (hl0 : 0 ≤ left0) (hl1 : left0 ≤ 200000) :
    Calls Try.prog 128 #[v, ov, .int .i64 left0] w fun e w' => e = .returned ov ∧ Own w' B 1 ov (Is (flexEnd true fs (left0.toNat + 1) out0 left0)) ∧ Below B w w' := by
  have hrd := hv
  obtain ⟨a, c, rfl, hn, hc, hcell⟩ := hv.flxs
  obtain ⟨ao, co, rfl, hno, hco, _⟩ := ho.rd.ints
  clear hv
  unfold maxLen at hc hco
  rw [hin0.1] at ho hno ⊢
  have HC := Lib.hid hcell
  have HF := Lib.hid hf
  clear hcell hf
  have HS0 : Hid (flexEnd true fs (left0.toNat + 1) out0 left0 = flexEnd true fs (left0.toNat + 1) out0 left0) := rfl
  obtain ⟨R, hR⟩ : ∃ R, flexEnd true fs (left0.toNat + 1) out0 left0 = R := ⟨_, rfl⟩
  have HR0 := Lib.hid hR
  rw [hR]
  clear hR HS0
  go_enter Try.func128, Try.ntmps128
  go_wp2_with (fail)
  go_loopw [2] (fun lf wr => ∃ (F : Nat) (out : List Int) (left : Int), lf = .int .i64 left ∧ 0 ≤ left ∧ left ≤ 200000 ∧ left.toNat ≤ F ∧ Own wr B 1 (.slice ao fs.length co) (Is out) ∧ Below B w wr ∧ Hid (inB2 fs out) ∧ Hid (flexEnd true fs (F + 1) out left = R)) (fun lf _ => (intOf lf).toNat)
  case atStart => exact ⟨_, _, _, rfl, hl0, hl1, Nat.le_refl _, ho, Below.refl _ _, hin0, HR0⟩
  case round =>
    clear ho hin0 HR0 hl0 hl1
    obtain ⟨wo, hwo⟩ : ∃ x, x = wr := ⟨_, rfl⟩
    subst hwo
    obtain ⟨F, out, left, rfl, hl0, hl1, hF, ho, hbo, hin, HE⟩ := hrel
    have HOL := Lib.hid hin.out.1
    have hbm := Lib.hid (inB2_mem HF.out hin.out)
    have HWL := Lib.hid (wtL_length true fs out)
    have hbw := hb.trans hbo
    have hbA := Below.of_alloc wo (.cells #[] 3)
    go_wp2_with (fail)
    go_loopw [7, 8] (fun wv i wx => ∃ k : Nat, k ≤ fs.length ∧ i = .int .i64 k ∧ Own wx wo.heap.size 1 wv (Is ((wtL true fs out).take k)) ∧ Below wo.heap.size wo wx) (fun _ i _ => fs.length - (intOf i).toNat)
    case atStart => exact ⟨0, Nat.zero_le _, rfl, Own.empty _ _ _ _, hbA⟩
    case round =>
      clear hbA
      obtain ⟨k, hk, rfl, hoW, hbA⟩ := hrel
      have hsz := hbA.size
      have hszo := Nat.le_trans hBw hbo.size
      by_cases hlt : k < fs.length
      · obtain ⟨f, hf⟩ : ∃ f, fs[k]? = some f := ⟨_, List.getElem?_eq_getElem hlt⟩
        obtain ⟨b, off, rfl, hbs, hC⟩ := HC.out k f hf
        obtain ⟨e0, e1, e2, e3, e4⟩ := ((hC k f hf).below hbw (by omega)).below hbA (by have := hbw.size; omega)
        obtain ⟨x, hx⟩ : ∃ x, out[k]? = some x := ⟨_, List.getElem?_eq_getElem (by rw [HOL.out]; exact hlt)⟩
        obtain ⟨b2, o2, rfl, cx⟩ := ho.rd.intAt hx
        have hxb := hbm.out x (List.mem_of_getElem? hx)
        have hfo := HF.out f (List.mem_of_getElem? hf)
        unfold flOk at hfo
        obtain ⟨t, ht, ht0, ht1⟩ : ∃ t : Int, (if decide (x < f.max) = true then (1 : Int) else 0) = t ∧ 0 ≤ t ∧ t ≤ 1 := ⟨_, rfl, by split <;> omega, by split <;> omega⟩
        have hwk : (wtL true fs out)[k]? = some (f.grow * t) := by
          unfold wtL
          rw [List.getElem?_map, List.getElem?_range hlt]
          show some (wtI true (fx fs k) (out.getD k 0)) = some _
          have e1 : fx fs k = f := by unfold fx; rw [List.getD_eq_getElem?_getD, hf]; rfl
          have e2 : out.getD k 0 = x := by rw [List.getD_eq_getElem?_getD, hx]; rfl
          rw [e1, e2, ← ht]
          unfold wtI farI wgtI
          by_cases h : x < f.max
          · simp [h]
          · simp [h]
        have ET := Lib.hid (show Is ((wtL true fs out).take (k + 1)) = Is ((wtL true fs out).take k) ++ Is [f.grow * t] by
          rw [List.take_add_one, hwk, Is_append]
          rfl)
        have hwb : 0 ≤ f.grow * t ∧ f.grow * t ≤ 10 := by
          have h01 : t = 0 ∨ t = 1 := by omega
          rcases h01 with rfl | rfl <;> omega
        have hlk : ((wtL true fs out).take k).length ≤ 16 := by rw [List.length_take]; omega
        have hlti : (k : Int) < fs.length := by omega
        have hkw : IntKind.i64.wrap ((k : Int) + 1) = (k : Int) + 1 := by rw [IntKind.wrap_i64]; omega
        have CE := Lib.hid (fun wx (h : Below wo.heap.size wo wx) => (((hC k f hf).below hbw (by omega)).below h (by have := hbw.size; omega)))
        have CX := Lib.hid (fun wx (h : Below wo.heap.size wo wx) => cell_below h cx)
        clear hf hC hx hwk e0 e1 e2 e3 e4 cx
        have hww : IntKind.i64.wrap (f.grow * t) = f.grow * t := by rw [IntKind.wrap_i64]; omega
        go_upto_region 5 with fail
        refine wp_region_held_drew (S := fun w' => Below wo.heap.size wo w') (by kernel_rfl) hbA.drew (fun hS => ?_)
        have hoD := hoW.drew
        have hszD : wr.heap.size = wr.drew.heap.size := rfl
        rw [hszD] at hsz
        clear hoW hbA hszD
        generalize wr.drew = wd at *
        refine hTake (by kernel_rfl) (fun d _ _ _ _ h => by cases d <;> exact h) hS 0 (some 19) _ rfl (v := ?_) (by kernel_rfl) ?_ ?_
        rotate_left
        · intro _ _; go_simp; first | done | with_reducible rfl
        simp only [Act.put, List.setIfInBounds_toArray, List.set_cons_zero, List.set_cons_succ]
        refine hTake (by kernel_rfl) (fun d _ _ _ _ h => by cases d <;> exact h) hS 1 (some 20) _ rfl (v := ?_) (by kernel_rfl) ?_ ?_
        rotate_left
        · intro _ _; go_simp; first | done | with_reducible rfl
        simp only [Act.put, List.setIfInBounds_toArray, List.set_cons_zero, List.set_cons_succ]
        refine hTake (by kernel_rfl) (fun d _ _ _ _ h => by cases d <;> exact h) hS 2 (some 21) _ rfl (v := ?_) (by kernel_rfl) ?_ ?_
        rotate_left
        · intro _ _; go_simp; first | done | with_reducible rfl
        simp only [Act.put, List.setIfInBounds_toArray, List.set_cons_zero, List.set_cons_succ]
        refine hTake (by kernel_rfl) (fun d _ _ _ _ h => by cases d <;> exact h) hS 3 (some 22) _ rfl (v := ?_) (by kernel_rfl) ?_ ?_
        rotate_left
        · intro _ _; go_simp; first | done | with_reducible rfl
        simp only [Act.put, List.setIfInBounds_toArray, List.set_cons_zero, List.set_cons_succ]
        refine hTake (by kernel_rfl) (fun d _ _ _ _ h => by cases d <;> exact h) hS 4 (some 23) _ rfl (v := ?_) (by kernel_rfl) ?_ ?_
        rotate_left
        · intro _ _; go_simp; first | done | with_reducible rfl
        simp only [Act.put, List.setIfInBounds_toArray, List.set_cons_zero, List.set_cons_succ]
        refine hTake (by kernel_rfl) (fun d _ _ _ _ h => by cases d <;> exact h) hS 5 (some 24) _ rfl (v := ?_) (by kernel_rfl) ?_ ?_
        rotate_left
        · intro w9 hS9; obtain ⟨e0, e1, e2, e3, e4⟩ := CE.out _ hS9; go_simp; first | done | with_reducible rfl
        simp only [Act.put, List.setIfInBounds_toArray, List.set_cons_zero, List.set_cons_succ]
        refine hTake (by kernel_rfl) (fun d _ _ _ _ h => by cases d <;> exact h) hS 6 (some 25) _ rfl (v := ?_) (by kernel_rfl) ?_ ?_
        rotate_left
        · intro _ _; go_simp; first | done | with_reducible rfl
        simp only [Act.put, List.setIfInBounds_toArray, List.set_cons_zero, List.set_cons_succ]
        refine hTake (by kernel_rfl) (fun d _ _ _ _ h => by cases d <;> exact h) hS 7 (some 26) _ rfl (v := ?_) (by kernel_rfl) ?_ ?_
        rotate_left
        · intro _ _; go_simp; first | done | with_reducible rfl
        simp only [Act.put, List.setIfInBounds_toArray, List.set_cons_zero, List.set_cons_succ]
        refine hTake (by kernel_rfl) (fun d _ _ _ _ h => by cases d <;> exact h) hS 8 (some 27) _ rfl (v := ?_) (by kernel_rfl) ?_ ?_
        rotate_left
        · intro _ _; go_simp; first | done | with_reducible rfl
        simp only [Act.put, List.setIfInBounds_toArray, List.set_cons_zero, List.set_cons_succ]
        refine hTake (by kernel_rfl) (fun d _ _ _ _ h => by cases d <;> exact h) hS 9 (some 28) _ rfl (v := ?_) (by kernel_rfl) ?_ ?_
        rotate_left
        · intro w9 hS9; have q := CX.out _ hS9; go_simp; first | done | with_reducible rfl
        simp only [Act.put, List.setIfInBounds_toArray, List.set_cons_zero, List.set_cons_succ]
        refine hTake (by kernel_rfl) (fun d _ _ _ _ h => by cases d <;> exact h) hS 10 (some 29) _ rfl (v := ?_) (by kernel_rfl) ?_ ?_
        rotate_left
        · intro _ _; go_simp; first | done | with_reducible rfl
        simp only [Act.put, List.setIfInBounds_toArray, List.set_cons_zero, List.set_cons_succ]
        refine hTake (by kernel_rfl) (fun d _ _ _ _ h => by cases d <;> exact h) hS 11 (some 30) _ rfl (v := ?_) (by kernel_rfl) ?_ ?_
        rotate_left
        · intro _ _; go_simp; first | done | with_reducible rfl
        simp only [Act.put, List.setIfInBounds_toArray, List.set_cons_zero, List.set_cons_succ]
        refine hTake (by kernel_rfl) (fun d _ _ _ _ h => by cases d <;> exact h) hS 12 (some 31) _ rfl (v := ?_) (by kernel_rfl) ?_ ?_
        rotate_left
        · intro _ _; go_simp; first | done | with_reducible rfl
        simp only [Act.put, List.setIfInBounds_toArray, List.set_cons_zero, List.set_cons_succ]
        refine hTake (by kernel_rfl) (fun d _ _ _ _ h => by cases d <;> exact h) hS 13 (some 32) _ rfl (v := ?_) (by kernel_rfl) ?_ ?_
        rotate_left
        · intro _ _; go_simp; first | done | with_reducible rfl
        simp only [Act.put, List.setIfInBounds_toArray, List.set_cons_zero, List.set_cons_succ]
        refine hTake (by kernel_rfl) (fun d _ _ _ _ h => by cases d <;> exact h) hS 14 (some 33) _ rfl (v := ?_) (by kernel_rfl) ?_ ?_
        rotate_left
        · intro w9 hS9; obtain ⟨e0, e1, e2, e3, e4⟩ := CE.out _ hS9; go_simp; first | done | with_reducible rfl
        simp only [Act.put, List.setIfInBounds_toArray, List.set_cons_zero, List.set_cons_succ]
        refine hTake (by kernel_rfl) (fun d _ _ _ _ h => by cases d <;> exact h) hS 15 (some 34) _ rfl (v := ?_) (by kernel_rfl) ?_ ?_
        rotate_left
        · intro _ _; go_simp; first | done | with_reducible rfl
        simp only [Act.put, List.setIfInBounds_toArray, List.set_cons_zero, List.set_cons_succ]
        refine wpAnyH_ready (rs := [16]) (by kernel_rfl) (by simp) ?_
        refine AllReadyH.cons (o := _) rfl (fun K9 hK9 => ?_) AllReadyH.nil
        go_simp
        refine (toInt_any _ _).mono ?_
        rintro e w' ⟨he, hw'⟩
        rw [ht] at he
        subst he
        subst hw'
        try go_wp2_with fail
        refine hK9.out _ _ hS (fun hS => ?_)
        clear hK9 K9
        try simp only [Act.put, List.setIfInBounds_toArray, List.set_cons_zero, List.set_cons_succ]
        refine hTake (by kernel_rfl) (fun d _ _ _ _ h => by cases d <;> exact h) hS 17 (some 36) _ rfl (v := ?_) (by kernel_rfl) ?_ ?_
        rotate_left
        · intro _ _; go_simp; first | done | with_reducible rfl
        simp only [Act.put, List.setIfInBounds_toArray, List.set_cons_zero, List.set_cons_succ]
        refine wpAnyH_ready (rs := [18]) (by kernel_rfl) (by simp) ?_
        refine AllReadyH.cons (o := _) rfl (fun K9 hK9 => ?_) AllReadyH.nil
        go_simp
        refine hK9.out _ _ (hS.alloc hsz _) (fun hS => ?_)
        clear hK9 K9
        try simp only [Act.put, List.setIfInBounds_toArray, List.set_cons_zero, List.set_cons_succ]
        refine wpAnyH_ready (rs := [19]) (by kernel_rfl) (by simp) ?_
        refine AllReadyH.cons (o := _) rfl (fun K9 hK9 => ?_) AllReadyH.nil
        refine step_app rfl _ _ _ rfl el_int rfl (hoD.alloc _) rfl (Rd.oneAt _ _ (by simp)) (Is_one [f.grow * t]) ?hl ?hb ?hK
        case hl => rw [Is_length]; simp; omega
        case hb => rw [World.size_alloc]; omega
        intro v' w5 ho5 hg5 hf5
        have hb5 := below_app hS (hoD.alloc _) hg5 (by simp; omega) (Nat.le_refl _)
        refine hK9.out _ _ hb5 (fun hS => ?_)
        clear hK9 K9
        try simp only [Act.put, List.setIfInBounds_toArray]
        refine wpAnyH_ready (rs := [20]) (by kernel_rfl) (by simp) ?_
        refine AllReadyH.cons (o := _) rfl (fun K9 hK9 => ?_) AllReadyH.nil
        go_simp
        refine hK9.out _ _ hS (fun hS => ?_)
        clear hK9 K9
        try simp only [Act.put, List.setIfInBounds_toArray, List.set_cons_zero, List.set_cons_succ]
        refine wpAnyH_done (by kernel_rfl) ?_ _
        clear hS
        go_wp2
        go_roundw
        case rel => exact ⟨k + 1, by omega, by go_num, by rw [ET.out]; exact ho5, hb5⟩
        case measure => simp [intOf]; omega
      · obtain rfl : k = fs.length := by omega
        rw [List.take_of_length_le (by rw [HWL.out]; exact Nat.le_refl _)] at hoW
        have HSH := Lib.hid (sshare_any wr hoW.rd (s := left) ⟨hl0, by omega⟩ (fun x hx => ⟨wt_pos HF.out x hx, by have := wt_le HF.out x hx; omega⟩) (by rw [HWL.out]; exact hn8))
        have HOW := Lib.hid (ho.below hbA (Nat.le_refl _))
        have HBB := Lib.hid (fun w' (h : Ext wr w') => hbo.trans ((hbA.mono hszo).trans (h.mono (Nat.le_trans hszo hsz))))
        have hkl : ¬ ((fs.length : Int) < fs.length) := by omega
        clear hoW
        go_wp2_with (fail)
        refine HSH.out.mono ?_
        rintro e w4 ⟨v4, rfl, ho4, hx4⟩
        have hoO4 := HOW.out.below hx4 (Nat.le_refl _)
        have hbB4 := HBB.out w4 hx4
        have HLT := Lib.hid HOW.out.lt
        have HTT := Lib.hid (sum_any w4 ho4.rd (fun x hx => by have h1 := share_pos hl0 (wt_pos HF.out) x hx; have h2 := share_le hl0 (wt_pos HF.out) x hx; omega) (by rw [share_length, HWL.out]; omega))
        have hslen : (shareL left (wtL true fs out)).length = fs.length := by rw [share_length, HWL.out]
        have HSL2 := Lib.hid (step_left HF.out hin.out hl0 (up := true))
        have HE0 := Lib.hid (show flexEnd true fs (F + 1) out left = if isum (shareL left (wtL true fs out)) = 0 then out else flexEnd true fs F (stepO true fs out (shareL left (wtL true fs out))) (stepL true fs out (shareL left (wtL true fs out)) left) from rfl)
        obtain ⟨B4, hB4⟩ : ∃ x, x = wr.heap.size := ⟨_, rfl⟩
        rw [← hB4] at ho4 HLT
        clear hB4 HSH hx4 HOW HBB hbA hsz hbo
        go_wp2_with (fail)
        refine HTT.out.mono ?_
        rintro e w5 ⟨rfl, hw5⟩
        subst hw5
        clear HTT
        by_cases hz : isum (shareL left (wtL true fs out)) = 0
        · have he := HE0.out
          rw [if_pos hz, HE.out] at he
          have HFIN := Lib.hid he
          have hz' : (isum (shareL left (wtL true fs out)) == 0) = true := by simp [hz]
          clear he hz
          go_wp2
          go_ret
          exact ⟨rfl, by rw [HFIN.out]; exact hoO4, hbB4⟩
        · have he := HE0.out
          rw [if_neg hz, HE.out] at he
          have HFIN := Lib.hid he
          have hz' : (isum (shareL left (wtL true fs out)) == 0) = false := by simp [hz]
          have hsl := HSL2.out hz
          have HSLEN := Lib.hid hslen
          obtain ⟨G, hG⟩ : ∃ G : Nat, G + 1 = F := ⟨F - 1, by omega⟩
          obtain ⟨a4, cap4, e4, hn4, hc4, _⟩ := ho4.rd.ints
          subst e4
          unfold maxLen at hc4
          rw [hslen] at hn4 ho4 ⊢
          clear he hz hslen
          have HD := Lib.hid (show (stepO true fs out (shareL left (wtL true fs out))).length = out.length by rw [stepO_length, HOL.out])
          have HSTEP := Lib.hid (step_in HF.out hin.out hl0 (up := true))
          have HLEN := Lib.hid (show ((List.range fs.length).map (movI true fs out (shareL left (wtL true fs out)))).length = fs.length by simp)
          have HMB := Lib.hid fun k => movs_bound (up := true) HF.out hin.out hl0 k
          have HMT := Lib.hid (show isum ((List.range fs.length).map (movI true fs out (shareL left (wtL true fs out)))) = left - stepL true fs out (shareL left (wtL true fs out)) left by unfold stepL; omega)
          have HMP := Lib.hid fun i (hi : i < fs.length) => mov_pos (up := true) HF.out hin.out hl0 hi
          have HSL := Lib.hid hsl
          clear hsl
          go_wp2_with (fail)
          go_loopw [2, 10] (fun lf i wx => ∃ k : Nat, k ≤ fs.length ∧ i = .int .i64 k ∧ lf = .int .i64 (left - isum (((List.range fs.length).map (movI true fs out (shareL left (wtL true fs out)))).take k)) ∧
            Own wx B 1 (.slice ao fs.length co) (Is (mixL (stepO true fs out (shareL left (wtL true fs out))) out k)) ∧ Own wx B4 1 (.slice a4 fs.length cap4) (Is (shareL left (wtL true fs out))) ∧ Below B w wx) (fun _ i _ => fs.length - (intOf i).toNat)
          case atStart => exact ⟨0, Nat.zero_le _, rfl, by simp [isum], by rw [mixL_zero]; exact hoO4, ho4, hbB4⟩
          case round =>
            clear hoO4 ho4 hbB4
            obtain ⟨k, hk, rfl, rfl, hoO, hoS, hbB⟩ := hrel
            have hszB := hbB.size
            have hmk1 := HMB.out k
            rw [HMT.out] at hmk1
            have hsl := HSL.out
            by_cases hlt : k < fs.length
            · have hlti : (k : Int) < fs.length := by omega
              have hkw : IntKind.i64.wrap ((k : Int) + 1) = (k : Int) + 1 := by rw [IntKind.wrap_i64]; omega
              obtain ⟨f, hf⟩ : ∃ f, fs[k]? = some f := ⟨_, List.getElem?_eq_getElem hlt⟩
              have hfd : fx fs k = f := by unfold fx; rw [List.getD_eq_getElem?_getD, hf]; rfl
              obtain ⟨b, off, rfl, hbs, hC⟩ := HC.out k f hf
              obtain ⟨e0, e1, e2, e3, e4⟩ := ((hC k f hf).below hb (by omega)).below hbB (by omega)
              have hfo := HF.out f (List.mem_of_getElem? hf)
              unfold flOk at hfo
              obtain ⟨y, hy⟩ : ∃ y, (shareL left (wtL true fs out))[k]? = some y := ⟨_, List.getElem?_eq_getElem (by rw [HSLEN.out]; exact hlt)⟩
              have hyd : (shareL left (wtL true fs out)).getD k 0 = y := by rw [List.getD_eq_getElem?_getD, hy]; rfl
              obtain ⟨x, hx⟩ : ∃ x, out[k]? = some x := ⟨_, List.getElem?_eq_getElem (by rw [HOL.out]; exact hlt)⟩
              have hxd : out.getD k 0 = x := by rw [List.getD_eq_getElem?_getD, hx]; rfl
              have hxm : (mixL (stepO true fs out (shareL left (wtL true fs out))) out k)[k]? = some x := by
                rw [mixL_get HD.out (by rw [HD.out, HOL.out]; exact hk)]; exact hx
              have hsk : (stepO true fs out (shareL left (wtL true fs out)))[k]? = some (x + movI true fs out (shareL left (wtL true fs out)) k) := by
                unfold stepO
                rw [List.getElem?_map, List.getElem?_range hlt, ← hxd]
                rfl
              have hset := mixL_set HD.out hsk
              have hmv := (HMP.out k hlt).1
              have hxb := hbm.out x (List.mem_of_getElem? hx)
              have hyb := share_le hl0 (wt_pos HF.out) y (List.mem_of_getElem? hy)
              have hya := share_pos hl0 (wt_pos HF.out) y (List.mem_of_getElem? hy)
              have htk : isum (((List.range fs.length).map (movI true fs out (shareL left (wtL true fs out)))).take (k + 1)) = isum (((List.range fs.length).map (movI true fs out (shareL left (wtL true fs out)))).take k) + movI true fs out (shareL left (wtL true fs out)) k := isum_take (by simp [hlt])
              have HTK := Lib.hid htk
              have hmk2 := HMB.out (k + 1)
              rw [HMT.out, htk] at hmk2
              have hmov : movI true fs out (shareL left (wtL true fs out)) k = min y (f.max - x) := by unfold movI; rw [hyd, hxd, hfd]; rfl
              have hxc := hin.out.2 k hlt
              rw [hxd, hfd] at hxc
              obtain ⟨b4, o4, rfl, cy⟩ := hoS.rd.intAt hy
              have hxm' := Is_get hxm
              obtain ⟨b2, o2, n2, c2, e2', _, hbk, hB2, hbs2, hcell2, hfz2, hset2⟩ := hoO.cells (by
                intro h
                rw [h] at hxm'
                cases hxm')
              cases e2'
              have cx := hcell2 k _ hxm'
              have fx2 := hfz2 k
              have hb24 := (HLT.out b2 hbk).2
              have hst := hset2 k (.int .i64 (x + movI true fs out (shareL left (wtL true fs out)) k)) (List.getElem?_eq_some_iff.1 hxm').1
              rw [Is_set, hset] at hst
              have hoS2 := hoS.setOther (p := ⟨b2, o2 + k, none⟩) (fun e => by have := (hoS.lt _ e).1; dsimp only at this; omega) (.int .i64 (x + movI true fs out (shareL left (wtL true fs out)) k))
              have hbB2 := hbB.setCell (p := ⟨b2, o2 + k, none⟩) hB2 (.int .i64 (x + movI true fs out (shareL left (wtL true fs out)) k))
              have HST := Lib.hid (fun q => own_set_drewN hst q)
              have HO2 := Lib.hid (fun q => own_set_drewN hoS2 q)
              have HB2 := Lib.hid (fun q => below_set_drewN hbB2 q)
              have HMV := Lib.hid hmov
              clear hst hoS2 hbB2 hmov hset hset2 hsk hxm hxm' hxd hx hyd hy htk hoS hoO hfd hf hC hcell2 hfz2
              generalize movI true fs out (shareL left (wtL true fs out)) k = mv at *
              generalize hws : isum (((List.range fs.length).map (movI true fs out (shareL left (wtL true fs out)))).take k) = ms at *
              have HTK2 := Lib.hid (show left - ms - mv = left - isum (((List.range fs.length).map (movI true fs out (shareL left (wtL true fs out)))).take (k + 1)) by rw [HTK.out]; omega)
              clear HTK hws
              by_cases hmin : f.max - x < y
              · have hmf : mv = f.max - x := by have := HMV.out; omega
                subst hmf
                clear HMV
                go_wp2
                go_quiet (fail)
                go_wp2
                go_roundw
                case rel => exact ⟨k + 1, by omega, by go_num, by rw [HTK2.out], HST.out _, HO2.out _, HB2.out _⟩
                case measure => simp [intOf]; omega
              · obtain rfl : mv = y := by have := HMV.out; omega
                clear HMV
                go_wp2
                go_quiet (fail)
                go_wp2
                go_roundw
                case rel => exact ⟨k + 1, by omega, by go_num, by rw [HTK2.out], HST.out _, HO2.out _, HB2.out _⟩
                case measure => simp [intOf]; omega
            · obtain rfl : k = fs.length := by omega
              have e1 : mixL (stepO true fs out (shareL left (wtL true fs out))) out fs.length = stepO true fs out (shareL left (wtL true fs out)) := by
                have h := mixL_full HD.out
                rw [stepO_length] at h
                exact h
              have e2 : left - isum (((List.range fs.length).map (movI true fs out (shareL left (wtL true fs out)))).take fs.length) = stepL true fs out (shareL left (wtL true fs out)) left := by
                rw [List.take_of_length_le (by rw [HLEN.out]; exact Nat.le_refl _)]
                rfl
              have hkl2 : ¬ ((fs.length : Int) < fs.length) := by omega
              rw [e1] at hoO
              rw [e2]
              have HS2 := Lib.hid hsl
              clear e1 e2 hmk1 hoS HMB HMT HMP hsl
              generalize stepL true fs out (shareL left (wtL true fs out)) left = lf2 at *
              go_wp2_with (fail)
              go_roundw
              case rel =>
                have hsl := HS2.out
                subst hG
                exact ⟨G, _, _, rfl, by omega, by omega, by omega, hoO, hbB, HSTEP, Lib.hid HFIN.out.symm⟩
              case measure => have hsl := HS2.out; simp [intOf]; omega

set_option maxRecDepth 100000 in
set_option maxHeartbeats 2000000 in
theorem sshrink_any {B : Nat} {v ov : Value} {fs : List Flx} {out0 : List Int} {left0 : Int} (w0 w : World) (hv : Rd w0 5 v (Fs fs)) (hB : w0.heap.size ≤ B) (hBw : B ≤ w.heap.size) (hb : Below B w0 w) (hf : ∀ f, f ∈ fs → flOk f) (hn8 : fs.length ≤ 8) (ho : Own w B 1 ov (Is out0)) (hin0 : inB2 fs out0) (hl0 : 0 ≤ left0) (hl1 : left0 ≤ 200000) :
    Calls Try.prog 129 #[v, ov, .int .i64 left0] w fun e w' => e = .returned ov ∧ Own w' B 1 ov (Is (flexEnd false fs (left0.toNat + 1) out0 left0)) ∧ Below B w w' := by
  have hrd := hv
  obtain ⟨a, c, rfl, hn, hc, hcell⟩ := hv.flxs
  obtain ⟨ao, co, rfl, hno, hco, _⟩ := ho.rd.ints
  clear hv
  unfold maxLen at hc hco
  rw [hin0.1] at ho hno ⊢
  have HC := Lib.hid hcell
  have HF := Lib.hid hf
  clear hcell hf
  have HS0 : Hid (flexEnd false fs (left0.toNat + 1) out0 left0 = flexEnd false fs (left0.toNat + 1) out0 left0) := rfl
  obtain ⟨R, hR⟩ : ∃ R, flexEnd false fs (left0.toNat + 1) out0 left0 = R := ⟨_, rfl⟩
  have HR0 := Lib.hid hR
  rw [hR]
  clear hR HS0
  go_enter Try.func129, Try.ntmps129
  go_wp2_with (fail)
  go_loopw [2] (fun lf wr => ∃ (F : Nat) (out : List Int) (left : Int), lf = .int .i64 left ∧ 0 ≤ left ∧ left ≤ 200000 ∧ left.toNat ≤ F ∧ Own wr B 1 (.slice ao fs.length co) (Is out) ∧ Below B w wr ∧ Hid (inB2 fs out) ∧ Hid (flexEnd false fs (F + 1) out left = R)) (fun lf _ => (intOf lf).toNat)
  case atStart => exact ⟨_, _, _, rfl, hl0, hl1, Nat.le_refl _, ho, Below.refl _ _, hin0, HR0⟩
  case round =>
    clear ho hin0 HR0 hl0 hl1
    obtain ⟨wo, hwo⟩ : ∃ x, x = wr := ⟨_, rfl⟩
    subst hwo
    obtain ⟨F, out, left, rfl, hl0, hl1, hF, ho, hbo, hin, HE⟩ := hrel
    have HOL := Lib.hid hin.out.1
    have hbm := Lib.hid (inB2_mem HF.out hin.out)
    have HWL := Lib.hid (wtL_length false fs out)
    have hbw := hb.trans hbo
    have hbA := Below.of_alloc wo (.cells #[] 3)
    go_wp2_with (fail)
    go_loopw [7, 8] (fun wv i wx => ∃ k : Nat, k ≤ fs.length ∧ i = .int .i64 k ∧ Own wx wo.heap.size 1 wv (Is ((wtL false fs out).take k)) ∧ Below wo.heap.size wo wx) (fun _ i _ => fs.length - (intOf i).toNat)
    case atStart => exact ⟨0, Nat.zero_le _, rfl, Own.empty _ _ _ _, hbA⟩
    case round =>
      clear hbA
      obtain ⟨k, hk, rfl, hoW, hbA⟩ := hrel
      have hsz := hbA.size
      have hszo := Nat.le_trans hBw hbo.size
      by_cases hlt : k < fs.length
      · obtain ⟨f, hf⟩ : ∃ f, fs[k]? = some f := ⟨_, List.getElem?_eq_getElem hlt⟩
        obtain ⟨b, off, rfl, hbs, hC⟩ := HC.out k f hf
        obtain ⟨e0, e1, e2, e3, e4⟩ := ((hC k f hf).below hbw (by omega)).below hbA (by have := hbw.size; omega)
        obtain ⟨x, hx⟩ : ∃ x, out[k]? = some x := ⟨_, List.getElem?_eq_getElem (by rw [HOL.out]; exact hlt)⟩
        obtain ⟨b2, o2, rfl, cx⟩ := ho.rd.intAt hx
        have hxb := hbm.out x (List.mem_of_getElem? hx)
        have hfo := HF.out f (List.mem_of_getElem? hf)
        unfold flOk at hfo
        obtain ⟨t, ht, ht0, ht1⟩ : ∃ t : Int, (if decide (f.min < x) = true then (1 : Int) else 0) = t ∧ 0 ≤ t ∧ t ≤ 1 := ⟨_, rfl, by split <;> omega, by split <;> omega⟩
        have hwk : (wtL false fs out)[k]? = some (f.shrink * t) := by
          unfold wtL
          rw [List.getElem?_map, List.getElem?_range hlt]
          show some (wtI false (fx fs k) (out.getD k 0)) = some _
          have e1 : fx fs k = f := by unfold fx; rw [List.getD_eq_getElem?_getD, hf]; rfl
          have e2 : out.getD k 0 = x := by rw [List.getD_eq_getElem?_getD, hx]; rfl
          rw [e1, e2, ← ht]
          unfold wtI farI wgtI
          by_cases h : f.min < x
          · simp [h]
          · simp [h]
        have ET := Lib.hid (show Is ((wtL false fs out).take (k + 1)) = Is ((wtL false fs out).take k) ++ Is [f.shrink * t] by
          rw [List.take_add_one, hwk, Is_append]
          rfl)
        have hwb : 0 ≤ f.shrink * t ∧ f.shrink * t ≤ 10 := by
          have h01 : t = 0 ∨ t = 1 := by omega
          rcases h01 with rfl | rfl <;> omega
        have hlk : ((wtL false fs out).take k).length ≤ 16 := by rw [List.length_take]; omega
        have hlti : (k : Int) < fs.length := by omega
        have hkw : IntKind.i64.wrap ((k : Int) + 1) = (k : Int) + 1 := by rw [IntKind.wrap_i64]; omega
        have CE := Lib.hid (fun wx (h : Below wo.heap.size wo wx) => (((hC k f hf).below hbw (by omega)).below h (by have := hbw.size; omega)))
        have CX := Lib.hid (fun wx (h : Below wo.heap.size wo wx) => cell_below h cx)
        clear hf hC hx hwk e0 e1 e2 e3 e4 cx
        have hww : IntKind.i64.wrap (f.shrink * t) = f.shrink * t := by rw [IntKind.wrap_i64]; omega
        go_upto_region 5 with fail
        refine wp_region_held_drew (S := fun w' => Below wo.heap.size wo w') (by kernel_rfl) hbA.drew (fun hS => ?_)
        have hoD := hoW.drew
        have hszD : wr.heap.size = wr.drew.heap.size := rfl
        rw [hszD] at hsz
        clear hoW hbA hszD
        generalize wr.drew = wd at *
        refine hTake (by kernel_rfl) (fun d _ _ _ _ h => by cases d <;> exact h) hS 0 (some 19) _ rfl (v := ?_) (by kernel_rfl) ?_ ?_
        rotate_left
        · intro _ _; go_simp; first | done | with_reducible rfl
        simp only [Act.put, List.setIfInBounds_toArray, List.set_cons_zero, List.set_cons_succ]
        refine hTake (by kernel_rfl) (fun d _ _ _ _ h => by cases d <;> exact h) hS 1 (some 20) _ rfl (v := ?_) (by kernel_rfl) ?_ ?_
        rotate_left
        · intro _ _; go_simp; first | done | with_reducible rfl
        simp only [Act.put, List.setIfInBounds_toArray, List.set_cons_zero, List.set_cons_succ]
        refine hTake (by kernel_rfl) (fun d _ _ _ _ h => by cases d <;> exact h) hS 2 (some 21) _ rfl (v := ?_) (by kernel_rfl) ?_ ?_
        rotate_left
        · intro _ _; go_simp; first | done | with_reducible rfl
        simp only [Act.put, List.setIfInBounds_toArray, List.set_cons_zero, List.set_cons_succ]
        refine hTake (by kernel_rfl) (fun d _ _ _ _ h => by cases d <;> exact h) hS 3 (some 22) _ rfl (v := ?_) (by kernel_rfl) ?_ ?_
        rotate_left
        · intro _ _; go_simp; first | done | with_reducible rfl
        simp only [Act.put, List.setIfInBounds_toArray, List.set_cons_zero, List.set_cons_succ]
        refine hTake (by kernel_rfl) (fun d _ _ _ _ h => by cases d <;> exact h) hS 4 (some 23) _ rfl (v := ?_) (by kernel_rfl) ?_ ?_
        rotate_left
        · intro _ _; go_simp; first | done | with_reducible rfl
        simp only [Act.put, List.setIfInBounds_toArray, List.set_cons_zero, List.set_cons_succ]
        refine hTake (by kernel_rfl) (fun d _ _ _ _ h => by cases d <;> exact h) hS 5 (some 24) _ rfl (v := ?_) (by kernel_rfl) ?_ ?_
        rotate_left
        · intro w9 hS9; obtain ⟨e0, e1, e2, e3, e4⟩ := CE.out _ hS9; go_simp; first | done | with_reducible rfl
        simp only [Act.put, List.setIfInBounds_toArray, List.set_cons_zero, List.set_cons_succ]
        refine hTake (by kernel_rfl) (fun d _ _ _ _ h => by cases d <;> exact h) hS 6 (some 25) _ rfl (v := ?_) (by kernel_rfl) ?_ ?_
        rotate_left
        · intro _ _; go_simp; first | done | with_reducible rfl
        simp only [Act.put, List.setIfInBounds_toArray, List.set_cons_zero, List.set_cons_succ]
        refine hTake (by kernel_rfl) (fun d _ _ _ _ h => by cases d <;> exact h) hS 7 (some 26) _ rfl (v := ?_) (by kernel_rfl) ?_ ?_
        rotate_left
        · intro _ _; go_simp; first | done | with_reducible rfl
        simp only [Act.put, List.setIfInBounds_toArray, List.set_cons_zero, List.set_cons_succ]
        refine hTake (by kernel_rfl) (fun d _ _ _ _ h => by cases d <;> exact h) hS 8 (some 27) _ rfl (v := ?_) (by kernel_rfl) ?_ ?_
        rotate_left
        · intro _ _; go_simp; first | done | with_reducible rfl
        simp only [Act.put, List.setIfInBounds_toArray, List.set_cons_zero, List.set_cons_succ]
        refine hTake (by kernel_rfl) (fun d _ _ _ _ h => by cases d <;> exact h) hS 9 (some 28) _ rfl (v := ?_) (by kernel_rfl) ?_ ?_
        rotate_left
        · intro w9 hS9; have q := CX.out _ hS9; go_simp; first | done | with_reducible rfl
        simp only [Act.put, List.setIfInBounds_toArray, List.set_cons_zero, List.set_cons_succ]
        refine hTake (by kernel_rfl) (fun d _ _ _ _ h => by cases d <;> exact h) hS 10 (some 29) _ rfl (v := ?_) (by kernel_rfl) ?_ ?_
        rotate_left
        · intro _ _; go_simp; first | done | with_reducible rfl
        simp only [Act.put, List.setIfInBounds_toArray, List.set_cons_zero, List.set_cons_succ]
        refine hTake (by kernel_rfl) (fun d _ _ _ _ h => by cases d <;> exact h) hS 11 (some 30) _ rfl (v := ?_) (by kernel_rfl) ?_ ?_
        rotate_left
        · intro _ _; go_simp; first | done | with_reducible rfl
        simp only [Act.put, List.setIfInBounds_toArray, List.set_cons_zero, List.set_cons_succ]
        refine hTake (by kernel_rfl) (fun d _ _ _ _ h => by cases d <;> exact h) hS 12 (some 31) _ rfl (v := ?_) (by kernel_rfl) ?_ ?_
        rotate_left
        · intro _ _; go_simp; first | done | with_reducible rfl
        simp only [Act.put, List.setIfInBounds_toArray, List.set_cons_zero, List.set_cons_succ]
        refine hTake (by kernel_rfl) (fun d _ _ _ _ h => by cases d <;> exact h) hS 13 (some 32) _ rfl (v := ?_) (by kernel_rfl) ?_ ?_
        rotate_left
        · intro _ _; go_simp; first | done | with_reducible rfl
        simp only [Act.put, List.setIfInBounds_toArray, List.set_cons_zero, List.set_cons_succ]
        refine hTake (by kernel_rfl) (fun d _ _ _ _ h => by cases d <;> exact h) hS 14 (some 33) _ rfl (v := ?_) (by kernel_rfl) ?_ ?_
        rotate_left
        · intro w9 hS9; obtain ⟨e0, e1, e2, e3, e4⟩ := CE.out _ hS9; go_simp; first | done | with_reducible rfl
        simp only [Act.put, List.setIfInBounds_toArray, List.set_cons_zero, List.set_cons_succ]
        refine hTake (by kernel_rfl) (fun d _ _ _ _ h => by cases d <;> exact h) hS 15 (some 34) _ rfl (v := ?_) (by kernel_rfl) ?_ ?_
        rotate_left
        · intro _ _; go_simp; first | done | with_reducible rfl
        simp only [Act.put, List.setIfInBounds_toArray, List.set_cons_zero, List.set_cons_succ]
        refine wpAnyH_ready (rs := [16]) (by kernel_rfl) (by simp) ?_
        refine AllReadyH.cons (o := _) rfl (fun K9 hK9 => ?_) AllReadyH.nil
        go_simp
        refine (toInt_any _ _).mono ?_
        rintro e w' ⟨he, hw'⟩
        rw [ht] at he
        subst he
        subst hw'
        try go_wp2_with fail
        refine hK9.out _ _ hS (fun hS => ?_)
        clear hK9 K9
        try simp only [Act.put, List.setIfInBounds_toArray, List.set_cons_zero, List.set_cons_succ]
        refine hTake (by kernel_rfl) (fun d _ _ _ _ h => by cases d <;> exact h) hS 17 (some 36) _ rfl (v := ?_) (by kernel_rfl) ?_ ?_
        rotate_left
        · intro _ _; go_simp; first | done | with_reducible rfl
        simp only [Act.put, List.setIfInBounds_toArray, List.set_cons_zero, List.set_cons_succ]
        refine wpAnyH_ready (rs := [18]) (by kernel_rfl) (by simp) ?_
        refine AllReadyH.cons (o := _) rfl (fun K9 hK9 => ?_) AllReadyH.nil
        go_simp
        refine hK9.out _ _ (hS.alloc hsz _) (fun hS => ?_)
        clear hK9 K9
        try simp only [Act.put, List.setIfInBounds_toArray, List.set_cons_zero, List.set_cons_succ]
        refine wpAnyH_ready (rs := [19]) (by kernel_rfl) (by simp) ?_
        refine AllReadyH.cons (o := _) rfl (fun K9 hK9 => ?_) AllReadyH.nil
        refine step_app rfl _ _ _ rfl el_int rfl (hoD.alloc _) rfl (Rd.oneAt _ _ (by simp)) (Is_one [f.shrink * t]) ?hl ?hb ?hK
        case hl => rw [Is_length]; simp; omega
        case hb => rw [World.size_alloc]; omega
        intro v' w5 ho5 hg5 hf5
        have hb5 := below_app hS (hoD.alloc _) hg5 (by simp; omega) (Nat.le_refl _)
        refine hK9.out _ _ hb5 (fun hS => ?_)
        clear hK9 K9
        try simp only [Act.put, List.setIfInBounds_toArray]
        refine wpAnyH_ready (rs := [20]) (by kernel_rfl) (by simp) ?_
        refine AllReadyH.cons (o := _) rfl (fun K9 hK9 => ?_) AllReadyH.nil
        go_simp
        refine hK9.out _ _ hS (fun hS => ?_)
        clear hK9 K9
        try simp only [Act.put, List.setIfInBounds_toArray, List.set_cons_zero, List.set_cons_succ]
        refine wpAnyH_done (by kernel_rfl) ?_ _
        clear hS
        go_wp2
        go_roundw
        case rel => exact ⟨k + 1, by omega, by go_num, by rw [ET.out]; exact ho5, hb5⟩
        case measure => simp [intOf]; omega
      · obtain rfl : k = fs.length := by omega
        rw [List.take_of_length_le (by rw [HWL.out]; exact Nat.le_refl _)] at hoW
        have HSH := Lib.hid (sshare_any wr hoW.rd (s := left) ⟨hl0, by omega⟩ (fun x hx => ⟨wt_pos HF.out x hx, by have := wt_le HF.out x hx; omega⟩) (by rw [HWL.out]; exact hn8))
        have HOW := Lib.hid (ho.below hbA (Nat.le_refl _))
        have HBB := Lib.hid (fun w' (h : Ext wr w') => hbo.trans ((hbA.mono hszo).trans (h.mono (Nat.le_trans hszo hsz))))
        have hkl : ¬ ((fs.length : Int) < fs.length) := by omega
        clear hoW
        go_wp2_with (fail)
        refine HSH.out.mono ?_
        rintro e w4 ⟨v4, rfl, ho4, hx4⟩
        have hoO4 := HOW.out.below hx4 (Nat.le_refl _)
        have hbB4 := HBB.out w4 hx4
        have HLT := Lib.hid HOW.out.lt
        have HTT := Lib.hid (sum_any w4 ho4.rd (fun x hx => by have h1 := share_pos hl0 (wt_pos HF.out) x hx; have h2 := share_le hl0 (wt_pos HF.out) x hx; omega) (by rw [share_length, HWL.out]; omega))
        have hslen : (shareL left (wtL false fs out)).length = fs.length := by rw [share_length, HWL.out]
        have HSL2 := Lib.hid (step_left HF.out hin.out hl0 (up := false))
        have HE0 := Lib.hid (show flexEnd false fs (F + 1) out left = if isum (shareL left (wtL false fs out)) = 0 then out else flexEnd false fs F (stepO false fs out (shareL left (wtL false fs out))) (stepL false fs out (shareL left (wtL false fs out)) left) from rfl)
        obtain ⟨B4, hB4⟩ : ∃ x, x = wr.heap.size := ⟨_, rfl⟩
        rw [← hB4] at ho4 HLT
        clear hB4 HSH hx4 HOW HBB hbA hsz hbo
        go_wp2_with (fail)
        refine HTT.out.mono ?_
        rintro e w5 ⟨rfl, hw5⟩
        subst hw5
        clear HTT
        by_cases hz : isum (shareL left (wtL false fs out)) = 0
        · have he := HE0.out
          rw [if_pos hz, HE.out] at he
          have HFIN := Lib.hid he
          have hz' : (isum (shareL left (wtL false fs out)) == 0) = true := by simp [hz]
          clear he hz
          go_wp2
          go_ret
          exact ⟨rfl, by rw [HFIN.out]; exact hoO4, hbB4⟩
        · have he := HE0.out
          rw [if_neg hz, HE.out] at he
          have HFIN := Lib.hid he
          have hz' : (isum (shareL left (wtL false fs out)) == 0) = false := by simp [hz]
          have hsl := HSL2.out hz
          have HSLEN := Lib.hid hslen
          obtain ⟨G, hG⟩ : ∃ G : Nat, G + 1 = F := ⟨F - 1, by omega⟩
          obtain ⟨a4, cap4, e4, hn4, hc4, _⟩ := ho4.rd.ints
          subst e4
          unfold maxLen at hc4
          rw [hslen] at hn4 ho4 ⊢
          clear he hz hslen
          have HD := Lib.hid (show (stepO false fs out (shareL left (wtL false fs out))).length = out.length by rw [stepO_length, HOL.out])
          have HSTEP := Lib.hid (step_in HF.out hin.out hl0 (up := false))
          have HLEN := Lib.hid (show ((List.range fs.length).map (movI false fs out (shareL left (wtL false fs out)))).length = fs.length by simp)
          have HMB := Lib.hid fun k => movs_bound (up := false) HF.out hin.out hl0 k
          have HMT := Lib.hid (show isum ((List.range fs.length).map (movI false fs out (shareL left (wtL false fs out)))) = left - stepL false fs out (shareL left (wtL false fs out)) left by unfold stepL; omega)
          have HMP := Lib.hid fun i (hi : i < fs.length) => mov_pos (up := false) HF.out hin.out hl0 hi
          have HSL := Lib.hid hsl
          clear hsl
          go_wp2_with (fail)
          go_loopw [2, 10] (fun lf i wx => ∃ k : Nat, k ≤ fs.length ∧ i = .int .i64 k ∧ lf = .int .i64 (left - isum (((List.range fs.length).map (movI false fs out (shareL left (wtL false fs out)))).take k)) ∧
            Own wx B 1 (.slice ao fs.length co) (Is (mixL (stepO false fs out (shareL left (wtL false fs out))) out k)) ∧ Own wx B4 1 (.slice a4 fs.length cap4) (Is (shareL left (wtL false fs out))) ∧ Below B w wx) (fun _ i _ => fs.length - (intOf i).toNat)
          case atStart => exact ⟨0, Nat.zero_le _, rfl, by simp [isum], by rw [mixL_zero]; exact hoO4, ho4, hbB4⟩
          case round =>
            clear hoO4 ho4 hbB4
            obtain ⟨k, hk, rfl, rfl, hoO, hoS, hbB⟩ := hrel
            have hszB := hbB.size
            have hmk1 := HMB.out k
            rw [HMT.out] at hmk1
            have hsl := HSL.out
            by_cases hlt : k < fs.length
            · have hlti : (k : Int) < fs.length := by omega
              have hkw : IntKind.i64.wrap ((k : Int) + 1) = (k : Int) + 1 := by rw [IntKind.wrap_i64]; omega
              obtain ⟨f, hf⟩ : ∃ f, fs[k]? = some f := ⟨_, List.getElem?_eq_getElem hlt⟩
              have hfd : fx fs k = f := by unfold fx; rw [List.getD_eq_getElem?_getD, hf]; rfl
              obtain ⟨b, off, rfl, hbs, hC⟩ := HC.out k f hf
              obtain ⟨e0, e1, e2, e3, e4⟩ := ((hC k f hf).below hb (by omega)).below hbB (by omega)
              have hfo := HF.out f (List.mem_of_getElem? hf)
              unfold flOk at hfo
              obtain ⟨y, hy⟩ : ∃ y, (shareL left (wtL false fs out))[k]? = some y := ⟨_, List.getElem?_eq_getElem (by rw [HSLEN.out]; exact hlt)⟩
              have hyd : (shareL left (wtL false fs out)).getD k 0 = y := by rw [List.getD_eq_getElem?_getD, hy]; rfl
              obtain ⟨x, hx⟩ : ∃ x, out[k]? = some x := ⟨_, List.getElem?_eq_getElem (by rw [HOL.out]; exact hlt)⟩
              have hxd : out.getD k 0 = x := by rw [List.getD_eq_getElem?_getD, hx]; rfl
              have hxm : (mixL (stepO false fs out (shareL left (wtL false fs out))) out k)[k]? = some x := by
                rw [mixL_get HD.out (by rw [HD.out, HOL.out]; exact hk)]; exact hx
              have hsk : (stepO false fs out (shareL left (wtL false fs out)))[k]? = some (x - movI false fs out (shareL left (wtL false fs out)) k) := by
                unfold stepO
                rw [List.getElem?_map, List.getElem?_range hlt, ← hxd]
                rfl
              have hset := mixL_set HD.out hsk
              have hmv := (HMP.out k hlt).1
              have hxb := hbm.out x (List.mem_of_getElem? hx)
              have hyb := share_le hl0 (wt_pos HF.out) y (List.mem_of_getElem? hy)
              have hya := share_pos hl0 (wt_pos HF.out) y (List.mem_of_getElem? hy)
              have htk : isum (((List.range fs.length).map (movI false fs out (shareL left (wtL false fs out)))).take (k + 1)) = isum (((List.range fs.length).map (movI false fs out (shareL left (wtL false fs out)))).take k) + movI false fs out (shareL left (wtL false fs out)) k := isum_take (by simp [hlt])
              have HTK := Lib.hid htk
              have hmk2 := HMB.out (k + 1)
              rw [HMT.out, htk] at hmk2
              have hmov : movI false fs out (shareL left (wtL false fs out)) k = min y (x - f.min) := by unfold movI; rw [hyd, hxd, hfd]; rfl
              have hxc := hin.out.2 k hlt
              rw [hxd, hfd] at hxc
              obtain ⟨b4, o4, rfl, cy⟩ := hoS.rd.intAt hy
              have hxm' := Is_get hxm
              obtain ⟨b2, o2, n2, c2, e2', _, hbk, hB2, hbs2, hcell2, hfz2, hset2⟩ := hoO.cells (by
                intro h
                rw [h] at hxm'
                cases hxm')
              cases e2'
              have cx := hcell2 k _ hxm'
              have fx2 := hfz2 k
              have hb24 := (HLT.out b2 hbk).2
              have hst := hset2 k (.int .i64 (x - movI false fs out (shareL left (wtL false fs out)) k)) (List.getElem?_eq_some_iff.1 hxm').1
              rw [Is_set, hset] at hst
              have hoS2 := hoS.setOther (p := ⟨b2, o2 + k, none⟩) (fun e => by have := (hoS.lt _ e).1; dsimp only at this; omega) (.int .i64 (x - movI false fs out (shareL left (wtL false fs out)) k))
              have hbB2 := hbB.setCell (p := ⟨b2, o2 + k, none⟩) hB2 (.int .i64 (x - movI false fs out (shareL left (wtL false fs out)) k))
              have HST := Lib.hid (fun q => own_set_drewN hst q)
              have HO2 := Lib.hid (fun q => own_set_drewN hoS2 q)
              have HB2 := Lib.hid (fun q => below_set_drewN hbB2 q)
              have HMV := Lib.hid hmov
              clear hst hoS2 hbB2 hmov hset hset2 hsk hxm hxm' hxd hx hyd hy htk hoS hoO hfd hf hC hcell2 hfz2
              generalize movI false fs out (shareL left (wtL false fs out)) k = mv at *
              generalize hws : isum (((List.range fs.length).map (movI false fs out (shareL left (wtL false fs out)))).take k) = ms at *
              have HTK2 := Lib.hid (show left - ms - mv = left - isum (((List.range fs.length).map (movI false fs out (shareL left (wtL false fs out)))).take (k + 1)) by rw [HTK.out]; omega)
              clear HTK hws
              by_cases hmin : x - f.min < y
              · have hmf : mv = x - f.min := by have := HMV.out; omega
                subst hmf
                clear HMV
                go_wp2
                go_quiet (fail)
                go_wp2
                go_roundw
                case rel => exact ⟨k + 1, by omega, by go_num, by rw [HTK2.out], HST.out _, HO2.out _, HB2.out _⟩
                case measure => simp [intOf]; omega
              · obtain rfl : mv = y := by have := HMV.out; omega
                clear HMV
                go_wp2
                go_quiet (fail)
                go_wp2
                go_roundw
                case rel => exact ⟨k + 1, by omega, by go_num, by rw [HTK2.out], HST.out _, HO2.out _, HB2.out _⟩
                case measure => simp [intOf]; omega
            · obtain rfl : k = fs.length := by omega
              have e1 : mixL (stepO false fs out (shareL left (wtL false fs out))) out fs.length = stepO false fs out (shareL left (wtL false fs out)) := by
                have h := mixL_full HD.out
                rw [stepO_length] at h
                exact h
              have e2 : left - isum (((List.range fs.length).map (movI false fs out (shareL left (wtL false fs out)))).take fs.length) = stepL false fs out (shareL left (wtL false fs out)) left := by
                rw [List.take_of_length_le (by rw [HLEN.out]; exact Nat.le_refl _)]
                rfl
              have hkl2 : ¬ ((fs.length : Int) < fs.length) := by omega
              rw [e1] at hoO
              rw [e2]
              have HS2 := Lib.hid hsl
              clear e1 e2 hmk1 hoS HMB HMT HMP hsl
              generalize stepL false fs out (shareL left (wtL false fs out)) left = lf2 at *
              go_wp2_with (fail)
              go_roundw
              case rel =>
                have hsl := HS2.out
                subst hG
                exact ⟨G, _, _, rfl, by omega, by omega, by omega, hoO, hbB, HSTEP, Lib.hid HFIN.out.symm⟩
              case measure => have hsl := HS2.out; simp [intOf]; omega

set_option maxHeartbeats 1000000 in
theorem flex_any {v : Value} {fs : List Flx} {space : Int} (w : World) (hv : Rd w 5 v (Fs fs)) (hf : ∀ f, f ∈ fs → flOk f) (hn8 : fs.length ≤ 8) (hs : 0 ≤ space ∧ space ≤ 200000) :
    Calls Try.prog 112 #[v, .int .i64 space] w fun e w' => ∃ v', e = .returned v' ∧ Own w' w.heap.size 1 v' (Is (flexL fs space)) ∧ Ext w w' := by
  have hrd := hv
  obtain ⟨a, c, rfl, hn, hc, _⟩ := hv.flxs
  clear hv
  unfold maxLen at hc
  have hin0 := bas_in hf
  have hbm := inB2_mem hf hin0
  have hbl : (basL fs).length = fs.length := by simp [basL]
  have hsum0 := isum_pos _ fun x hx => (hbm x hx).1
  have hsum1 := isum_le _ 10000 fun x hx => (hbm x hx).2
  rw [hbl] at hsum1
  have HSM := Lib.hid (fun w' v' (h : Rd w' 1 v' (Is (basL fs))) => sum_any w' h (fun x hx => by have := hbm x hx; omega) (by rw [hbl]; omega))
  have HBA := Lib.hid (bases_any w hrd hn8)
  replace hsum1 : isum (basL fs) ≤ 80000 := by omega
  have HIN := Lib.hid hin0
  have HF := Lib.hid hf
  clear hbm hbl hin0 hf
  go_enter Try.func112, Try.ntmps112
  go_wp2_with (fail)
  refine HBA.out.mono ?_
  rintro e w2 ⟨v2, rfl, ho2, hx2⟩
  go_wp2_with (fail)
  refine (HSM.out _ _ ho2.rd).mono ?_
  rintro e w3 ⟨rfl, hw3⟩
  subst hw3
  by_cases hup : isum (basL fs) ≤ space
  · have hu : upB fs space = true := by unfold upB; simpa using hup
    have HL := Lib.hid (show flexL fs space = flexEnd true fs ((space - isum (basL fs)).toNat + 1) (basL fs) (space - isum (basL fs)) by unfold flexL left0; rw [hu, if_pos rfl])
    clear hu
    go_wp2_with (fail)
    refine (HSM.out _ _ ho2.rd).mono ?_
    rintro e w4 ⟨rfl, hw4⟩
    subst hw4
    have HG := Lib.hid (sgrow_any w _ hrd (Nat.le_refl _) hx2.size hx2 HF.out hn8 ho2 HIN.out (left0 := space - isum (basL fs)) (by omega) (by omega))
    go_wp2_with (fail)
    refine HG.out.mono ?_
    rintro e w5 ⟨rfl, ho5, hb5⟩
    go_wp2
    go_ret
    exact ⟨_, rfl, by rw [HL.out]; exact ho5, hx2.trans hb5⟩
  · have hu : upB fs space = false := by unfold upB; simpa using hup
    have HL := Lib.hid (show flexL fs space = flexEnd false fs ((isum (basL fs) - space).toNat + 1) (basL fs) (isum (basL fs) - space) by unfold flexL left0; rw [hu, if_neg (by simp)])
    clear hu
    go_wp2_with (fail)
    refine (HSM.out _ _ ho2.rd).mono ?_
    rintro e w4 ⟨rfl, hw4⟩
    subst hw4
    have HG := Lib.hid (sshrink_any w _ hrd (Nat.le_refl _) hx2.size hx2 HF.out hn8 ho2 HIN.out (left0 := isum (basL fs) - space) (by omega) (by omega))
    go_wp2_with (fail)
    refine HG.out.mono ?_
    rintro e w5 ⟨rfl, ho5, hb5⟩
    go_wp2
    go_ret
    exact ⟨_, rfl, by rw [HL.out]; exact ho5, hx2.trans hb5⟩
end Go.Proofs.Ytbkhbmcoococmaa
