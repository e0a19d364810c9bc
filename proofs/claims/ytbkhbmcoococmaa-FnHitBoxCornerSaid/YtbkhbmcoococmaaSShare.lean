/-
  A space split by weights: spec.share.
-/
import Derived.Test.YtbkhbmcoococmaaShare
namespace Go.Proofs.Ytbkhbmcoococmaa
open Go Go.RowKit

def rstTo (s : Int) (ws : List Int) (k : Nat) : List Int := (rsL (rst s ws) ws.length 0).take k ++ List.replicate (ws.length - k) 0
theorem rstTo_length {s : Int} {ws : List Int} {k : Nat} (hk : k ≤ ws.length) : (rstTo s ws k).length = ws.length := by
  unfold rstTo
  rw [List.length_append, List.length_take, rsL_length, List.length_replicate]
  omega
theorem rstTo_zero (s : Int) (ws : List Int) : rstTo s ws 0 = List.replicate ws.length 0 := by simp [rstTo]
theorem rstTo_full (s : Int) (ws : List Int) : rstTo s ws ws.length = rsL (rst s ws) ws.length 0 := by
  unfold rstTo
  rw [List.take_of_length_le (by rw [rsL_length]; exact Nat.le_refl _)]
  simp
theorem rstTo_set {s : Int} {ws : List Int} {k : Nat} (hk : k < ws.length) : (rstTo s ws k).set k (rst s ws k) = rstTo s ws (k + 1) := by
  have hl : ((rsL (rst s ws) ws.length 0).take k).length = k := by rw [List.length_take, rsL_length]; omega
  have e : (rsL (rst s ws) ws.length 0).take (k + 1) = (rsL (rst s ws) ws.length 0).take k ++ [rst s ws k] := by
    rw [List.take_add_one, rsL_get hk]
    simp [rstT]
  unfold rstTo
  rw [e, List.set_append, if_neg (by omega), hl, Nat.sub_self, show ws.length - k = (ws.length - (k + 1)) + 1 by omega, List.replicate_succ, List.set_cons_zero, List.append_assoc]
  rfl
theorem get_some {α : Type} {l : List α} {k : Nat} (hk : k < l.length) : ∃ x, l[k]? = some x := ⟨_, List.getElem?_eq_getElem hk⟩
theorem amax_lt (s : Nat → Int) (k : Nat) : amax s (k + 1) < k + 1 := by
  have := (amax_spec s k).1
  omega

set_option maxRecDepth 100000 in
set_option maxHeartbeats 2000000 in
theorem sshare_any {v : Value} {s : Int} {ws : List Int} (w : World) (hv : Rd w 1 v (Is ws)) (hs : 0 ≤ s ∧ s ≤ 1000000) (hw : ∀ x, x ∈ ws → 0 ≤ x ∧ x ≤ 1000000) (hl : ws.length ≤ 8) :
    Calls Try.prog 130 #[.int .i64 s, v] w fun e w' => ∃ v', e = .returned v' ∧ Own w' w.heap.size 1 v' (Is (shareL s ws)) ∧ Ext w w' := by
  have hrd := hv
  obtain ⟨a, c, rfl, hn, hc, hcell⟩ := hv.ints
  clear hv hcell
  unfold maxLen at hc
  have hmk := fun W => mk_run (P := Try.prog) el_int ws.length ws.length (Nat.le_refl _) (by omega) W
  have HW := Lib.hid hw
  have hpos := isum_pos ws fun x hx => (hw x hx).1
  have hle := isum_le ws 1000000 fun x hx => (hw x hx).2
  clear hw
  go_enter Try.func130, Try.ntmps130
  go_wp2_with (fail)
  obtain ⟨W, hW⟩ : ∃ W, (w.alloc (.cells (madeCells #[Value.int .i64 0] ws.length) 3)).alloc (.cells (madeCells #[Value.int .i64 0] ws.length) 3) = W := ⟨_, rfl⟩
  have hbw : Below w.heap.size w W := by
    rw [← hW]
    exact (Below.of_alloc _ _).alloc (by simp) _
  have hoO : Own W w.heap.size 1 (.slice (some ⟨w.heap.size, 0, none⟩) ws.length ws.length) (Is (List.replicate ws.length 0)) := by
    have h := (Own.madeInts1 w w.heap.size ws.length ws.length 3 (Nat.le_refl _) (Nat.le_refl _) (by omega)).alloc (.cells (madeCells #[Value.int .i64 0] ws.length) 3)
    rw [hW] at h
    exact h
  have hoR : Own W (w.heap.size + 1) 1 (.slice (some ⟨w.heap.size + 1, 0, none⟩) ws.length ws.length) (Is (List.replicate ws.length 0)) := by
    have h := Own.madeInts1 (w.alloc (.cells (madeCells #[Value.int .i64 0] ws.length) 3)) (w.heap.size + 1) ws.length ws.length 3 (by simp) (Nat.le_refl _) (by omega)
    rw [hW] at h
    simpa using h
  rw [hW]
  refine (sum_any (l := ws) _ (hrd.below hbw (Nat.le_refl _)) (fun x hx => by have := HW.out x hx; omega) (by omega)).mono ?_
  rintro e w1 ⟨rfl, hw1⟩
  subst hw1
  clear hW
  by_cases h0 : isum ws = 0
  · have h0' : (isum ws == 0) = true := by simp [h0]
    have HE : Hid (shareL s ws = List.replicate ws.length 0) := by show _ = _; unfold shareL; rw [if_pos h0]
    clear h0
    go_wp2
    go_ret
    exact ⟨_, rfl, by rw [HE.out]; exact hoO, hbw⟩
  · have h0' : (isum ws == 0) = false := by simp [h0]
    have hS : 0 < isum ws := by omega
    have HE : Hid (shareL s ws = shrT s ws (leftN s ws)) := by show _ = _; unfold shareL; rw [if_neg h0]
    have HB := Lib.hid (fun i hi => quo_bound hs.1 (fun x hx => (HW.out x hx).1) hS i hi)
    have hlf := left_le hs.1 hS
    have hlN : leftN s ws < ws.length := by unfold leftN; omega
    have HT : Hid (∀ k : Nat, 0 ≤ isum ((quoL s ws).take k) ∧ isum ((quoL s ws).take k) ≤ s) := fun k => by
      have h := isum_take_le (l := quoL s ws) (fun x hx => by
        obtain ⟨i, hi, rfl⟩ := List.mem_map.1 hx
        exact (HB.out i (List.mem_range.1 hi)).1) k
      omega
    clear h0
    go_wp2
    go_loopw [8, 9] (fun lf i wr => ∃ k : Nat, k ≤ ws.length ∧ i = .int .i64 k ∧ lf = .int .i64 (s - isum ((quoL s ws).take k)) ∧ Own wr w.heap.size 1 (.slice (some ⟨w.heap.size, 0, none⟩) ws.length ws.length) (Is (quoTo s ws k)) ∧
      Own wr (w.heap.size + 1) 1 (.slice (some ⟨w.heap.size + 1, 0, none⟩) ws.length ws.length) (Is (rstTo s ws k)) ∧ Below w.heap.size w wr) (fun _ i _ => ws.length - (intOf i).toNat)
    case atStart => exact ⟨0, Nat.zero_le _, rfl, by simp [isum], by rw [quoTo_zero]; exact hoO, by rw [rstTo_zero]; exact hoR, hbw⟩
    case round =>
      clear hoO hoR hbw
      obtain ⟨k, hk, rfl, rfl, hoO, hoR, hb⟩ := hrel
      by_cases hlt : k < ws.length
      · obtain ⟨y, hy⟩ := get_some hlt
        obtain ⟨b, off, rfl, ck⟩ := (hrd.below hb (Nat.le_refl _)).intAt hy
        have hbb : b < w.heap.size := by
          obtain ⟨b', off', e, hc'⟩ := hrd.intAt hy
          cases e
          exact World.block_lt_of_cell? _ _ hc'
        have hy0 := HW.out y (List.mem_of_getElem? hy)
        have px0 := Int.mul_nonneg hs.1 hy0.1
        have px1 : s * y ≤ 1000000 * 1000000 := Int.mul_le_mul hs.2 hy0.2 hy0.1 (by omega)
        have QY : quo s ws k = s * y / isum ws := by unfold quo; rw [List.getD_eq_getElem?_getD, hy]; rfl
        have RY : rst s ws k = s * y % isum ws := by unfold rst; rw [List.getD_eq_getElem?_getD, hy]; rfl
        obtain ⟨x1, hx1⟩ := get_some (l := quoTo s ws k) (k := k) (by rw [quoTo_length hk]; exact hlt)
        obtain ⟨x2, hx2⟩ := get_some (l := rstTo s ws k) (k := k) (by rw [rstTo_length hk]; exact hlt)
        obtain ⟨hbs, cu, f0, hset⟩ := hoO.setI hx1
        have s0 := hset (quo s ws k)
        rw [quoTo_set hlt] at s0
        have hoR2 := hoR.setOther (p := ⟨w.heap.size, k, none⟩) (fun e => by have := blk_out e; dsimp only at this; omega) (.int .i64 (quo s ws k))
        obtain ⟨hbs2, cu2, f2, hset2⟩ := hoR2.setI hx2
        have s2 := hset2 (rst s ws k)
        rw [rstTo_set hlt] at s2
        have s1 := s0.setOther (p := ⟨w.heap.size + 1, k, none⟩) (fun e => by have := blk_out e; dsimp only at this; omega) (.int .i64 (rst s ws k))
        have ck2 : (wr.setCell ⟨w.heap.size, k, none⟩ (.int .i64 (quo s ws k))).cell? ⟨b, off + k, none⟩ = some (.int .i64 y) := by
          rw [cell_setOther _ (by dsimp only; omega)]; exact ck
        have cu3 : ((wr.setCell ⟨w.heap.size, k, none⟩ (.int .i64 (quo s ws k))).setCell ⟨w.heap.size + 1, k, none⟩ (.int .i64 (rst s ws k))).cell? ⟨w.heap.size, k, none⟩ = some (.int .i64 (quo s ws k)) := by
          have h1 : (quoTo s ws (k + 1))[k]? = some (quo s ws k) := by
            rw [← quoTo_set hlt, List.getElem?_set_self (by rw [quoTo_length hk]; exact hlt)]
          exact (s1.setI h1).2.1
        have hb2 := (hb.setCell (p := ⟨w.heap.size, k, none⟩) (by simp) (.int .i64 (quo s ws k))).setCell (p := ⟨w.heap.size + 1, k, none⟩) (by simp) (.int .i64 (rst s ws k))
        have hq0 := HB.out k hlt
        have ht1 := HT.out k
        have ht2 := HT.out (k + 1)
        have e1 : isum ((quoL s ws).take (k + 1)) = isum ((quoL s ws).take k) + quo s ws k := isum_take (by simp [quoL, hlt])
        have E1 := Lib.hid e1
        rw [e1] at ht2
        have hlti : (k : Int) < ws.length := by omega
        clear hset hset2 hoO hoR s0 hoR2 e1 hy hx1 hx2
        rw [QY] at *
        rw [RY] at *
        clear QY RY
        go_wp2
        go_roundw
        case rel => exact ⟨k + 1, by omega, by go_num, by rw [E1.out]; congr 1; omega, s1, s2, hb2⟩
        case measure => simp [intOf]; omega
      · obtain rfl : k = ws.length := by omega
        have hfin : isum ((quoL s ws).take ws.length) = s - (leftN s ws : Int) := by
          rw [List.take_of_length_le (by rw [quoL_length]; exact Nat.le_refl _)]
          unfold leftN
          omega
        rw [quoTo_full] at hoO
        rw [rstTo_full] at hoR
        rw [hfin, show s - (s - (leftN s ws : Int)) = (leftN s ws : Int) by omega]
        clear hfin hk hlt hlf
        go_wp2
        go_loopw [8] (fun lf wr => ∃ t : Nat, t ≤ leftN s ws ∧ lf = .int .i64 ((leftN s ws : Int) - t) ∧ Own wr w.heap.size 1 (.slice (some ⟨w.heap.size, 0, none⟩) ws.length ws.length) (Is (shrT s ws t)) ∧
          Own wr (w.heap.size + 1) 1 (.slice (some ⟨w.heap.size + 1, 0, none⟩) ws.length ws.length) (Is (rsL (rst s ws) ws.length t)) ∧ Below w.heap.size w wr) (fun lf _ => (intOf lf).toNat)
        case atStart => exact ⟨0, Nat.zero_le _, by simp, by rw [shrT_zero]; exact hoO, hoR, hb⟩
        case round =>
          clear hoO hoR hb
          obtain ⟨t, ht, rfl, hoO, hoR, hb⟩ := hrel
          by_cases hlt : t < leftN s ws
          · have hlt' : (0 : Int) < (leftN s ws : Int) - t := by omega
            go_wp2
            go_loopw [10, 11] (fun at_ i wx => ∃ (k q : Nat), 1 ≤ k ∧ k ≤ ws.length ∧ i = .int .i64 k ∧ at_ = .int .i64 (amax (rstT (rst s ws) ws.length t) k : Nat) ∧ wx = wr.drewN q) (fun _ i _ => ws.length - (intOf i).toNat)
            case atStart => exact ⟨1, 0, Nat.le_refl _, by omega, rfl, rfl, rfl⟩
            case round =>
              obtain ⟨k, q, hk1, hkn, rfl, rfl, rfl⟩ := hrel
              have hoRq := own_drewN hoR q
              by_cases hkl : k < ws.length
              · obtain ⟨k, rfl⟩ : ∃ k', k = k' + 1 := ⟨k - 1, by omega⟩
                have ha := amax_lt (rstT (rst s ws) ws.length t) k
                have g1 := (hoRq.setI (rsL_get (r := rst s ws) (t := t) hkl)).2.1
                have g2 := (hoRq.setI (rsL_get (r := rst s ws) (t := t) (i := amax (rstT (rst s ws) ws.length t) (k + 1)) (by omega))).2.1
                have hi1 : (k : Int) + 1 < ws.length := by omega
                have hi2 : ((amax (rstT (rst s ws) ws.length t) (k + 1) : Nat) : Int) < ws.length := by omega
                have ek : ((k : Int) + 1).toNat = k + 1 := by omega
                have Hq : Hid (∀ n, ∃ q', (wr.drewN q).drewN n = wr.drewN q') := fun n => ⟨q + n, by rw [World.drewN_drewN]⟩
                clear hoRq
                generalize wr.drewN q = wq at *
                by_cases hc : rstT (rst s ws) ws.length t (amax (rstT (rst s ws) ws.length t) (k + 1)) < rstT (rst s ws) ws.length t (k + 1)
                · have EA : Hid (amax (rstT (rst s ws) ws.length t) (k + 1 + 1) = k + 1) := by show _ = _; rw [show amax (rstT (rst s ws) ws.length t) (k + 1 + 1) = if rstT (rst s ws) ws.length t (amax (rstT (rst s ws) ws.length t) (k + 1)) < rstT (rst s ws) ws.length t (k + 1) then k + 1 else amax (rstT (rst s ws) ws.length t) (k + 1) from rfl, if_pos hc]
                  generalize amax (rstT (rst s ws) ws.length t) (k + 1) = A at *
                  go_wp2
                  go_quiet (fail)
                  go_wp2
                  go_roundw
                  case rel =>
                    obtain ⟨q', hq'⟩ := Hq.out nq
                    exact ⟨k + 2, q', by omega, by omega, by go_num, by rw [EA.out], hq'⟩
                  case measure => simp [intOf]; omega
                · have EA : Hid (amax (rstT (rst s ws) ws.length t) (k + 1 + 1) = amax (rstT (rst s ws) ws.length t) (k + 1)) := by show _ = _; rw [show amax (rstT (rst s ws) ws.length t) (k + 1 + 1) = if rstT (rst s ws) ws.length t (amax (rstT (rst s ws) ws.length t) (k + 1)) < rstT (rst s ws) ws.length t (k + 1) then k + 1 else amax (rstT (rst s ws) ws.length t) (k + 1) from rfl, if_neg hc]
                  generalize amax (rstT (rst s ws) ws.length t) (k + 1) = A at *
                  go_wp2
                  go_quiet (fail)
                  go_wp2
                  go_roundw
                  case rel =>
                    obtain ⟨q', hq'⟩ := Hq.out nq
                    exact ⟨k + 2, q', by omega, by omega, by go_num, by rw [EA.out], hq'⟩
                  case measure => simp [intOf]; omega
              · obtain ⟨p, hp⟩ := get_some (l := ordR (rst s ws) ws.length) (k := t) (by rw [ordR_length]; omega)
                have hrp : ∀ j, j < ws.length → 0 ≤ rst s ws j := fun j _ => Int.emod_nonneg _ (by omega)
                have ea := amax_ord hrp hp
                have hpn : p < ws.length := ordR_mem.1 (List.mem_of_getElem? hp)
                obtain ⟨h1, h2⟩ := shrT_succ hp
                have h3 := rsL_succ hp
                have hq0 := HB.out p hpn
                obtain rfl : k = ws.length := by omega
                rw [ea]
                have hoOq := own_drewN hoO q
                have hbq := below_drewN hb q
                clear hoO hoR hb
                generalize wr.drewN q = wq at *
                obtain ⟨hbs, cu, f0, hset⟩ := hoOq.setI h1
                have s0 := hset (quo s ws p + 1)
                rw [h2] at s0
                have hoR2 := hoRq.setOther (p := ⟨w.heap.size, p, none⟩) (fun e => by have := blk_out e; dsimp only at this; omega) (.int .i64 (quo s ws p + 1))
                obtain ⟨hbs2, cu2, f2, hset2⟩ := hoR2.setI (rsL_get (r := rst s ws) (t := t) hpn)
                have s2 := hset2 (-1)
                rw [h3] at s2
                have s1 := s0.setOther (p := ⟨w.heap.size + 1, p, none⟩) (fun e => by have := blk_out e; dsimp only at this; omega) (.int .i64 (-1))
                have hb2 := (hbq.setCell (p := ⟨w.heap.size, p, none⟩) (by simp) (.int .i64 (quo s ws p + 1))).setCell (p := ⟨w.heap.size + 1, p, none⟩) (by simp) (.int .i64 (-1))
                have hpi : (p : Int) < ws.length := by omega
                clear hset hset2 hoRq hoOq s0 hoR2 h1 h2 h3 hp ea hrp hkl hkn
                go_wp2
                go_roundw
                case rel => exact ⟨t + 1, by omega, by congr 1; push_cast; omega, s1, s2, hb2⟩
                case measure => simp [intOf]; omega
          · obtain rfl : t = leftN s ws := by omega
            have hlt' : ¬ (0 : Int) < (leftN s ws : Int) - (leftN s ws : Nat) := by omega
            go_wp2
            go_ret
            exact ⟨_, rfl, by rw [HE.out]; exact hoO, hb⟩
end Go.Proofs.Ytbkhbmcoococmaa
