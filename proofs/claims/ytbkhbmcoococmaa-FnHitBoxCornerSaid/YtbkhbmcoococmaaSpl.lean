/-
  The boxes beyond the boxes around them: impl.Spilling.
-/
import Derived.Test.YtbkhbmcoococmaaLay
import Derived.Test.YtbkhbmcoococmaaAj
import Derived.Test.YtbkhbmcoococmaaAf
import Derived.Test.YtbkhbmcoococmaaAg
import Derived.Test.YtbkhbmcoococmaaAb
namespace Go.Proofs.Ytbkhbmcoococmaa
open Go Go.RowKit

theorem splL_t {l : List Bx} {sw sh : Int} (h : scrB l sw sh = true) : splL l sw sh = ni (spillTo l sw sh l.length) := by
  unfold splL
  rw [if_pos h]
theorem splL_f {l : List Bx} {sw sh : Int} (h : scrB l sw sh = false) : splL l sw sh = [] := by
  unfold splL
  rw [h]
  rfl
theorem spill_yes {l : List Bx} {sw sh : Int} {k : Nat} (h0 : 0 < k) (h : spillB l sw sh k = true) : spillTo l sw sh (k + 1) = spillTo l sw sh k ++ [k] := by
  rw [spillTo_succ, if_pos ⟨h0, h⟩]
theorem spill_no {l : List Bx} {sw sh : Int} {k : Nat} (h : spillB l sw sh k = false) : spillTo l sw sh (k + 1) = spillTo l sw sh k := by
  rw [spillTo_succ, if_neg (by rw [h]; simp)]
theorem spill_zero (l : List Bx) (sw sh : Int) : spillTo l sw sh (0 + 1) = spillTo l sw sh 0 := by
  rw [spillTo_succ, if_neg (by simp)]
theorem spill_par {l : List Bx} {sw sh : Int} {k p : Nat} (hp : (bx l k).parent = (p : Int)) : spillB l sw sh k = bynd (rect l sw sh k) (insetR (rect l sw sh p) (bx l p).pad) := by
  have h : par l k = (p : Int) := hp
  unfold spillB
  rw [h, Int.toNat_natCast]
set_option maxRecDepth 100000 in
set_option maxHeartbeats 20000000 in
theorem Spilling_any {v : Value} {l : List Bx} (sw sh : Int) (w : World) (hv : Rd w 9 v (Bs l)) :
    Calls Try.prog 41 #[v, .int .i64 sw, .int .i64 sh] w fun e w' => ∃ v', e = .returned v' ∧ Own w' w.heap.size 1 v' (Is (splL l sw sh)) ∧ Ext w w' := by
  have hrd := hv
  obtain ⟨a, c, rfl, hn, hc, _⟩ := hv.boxes
  unfold maxLen at hc
  clear hv
  go_enter Try.func41, Try.ntmps41
  cases hok : scrB l sw sh with
  | false =>
    have HO := Lib.hid (splL_f hok)
    go_wp2_with (fail)
    refine (screenOk_any (l := l) _ _ _ hrd).mono ?_
    rintro e w1 ⟨he, hx⟩
    rw [hok] at he
    subst he
    clear hok hrd
    go_wp2
    go_ret
    exact ⟨_, rfl, by rw [HO.out]; exact Own.nil _ _ _, hx⟩
  | true =>
    have HO := Lib.hid (splL_t hok)
    go_wp2_with (fail)
    refine (screenOk_any (l := l) _ _ _ hrd).mono ?_
    rintro e w1 ⟨he, hx⟩
    rw [hok] at he
    subst he
    replace hrd := hrd.below hx (Nat.le_refl _)
    obtain ⟨hval, hsw, hsh⟩ := scrB_iff.1 hok
    have hlo := hval.lo
    have hhi := hval.hi
    obtain ⟨bT, oT, rfl, hbT, _, _⟩ := bx_cells hrd hlo
    have HV := Lib.hid hval
    have HRS := Lib.hid (fun k (hk : k < l.length) => rect_ok HV.out hsw hsh hk)
    have HC := Lib.hid (layoutOf_any _ hrd hval hsw hsh)
    have hmk := fun W => mk_run0 (P := Try.prog) el_int l.length (by omega) W
    have hs1 := hx.size
    clear hok hval hsw hsh
    go_wp2_with (fail)
    refine HC.out.mono ?_
    rintro e w2 ⟨rfl, hM, hx2⟩
    replace hrd := hrd.below hx2 (Nat.le_refl _)
    have hb := after hx hx2 (Nat.le_refl _)
    have m1 := hM.c1
    obtain ⟨S, hS⟩ : ∃ S, w1.heap.size = S := ⟨_, rfl⟩
    rw [hS] at hM m1 hs1 ⊢
    have hMs := hM.lt
    clear hx hx2 hS HC hbT
    go_upto_region 5 with fail
    have ho := Own.madeInts1 w2 w2.heap.size 0 l.length 3 (Nat.le_refl _) (Nat.zero_le _) (by omega)
    have m1' : (w2.alloc (.cells (madeCells #[Value.int .i64 0] l.length) 3)).cell? ⟨S + 1, 1, none⟩ = some (.slice (some ⟨S, 0, none⟩) l.length l.length) := cell_below (Below.of_alloc _ _) m1
    have hb3 := Below.of_alloc w2 (.cells (madeCells #[Value.int .i64 0] l.length) 3)
    have HM2 := Lib.hid hM
    have HR2 := Lib.hid hrd
    have HB2 := Lib.hid hb
    have hbs := hb.size
    clear hmk m1 hM hrd hb
    generalize (w2.alloc (.cells (madeCells #[Value.int .i64 0] l.length) 3)) = W3 at *
    go_wp2_with (fail)
    clear m1'
    go_loopw [8, 28] (fun o i wr => ∃ k : Nat, i = .int .i64 k ∧ k ≤ l.length ∧ Own wr w2.heap.size 1 o (Is (ni (spillTo l sw sh k))) ∧ Below w2.heap.size w2 wr) (fun _ i _ => l.length - (intOf i).toNat)
    case atStart => exact ⟨0, rfl, Nat.zero_le _, ho, hb3⟩
    case round =>
      clear ho hb3
      obtain ⟨k, rfl, hk, ho, hb⟩ := hrel
      by_cases hlt : k < l.length
      · have hki : (k : Int) < l.length := by omega
        have hM := HM2.out.below hb
        have hrd := HR2.out.below hb (Nat.le_refl _)
        obtain ⟨c0, c1, c2, c3⟩ := hM.at (rectL_get (w := sw) (h := sh) hlt)
        have hrk := HRS.out k hlt
        have HPP := Lib.hid (fun p => spill_par (l := l) (sw := sw) (sh := sh) (k := k) (p := p))
        have HNO := Lib.hid (spill_no (l := l) (sw := sw) (sh := sh) (k := k))
        have HYES := Lib.hid (spill_yes (l := l) (sw := sw) (sh := sh) (k := k))
        obtain ⟨r, hr⟩ : ∃ r, rect l sw sh k = r := ⟨_, rfl⟩
        rw [hr] at c0 c1 c2 c3 hrk HPP
        clear hr
        have hrs := hrk.rs (by omega)
        go_upto_region 8 with fail
        have hK := Keep.new wr (.cells #[.int .i64 r.x, .int .i64 r.y, .int .i64 r.w, .int .i64 r.h] 39)
        replace hM := hM.below (Below.of_alloc wr (.cells #[.int .i64 r.x, .int .i64 r.y, .int .i64 r.w, .int .i64 r.h] 39))
        replace ho := ho.alloc (.cells #[.int .i64 r.x, .int .i64 r.y, .int .i64 r.w, .int .i64 r.h] 39)
        replace hb := hb.alloc hb.size (.cells #[.int .i64 r.x, .int .i64 r.y, .int .i64 r.w, .int .i64 r.h] 39)
        replace hrd := hrd.alloc (.cells #[.int .i64 r.x, .int .i64 r.y, .int .i64 r.w, .int .i64 r.h] 39)
        clear c0 c1 c2 c3 hrk
        generalize wr.alloc (.cells #[.int .i64 r.x, .int .i64 r.y, .int .i64 r.w, .int .i64 r.h] 39) = W1 at *
        obtain ⟨g, hg⟩ : ∃ g, wr.heap.size = g := ⟨_, rfl⟩
        rw [hg] at hK ⊢
        clear hg
        have hKX := Lib.hid (fun w9 (h : Below W1.heap.size W1 w9) => (show Keep g (.cells #[.int .i64 r.x, .int .i64 r.y, .int .i64 r.w, .int .i64 r.h] 39) w9 from (h.block _ hK.lt).trans hK))
        have hMX := Lib.hid (fun w9 (h : Below W1.heap.size W1 w9) => hM.below h)
        have hOX := Lib.hid (fun w9 (h : Below W1.heap.size W1 w9) => ho.below h (Nat.le_refl _))
        have hRX := Lib.hid (fun w9 (h : Below W1.heap.size W1 w9) => hrd.below h (Nat.le_refl _))
        have hBX := Lib.hid (fun w9 (h : Below W1.heap.size W1 w9) => hb.trans (h.mono hb.size))
        clear hK hM ho hrd hb
        by_cases hk0 : k = 0
        · have hd1 : decide (0 < k) = false := by simp; omega
          have hd2 : decide ((0 : Int) < (k : Int)) = false := by simp; omega
          have HZ : Hid (spillTo l sw sh (k + 1) = spillTo l sw sh k) := by
            show _ = _
            rw [hk0]
            exact spill_zero l sw sh
          clear hk0
          refine wp_region_held_drew (S := fun w' => Below W1.heap.size W1 w') (by kernel_rfl) (Below.refl _ _).drew (fun hS => ?_)
          change wpAnyH _ _ _ _ _ _ _ _ W1.drew
          generalize W1.drew = wd at *
          refine hTake (by kernel_rfl) (fun d _ _ _ _ h => by cases d <;> exact h) hS 0 (some 33) _ rfl (v := ?_) (by kernel_rfl) ?_ ?_
          rotate_left
          · intro _ _; go_simp; first | done | with_reducible rfl
          simp only [Act.put, List.setIfInBounds_toArray, List.set_cons_zero, List.set_cons_succ]
          refine hTake (by kernel_rfl) (fun d _ _ _ _ h => by cases d <;> exact h) hS 1 (some 34) _ rfl (v := ?_) (by kernel_rfl) ?_ ?_
          rotate_left
          · intro _ _; go_simp; first | done | with_reducible rfl
          simp only [Act.put, List.setIfInBounds_toArray, List.set_cons_zero, List.set_cons_succ]
          refine hTake (by kernel_rfl) (fun d _ _ _ _ h => by cases d <;> exact h) hS 2 (some 35) _ rfl (v := ?_) (by kernel_rfl) ?_ ?_
          rotate_left
          · intro _ _; go_simp; first | done | with_reducible rfl
          simp only [Act.put, List.setIfInBounds_toArray, List.set_cons_zero, List.set_cons_succ]
          refine hSkips (by kernel_rfl) (fun d _ _ _ _ h => by cases d <;> exact h) hS [3, 4, 5, 6, 7, 8, 9, 10, 11] [some 36, some 37, some 38, some 39, some 40, some 41, some 42, some 43, some 44] (by kernel_rfl) ?_
          simp only [putUndef, listAll, List.foldl_cons, List.foldl_nil, Act.put, List.setIfInBounds_toArray, List.set_cons_zero, List.set_cons_succ]
          refine hTake (by kernel_rfl) (fun d _ _ _ _ h => by cases d <;> exact h) hS 12 (some 45) _ rfl (v := ?_) (by kernel_rfl) ?_ ?_
          rotate_left
          · intro _ _; go_simp; first | done | with_reducible rfl
          simp only [Act.put, List.setIfInBounds_toArray, List.set_cons_zero, List.set_cons_succ]
          refine wpAnyH_done (by kernel_rfl) ?_ _
          have HS := Lib.hid hS
          clear hS
          go_wp2
          go_roundw
          case rel => exact ⟨k + 1, by go_num, by omega, by rw [HZ.out]; exact hOX.out _ HS.out, hBX.out _ HS.out⟩
          case measure => simp [intOf]; omega
        · have hd1 : decide (0 < k) = true := by simp; omega
          have hd2 : decide ((0 : Int) < (k : Int)) = true := by simp; omega
          obtain ⟨p, hp⟩ : ∃ p : Nat, (bx l k).parent = (p : Int) := ⟨(par l k).toNat, by
            have := HV.out.par k (by omega) hlt
            show par l k = _
            omega⟩
          have hpl : p < l.length := by
            have h1 := HV.out.par k (by omega) hlt
            have h2 : par l k = (p : Int) := hp
            omega
          have hpr := HRS.out p hpl
          have hpb := okB_bounds (HV.out.ok p hpl)
          have hin := inset_ok (r := rect l sw sh p) (e := (bx l p).pad) (by omega) (by obtain ⟨_, _, _, _, h5, h6, _, _⟩ := hpr; exact ⟨h5, h6⟩) (by obtain ⟨_, _, _, _, _, _, h7, h8⟩ := hpr; exact ⟨h7, h8⟩)
          have hqs : RS (insetR (rect l sw sh p) (bx l p).pad) := by
            obtain ⟨h1, h2, h3, h4, _⟩ := hpr
            exact ⟨by omega, by omega, by omega, by omega⟩
          have HIN := Lib.hid (fun W (h1 : LyM S W (.slice (some ⟨bT, oT, none⟩) l.length c) l.length (rectL l sw sh)) h2 => inner_any (l := l) (k := p) (r := rect l sw sh p) W h1 h2 rfl hpl (rectL_get hpl) (hpr.rs (by omega)) (by omega))
          have HSB := Lib.hid (HPP.out p hp)
          have HP := Lib.hid hp
          have hkp : 0 < k := by omega
          generalize insetR (rect l sw sh p) (bx l p).pad = q at *
          clear hk0 hp hin hpr hpb
          refine wp_region_held_drew (S := fun w' => Below W1.heap.size W1 w') (by kernel_rfl) (Below.refl _ _).drew (fun hS => ?_)
          change wpAnyH _ _ _ _ _ _ _ _ W1.drew
          generalize W1.drew = wd at *
          refine hTake (by kernel_rfl) (fun d _ _ _ _ h => by cases d <;> exact h) hS 0 (some 33) _ rfl (v := ?_) (by kernel_rfl) ?_ ?_
          rotate_left
          · intro _ _; go_simp; first | done | with_reducible rfl
          simp only [Act.put, List.setIfInBounds_toArray, List.set_cons_zero, List.set_cons_succ]
          refine hTake (by kernel_rfl) (fun d _ _ _ _ h => by cases d <;> exact h) hS 1 (some 34) _ rfl (v := ?_) (by kernel_rfl) ?_ ?_
          rotate_left
          · intro _ _; go_simp; first | done | with_reducible rfl
          simp only [Act.put, List.setIfInBounds_toArray, List.set_cons_zero, List.set_cons_succ]
          refine hTake (by kernel_rfl) (fun d _ _ _ _ h => by cases d <;> exact h) hS 2 (some 35) _ rfl (v := ?_) (by kernel_rfl) ?_ ?_
          rotate_left
          · intro _ _; go_simp; first | done | with_reducible rfl
          simp only [Act.put, List.setIfInBounds_toArray, List.set_cons_zero, List.set_cons_succ]
          refine hTake (by kernel_rfl) (fun d _ _ _ _ h => by cases d <;> exact h) hS 3 (some 36) _ rfl (v := ?_) (by kernel_rfl) ?_ ?_
          rotate_left
          · intro w9 hS9; have q0 := (hKX.out _ hS9).cell 0; have q1 := (hKX.out _ hS9).cell 1; have q2 := (hKX.out _ hS9).cell 2; have q3 := (hKX.out _ hS9).cell 3; go_simp; first | done | with_reducible rfl
          simp only [Act.put, List.setIfInBounds_toArray, List.set_cons_zero, List.set_cons_succ]
          refine hTake (by kernel_rfl) (fun d _ _ _ _ h => by cases d <;> exact h) hS 4 (some 37) _ rfl (v := ?_) (by kernel_rfl) ?_ ?_
          rotate_left
          · intro _ _; go_simp; first | done | with_reducible rfl
          simp only [Act.put, List.setIfInBounds_toArray, List.set_cons_zero, List.set_cons_succ]
          refine hTake (by kernel_rfl) (fun d _ _ _ _ h => by cases d <;> exact h) hS 5 (some 38) _ rfl (v := ?_) (by kernel_rfl) ?_ ?_
          rotate_left
          · intro _ _; go_simp; first | done | with_reducible rfl
          simp only [Act.put, List.setIfInBounds_toArray, List.set_cons_zero, List.set_cons_succ]
          refine hTake (by kernel_rfl) (fun d _ _ _ _ h => by cases d <;> exact h) hS 6 (some 39) _ rfl (v := ?_) (by kernel_rfl) ?_ ?_
          rotate_left
          · intro _ _; go_simp; first | done | with_reducible rfl
          simp only [Act.put, List.setIfInBounds_toArray, List.set_cons_zero, List.set_cons_succ]
          refine hTake (by kernel_rfl) (fun d _ _ _ _ h => by cases d <;> exact h) hS 7 (some 40) _ rfl (v := ?_) (by kernel_rfl) ?_ ?_
          rotate_left
          · intro _ _; go_simp; first | done | with_reducible rfl
          simp only [Act.put, List.setIfInBounds_toArray, List.set_cons_zero, List.set_cons_succ]
          refine hTake (by kernel_rfl) (fun d _ _ _ _ h => by cases d <;> exact h) hS 8 (some 41) _ rfl (v := ?_) (by kernel_rfl) ?_ ?_
          rotate_left
          · intro _ _; go_simp; first | done | with_reducible rfl
          simp only [Act.put, List.setIfInBounds_toArray, List.set_cons_zero, List.set_cons_succ]
          refine hTake (by kernel_rfl) (fun d _ _ _ _ h => by cases d <;> exact h) hS 9 (some 42) _ rfl (v := ?_) (by kernel_rfl) ?_ ?_
          rotate_left
          · intro w9 hS9; have qq := (cells_at hlt (hRX.out _ hS9)).c0; rw [HP.out] at qq; go_simp; first | done | with_reducible rfl
          simp only [Act.put, List.setIfInBounds_toArray, List.set_cons_zero, List.set_cons_succ]
          refine wpAnyH_ready (rs := [10]) (by kernel_rfl) (by simp) ?_
          refine AllReadyH.cons (o := _) rfl (fun K9 hK9 => ?_) AllReadyH.nil
          go_simp
          refine (HIN.out _ (hMX.out _ hS) (hRX.out _ hS)).mono ?_
          rintro e w7 ⟨rfl, hx7⟩
          unfold Rc.agg
          try go_wp2_with fail
          have hS7 := after hS hx7 (Nat.le_refl _)
          refine hK9.out _ _ hS7 (fun hS => ?_)
          clear hK9 K9
          try simp only [Act.put, List.setIfInBounds_toArray, List.set_cons_zero, List.set_cons_succ]
          clear hS7 hx7
          refine wpAnyH_ready (rs := [11]) (by kernel_rfl) (by simp) ?_
          refine AllReadyH.cons (o := _) rfl (fun K9 hK9 => ?_) AllReadyH.nil
          go_simp
          refine (beyond_any (r := r) (s := q) _ hrs hqs).mono ?_
          rintro e w8 ⟨rfl, hx8⟩
          try go_wp2_with fail
          have hS8 := after hS hx8 (Nat.le_refl _)
          refine hK9.out _ _ hS8 (fun hS => ?_)
          clear hK9 K9
          try simp only [Act.put, List.setIfInBounds_toArray, List.set_cons_zero, List.set_cons_succ]
          clear hS8 hx8
          refine hTake (by kernel_rfl) (fun d _ _ _ _ h => by cases d <;> exact h) hS 12 (some 45) _ rfl (v := ?_) (by kernel_rfl) ?_ ?_
          rotate_left
          · intro _ _; go_simp; first | done | with_reducible rfl
          simp only [Act.put, List.setIfInBounds_toArray, List.set_cons_zero, List.set_cons_succ]
          refine wpAnyH_done (by kernel_rfl) ?_ _
          rw [← HSB.out]
          have HS := Lib.hid hS
          clear hS
          cases hsb : spillB l sw sh k with
          | false =>
            have HZ := Lib.hid (HNO.out hsb)
            clear hsb
            go_wp2
            go_roundw
            case rel => exact ⟨k + 1, by go_num, by omega, by rw [HZ.out]; exact hOX.out _ HS.out, hBX.out _ HS.out⟩
            case measure => simp [intOf]; omega
          | true =>
            have HZ := Lib.hid (HYES.out hkp hsb)
            have ho8 := hOX.out _ HS.out
            have hB8 := hBX.out _ HS.out
            have hs8 := hB8.size
            clear hsb
            go_wp2_with (at_builtin; refine wpList_app rfl _ _ _ rfl el_int rfl (ho8.alloc _) rfl (Rd.oneAt _ _ (by simp)) (Is_one [(k : Int)]) ?hl ?hb ?hK)
            case hl => have := spillTo_length l sw sh k; rw [Is_length, ni_length]; simp; omega
            case hb => simp; omega
            intro v' w9 ho9 hg9 hf9
            have hb9 := below_app (hB8.alloc (by omega) _) (ho8.alloc _) hg9 (by simp; omega) (by omega)
            clear ho8 hB8 hg9 hf9
            go_wp2
            go_roundw
            case rel => exact ⟨k + 1, by go_num, by omega, by rw [HZ.out, ni_append, Is_append]; exact ho9, hb9⟩
            case measure => simp [intOf]; omega
      · obtain rfl : k = l.length := by omega
        obtain ⟨a7, c7, rfl, hn7, hc7, _⟩ := ho.rd.ints
        unfold maxLen at hc7
        have HCL := Lib.hid (ho.clip.weak hbs)
        have HBE := Lib.hid (HB2.out.trans (hb.mono hbs))
        have hspl := spillTo_length l sw sh l.length
        rw [← ni_length] at hspl
        clear ho hb
        go_wp2
        go_ret
        exact ⟨_, rfl, by rw [HO.out]; exact HCL.out, HBE.out⟩
end Go.Proofs.Ytbkhbmcoococmaa
