/-
  The boxes beyond the boxes around them: spec.Spilling.
-/
import Derived.Test.YtbkhbmcoococmaaAi
import Derived.Test.YtbkhbmcoococmaaAj
import Derived.Test.YtbkhbmcoococmaaAf
import Derived.Test.YtbkhbmcoococmaaSpl
namespace Go.Proofs.Ytbkhbmcoococmaa
open Go Go.RowKit

/-- the two boxes of memory of one round -/
structure TwoR (g h : Nat) (q r : Rc) (w : World) : Prop where
  q : Keep g (.cells #[.int .i64 q.x, .int .i64 q.y, .int .i64 q.w, .int .i64 q.h] 39) w
  r : Keep h (.cells #[.int .i64 r.x, .int .i64 r.y, .int .i64 r.w, .int .i64 r.h] 39) w
/-- the rectangle of memory that a store fills -/
theorem keep_rect {w : World} {g : Nat} {e : TypeId} {c : Array Value} (h : Keep g (.cells c e) w) (hc : c.size = 4) (a b d f : Value) :
    Keep g (.cells #[a, b, d, f] e) ((((w.setCell ⟨g, 0, none⟩ a).setCell ⟨g, 1, none⟩ b).setCell ⟨g, 2, none⟩ d).setCell ⟨g, 3, none⟩ f) := by
  have h4 := (((h.store 0 a).store 1 b).store 2 d).store 3 f
  obtain ⟨l⟩ := c
  match l, hc with
  | [c0, c1, c2, c3], _ => exact h4
set_option maxRecDepth 100000 in
set_option maxHeartbeats 40000000 in
theorem sSpilling_any {v : Value} {l : List Bx} (sw sh : Int) (w : World) (hv : Rd w 9 v (Bs l)) (hl : l.length ≤ 1048576) :
    Calls Try.prog 42 #[v, .int .i64 sw, .int .i64 sh] w fun e w' => ∃ v', e = .returned v' ∧ Own w' w.heap.size 1 v' (Is (splL l sw sh)) ∧ Ext w w' := by
  have hrd := hv.alloc (.cells #[] 3)
  have hb := Below.of_alloc w (.cells #[] 3)
  clear hv
  go_enter Try.func42, Try.ntmps42
  go_upto_region 2 with fail
  generalize w.alloc (.cells #[] 3) = W at *
  go_wp2_with (fail)
  refine (sLayoutTree_any (l := l) sw sh _ hrd hl).mono ?_
  rintro e w1 ⟨v1, rfl, hoL, hx⟩
  replace hb := after hb hx (Nat.le_refl _)
  replace hrd := hrd.below hx (Nat.le_refl _)
  have ho : Own w1 w1.heap.size 1 (.slice (some ⟨w.heap.size, 0, none⟩) 0 0) (Is (ni (spillTo l sw sh 1))) := Own.empty _ _ _ _
  have hr := hoL.rd
  clear hoL hx
  cases hok : scrB l sw sh with
  | false =>
    have HO := Lib.hid (splL_f hok)
    rw [rectsOr_f hok] at hr
    obtain ⟨a1, c1, rfl, hn1, hc1, _⟩ := hr.rects
    unfold maxLen at hc1
    rw [List.length_nil] at hn1 ⊢
    clear hok hr hrd ho
    go_wp2
    go_ret
    exact ⟨_, rfl, by rw [HO.out]; exact Own.nil _ _ _, hb⟩
  | true =>
    have HO := Lib.hid (splL_t hok)
    rw [rectsOr_t hok] at hr
    obtain ⟨hval, hsw, hsh⟩ := scrB_iff.1 hok
    have hlo := hval.lo
    have hhi := hval.hi
    obtain ⟨bO, oO, cO, rfl, hnO, hcO, hRC⟩ := rectS hr hlo
    obtain ⟨bT, oT, c, rfl, hnT, hcT⟩ := rd_addr hlo hrd
    have hz : ((l.length : Int) == 0) = false := beq_eq_false_iff_ne.2 (by omega)
    have HV := Lib.hid hval
    have HRS := Lib.hid (fun k (hk : k < l.length) => rect_ok HV.out hsw hsh hk)
    have HP0 := Lib.hid (spill_zero l sw sh)
    clear hok hsw hsh hval hr
    go_wp2
    go_loopw [7, 9] (fun o i wr => ∃ k : Nat, i = .int .i64 k ∧ 1 ≤ k ∧ k ≤ l.length ∧ Own wr w1.heap.size 1 o (Is (ni (spillTo l sw sh k))) ∧ Below w1.heap.size w1 wr) (fun _ i _ => l.length - (intOf i).toNat)
    case atStart => exact ⟨1, rfl, by omega, by omega, ho, Below.refl _ _⟩
    case round =>
      clear ho
      obtain ⟨k, rfl, hk1, hk, ho, hb1⟩ := hrel
      by_cases hlt : k < l.length
      · have hki : (k : Int) < l.length := by omega
        have hki0 : (0 : Int) ≤ (k : Int) := by omega
        have hrdk := hrd.below hb1 (Nat.le_refl _)
        have hRCk := hRC.below hb1 (Nat.le_refl _)
        have hHPAR := HV.out.par k hk1 hlt
        obtain ⟨p, hp⟩ : ∃ p : Nat, (bx l k).parent = (p : Int) := ⟨(par l k).toNat, by
          show par l k = _
          omega⟩
        have hpl : p < l.length := by
          have h2 : par l k = (p : Int) := hp
          omega
        have hpi : (p : Int) < l.length := by omega
        have hp0 : (0 : Int) ≤ (p : Int) := by omega
        have cp : wr.cell? ⟨bT, oT + k * 9, none⟩ = some (.int .i64 (p : Int)) := by
          rw [← hp]
          exact (cells_at hlt hrdk).c0
        have hpr := HRS.out p hpl
        have hpb := okB_bounds (HV.out.ok p hpl)
        have hrk := HRS.out k hlt
        have hin := inset_ok (r := rect l sw sh p) (e := (bx l p).pad) (by omega) (by obtain ⟨_, _, _, _, h5, h6, _, _⟩ := hpr; exact ⟨h5, h6⟩) (by obtain ⟨_, _, _, _, _, _, h7, h8⟩ := hpr; exact ⟨h7, h8⟩)
        have hqs : RS (insetR (rect l sw sh p) (bx l p).pad) := by
          obtain ⟨h1, h2, h3, h4, _⟩ := hpr
          exact ⟨by omega, by omega, by omega, by omega⟩
        have hps := hpr.rs (by omega)
        have HSB := Lib.hid (spill_par (l := l) (sw := sw) (sh := sh) (k := k) (p := p) hp)
        have HNO := Lib.hid (fun (h : bynd (rect l sw sh k) (insetR (rect l sw sh p) (bx l p).pad) = false) => spill_no (l := l) (sw := sw) (sh := sh) (k := k) (HSB.out.trans h))
        have HYES := Lib.hid (fun (h : bynd (rect l sw sh k) (insetR (rect l sw sh p) (bx l p).pad) = true) => spill_yes (l := l) (sw := sw) (sh := sh) (k := k) hk1 (HSB.out.trans h))
        have HIN := Lib.hid (fun W => sinset_any (r := rect l sw sh p) (e := (bx l p).pad) W hps (by omega))
        have hpc := (cells_at hpl hrdk).c4
        have hqc := hRCk.cs p hpl
        have hrc := hRCk.cs k hlt
        have hrb := hRCk.lt
        generalize insetR (rect l sw sh p) (bx l p).pad = q at *
        generalize rect l sw sh k = r at *
        generalize rect l sw sh p = s at *
        have HQC := Lib.hid (fun w9 (h : Below wr.heap.size wr w9) => hqc.below h hrb)
        have HRC9 := Lib.hid (fun w9 (h : Below wr.heap.size wr w9) => hrc.below h hrb)
        clear hHPAR hp hrdk hRCk hpr hpb hin HSB hps hqc hrc
        go_upto_region 9 with fail
        refine wp_region_held_drew (S := fun w' => Below wr.heap.size wr w') (by kernel_rfl) (Below.refl _ _).drew (fun hS => ?_)
        change wpAnyH _ _ _ _ _ _ _ _ wr.drew
        generalize wr.drew = wd at *
        refine hTake (by kernel_rfl) (fun d _ _ _ _ h => by cases d <;> exact h) hS 0 (some 32) _ rfl (v := ?_) (by kernel_rfl) ?_ ?_
        rotate_left
        · intro _ _; go_simp; first | done | with_reducible rfl
        simp only [Act.put, List.setIfInBounds_toArray, List.set_cons_zero, List.set_cons_succ]
        refine hTake (by kernel_rfl) (fun d _ _ _ _ h => by cases d <;> exact h) hS 1 (some 33) _ rfl (v := ?_) (by kernel_rfl) ?_ ?_
        rotate_left
        · intro _ _; go_simp; first | done | with_reducible rfl
        simp only [Act.put, List.setIfInBounds_toArray, List.set_cons_zero, List.set_cons_succ]
        refine hTake (by kernel_rfl) (fun d _ _ _ _ h => by cases d <;> exact h) hS 2 (some 34) _ rfl (v := ?_) (by kernel_rfl) ?_ ?_
        rotate_left
        · intro _ _; go_simp; first | done | with_reducible rfl
        simp only [Act.put, List.setIfInBounds_toArray, List.set_cons_zero, List.set_cons_succ]
        refine hTake (by kernel_rfl) (fun d _ _ _ _ h => by cases d <;> exact h) hS 3 (some 35) _ rfl (v := ?_) (by kernel_rfl) ?_ ?_
        rotate_left
        · intro w9 hS9; obtain ⟨q0, q1, q2, q3⟩ := HQC.out _ hS9; go_simp; first | done | with_reducible rfl
        simp only [Act.put, List.setIfInBounds_toArray, List.set_cons_zero, List.set_cons_succ]
        refine hTake (by kernel_rfl) (fun d _ _ _ _ h => by cases d <;> exact h) hS 4 (some 36) _ rfl (v := ?_) (by kernel_rfl) ?_ ?_
        rotate_left
        · intro _ _; go_simp; first | done | with_reducible rfl
        simp only [Act.put, List.setIfInBounds_toArray, List.set_cons_zero, List.set_cons_succ]
        refine hTake (by kernel_rfl) (fun d _ _ _ _ h => by cases d <;> exact h) hS 5 (some 37) _ rfl (v := ?_) (by kernel_rfl) ?_ ?_
        rotate_left
        · intro _ _; go_simp; first | done | with_reducible rfl
        simp only [Act.put, List.setIfInBounds_toArray, List.set_cons_zero, List.set_cons_succ]
        refine hTake (by kernel_rfl) (fun d _ _ _ _ h => by cases d <;> exact h) hS 6 (some 38) _ rfl (v := ?_) (by kernel_rfl) ?_ ?_
        rotate_left
        · intro _ _; go_simp; first | done | with_reducible rfl
        simp only [Act.put, List.setIfInBounds_toArray, List.set_cons_zero, List.set_cons_succ]
        refine hTake (by kernel_rfl) (fun d _ _ _ _ h => by cases d <;> exact h) hS 7 (some 39) _ rfl (v := ?_) (by kernel_rfl) ?_ ?_
        rotate_left
        · intro _ _; go_simp; first | done | with_reducible rfl
        simp only [Act.put, List.setIfInBounds_toArray, List.set_cons_zero, List.set_cons_succ]
        refine hTake (by kernel_rfl) (fun d _ _ _ _ h => by cases d <;> exact h) hS 8 (some 40) _ rfl (v := ?_) (by kernel_rfl) ?_ ?_
        rotate_left
        · intro w9 hS9; have q := cell_below hS9 hpc; go_simp; first | done | with_reducible rfl
        simp only [Act.put, List.setIfInBounds_toArray, List.set_cons_zero, List.set_cons_succ]
        refine wpAnyH_ready (rs := [9, 10]) (by kernel_rfl) (by simp) ?_
        refine AllReadyH.cons (o := _) rfl (fun K9 hK9 => ?_) (AllReadyH.cons (o := _) rfl (fun K9 hK9 => ?_) AllReadyH.nil)
        · go_simp
          refine ((HIN.out _)).mono ?_
          rintro e w7 ⟨rfl, hx7⟩
          unfold Rc.agg
          try go_wp2_with fail
          refine hK9.out _ _ (after hS hx7 (Nat.le_refl _)) (fun hS => ?_)
          clear hK9 K9
          try simp only [Act.put, List.setIfInBounds_toArray, List.set_cons_zero, List.set_cons_succ]
          clear hx7
          refine wpAnyH_ready (rs := [10]) (by kernel_rfl) (by simp) ?_
          refine AllReadyH.cons (o := _) rfl (fun K9 hK9 => ?_) AllReadyH.nil
          go_simp
          have hS0 := hS
          refine hK9.out _ _ (hS.alloc hS.size _) (fun hS => ?_)
          clear hK9 K9
          try simp only [Act.put, List.setIfInBounds_toArray, List.set_cons_zero, List.set_cons_succ]
          clear hS
          refine wpAnyH_ready (rs := [11]) (by kernel_rfl) (by simp) ?_
          refine AllReadyH.cons (o := _) rfl (fun K9 hK9 => ?_) AllReadyH.nil
          go_simp
          refine hK9.out _ _ (hS0.alloc hS0.size _) (fun hS => ?_)
          clear hK9 K9
          try simp only [Act.put, List.setIfInBounds_toArray, List.set_cons_zero, List.set_cons_succ]
          refine wpAnyH_done (by kernel_rfl) ?_ _
          have kQ := Keep.new w7 (.cells #[.int .i64 q.x, .int .i64 q.y, .int .i64 q.w, .int .i64 q.h] 39)
          clear hS0
          generalize w7.alloc (.cells #[.int .i64 q.x, .int .i64 q.y, .int .i64 q.w, .int .i64 q.h] 39) = W7 at *
          generalize w7.heap.size = gQ at *
          obtain ⟨r0, r1, r2, r3⟩ := HRC9.out _ hS
          have ho5 := ho.below hS (Nat.le_refl _)
          have hb5 := after hb1 hS (Nat.le_refl _)
          clear ho hb1 hpc cp hS HQC HRC9 HIN
          go_upto_region 11 with fail
          have kR := Keep.new W7 (.cells #[.int .i64 r.x, .int .i64 r.y, .int .i64 r.w, .int .i64 r.h] 39)
          replace kQ := kQ.alloc (.cells #[.int .i64 r.x, .int .i64 r.y, .int .i64 r.w, .int .i64 r.h] 39)
          replace ho5 := ho5.alloc (.cells #[.int .i64 r.x, .int .i64 r.y, .int .i64 r.w, .int .i64 r.h] 39)
          replace hb5 := hb5.alloc hb5.size (.cells #[.int .i64 r.x, .int .i64 r.y, .int .i64 r.w, .int .i64 r.h] 39)
          clear r0 r1 r2 r3
          generalize W7.alloc (.cells #[.int .i64 r.x, .int .i64 r.y, .int .i64 r.w, .int .i64 r.h] 39) = W8 at *
          generalize W7.heap.size = gR at *
          have d0 : W8.cell? ⟨gR, 0, none⟩ = some (.int .i64 r.x) := kR.cell 0
          have d1 : W8.cell? ⟨gR, 1, none⟩ = some (.int .i64 r.y) := kR.cell 1
          have d2 : W8.cell? ⟨gR, 2, none⟩ = some (.int .i64 r.w) := kR.cell 2
          have d3 : W8.cell? ⟨gR, 3, none⟩ = some (.int .i64 r.h) := kR.cell 3
          have e0 : W8.cell? ⟨gQ, 0, none⟩ = some (.int .i64 q.x) := kQ.cell 0
          have e1 : W8.cell? ⟨gQ, 1, none⟩ = some (.int .i64 q.y) := kQ.cell 1
          have e2 : W8.cell? ⟨gQ, 2, none⟩ = some (.int .i64 q.w) := kQ.cell 2
          have e3 : W8.cell? ⟨gQ, 3, none⟩ = some (.int .i64 q.h) := kQ.cell 3
          clear kR kQ
          obtain ⟨a1, a2, a3, a4⟩ := hrk.rs (show (100000 : Int) ≤ 1000000 by omega)
          obtain ⟨b1, b2, b3, b4⟩ := hqs
          have hw1 : IntKind.i64.wrap (r.x + r.w) = r.x + r.w := by rw [IntKind.wrap_i64]; omega
          have hw2 : IntKind.i64.wrap (r.y + r.h) = r.y + r.h := by rw [IntKind.wrap_i64]; omega
          have hw3 : IntKind.i64.wrap (q.x + q.w) = q.x + q.w := by rw [IntKind.wrap_i64]; omega
          have hw4 : IntKind.i64.wrap (q.y + q.h) = q.y + q.h := by rw [IntKind.wrap_i64]; omega
          clear a1 a2 a3 a4 b1 b2 b3 b4 hrk
          by_cases n1 : r.x < q.x
          · 
              have HZ := Lib.hid (HYES.out (show bynd r q = true by (unfold bynd; simp [n1])))
              have HO5 := Lib.hid ho5
              have HB5 := Lib.hid hb5
              clear hb5
              have hs8 := HB5.out.size
              go_upto_region 12 with fail
              clear d0 d1 d2 d3 e0 e1 e2 e3
              go_wp2_with (at_builtin; refine wpList_app rfl _ _ _ rfl el_int rfl (HO5.out.alloc _) rfl (Rd.oneAt _ _ (by simp)) (Is_one [(k : Int)]) ?hl1a ?hb1a ?hK1a)
              case hl1a => have := spillTo_length l sw sh k; rw [Is_length, ni_length]; simp; omega
              case hb1a => first | omega | (simp; omega)
              intro v' w9 ho9 hg9 hf9
              have hb9 := below_app (HB5.out.alloc (by omega) _) (HO5.out.alloc _) hg9 (by simp; omega) (by omega)
              clear ho5 hg9 hf9
              go_wp2
              go_roundw
              case rel => exact ⟨k + 1, by go_num, by omega, by omega, by rw [HZ.out, ni_append, Is_append]; exact ho9, hb9⟩
              case measure => simp [intOf]; omega
          · by_cases n2 : r.y < q.y
            · 
                have HZ := Lib.hid (HYES.out (show bynd r q = true by (unfold bynd; simp [n2])))
                have HO5 := Lib.hid ho5
                have HB5 := Lib.hid hb5
                clear hb5
                have hs8 := HB5.out.size
                go_upto_region 12 with fail
                clear d0 d1 d2 d3 e0 e1 e2 e3
                go_wp2_with (at_builtin; refine wpList_app rfl _ _ _ rfl el_int rfl (HO5.out.alloc _) rfl (Rd.oneAt _ _ (by simp)) (Is_one [(k : Int)]) ?hl2a ?hb2a ?hK2a)
                case hl2a => have := spillTo_length l sw sh k; rw [Is_length, ni_length]; simp; omega
                case hb2a => first | omega | (simp; omega)
                intro v' w9 ho9 hg9 hf9
                have hb9 := below_app (HB5.out.alloc (by omega) _) (HO5.out.alloc _) hg9 (by simp; omega) (by omega)
                clear ho5 hg9 hf9
                go_wp2
                go_roundw
                case rel => exact ⟨k + 1, by go_num, by omega, by omega, by rw [HZ.out, ni_append, Is_append]; exact ho9, hb9⟩
                case measure => simp [intOf]; omega
            · by_cases n3 : q.x + q.w < r.x + r.w
              · 
                  have HZ := Lib.hid (HYES.out (show bynd r q = true by (unfold bynd; simp [n3])))
                  have HO5 := Lib.hid ho5
                  have HB5 := Lib.hid hb5
                  clear hb5
                  have hs8 := HB5.out.size
                  go_upto_region 12 with fail
                  clear d0 d1 d2 d3 e0 e1 e2 e3
                  go_wp2_with (at_builtin; refine wpList_app rfl _ _ _ rfl el_int rfl (HO5.out.alloc _) rfl (Rd.oneAt _ _ (by simp)) (Is_one [(k : Int)]) ?hl3a ?hb3a ?hK3a)
                  case hl3a => have := spillTo_length l sw sh k; rw [Is_length, ni_length]; simp; omega
                  case hb3a => first | omega | (simp; omega)
                  intro v' w9 ho9 hg9 hf9
                  have hb9 := below_app (HB5.out.alloc (by omega) _) (HO5.out.alloc _) hg9 (by simp; omega) (by omega)
                  clear ho5 hg9 hf9
                  go_wp2
                  go_roundw
                  case rel => exact ⟨k + 1, by go_num, by omega, by omega, by rw [HZ.out, ni_append, Is_append]; exact ho9, hb9⟩
                  case measure => simp [intOf]; omega
              · by_cases n4 : q.y + q.h < r.y + r.h
                · 
                    have HZ := Lib.hid (HYES.out (show bynd r q = true by (unfold bynd; simp [n4])))
                    have HO5 := Lib.hid ho5
                    have HB5 := Lib.hid hb5
                    clear hb5
                    have hs8 := HB5.out.size
                    go_upto_region 12 with fail
                    clear d0 d1 d2 d3 e0 e1 e2 e3
                    go_wp2_with (at_builtin; refine wpList_app rfl _ _ _ rfl el_int rfl (HO5.out.alloc _) rfl (Rd.oneAt _ _ (by simp)) (Is_one [(k : Int)]) ?hl4a ?hb4a ?hK4a)
                    case hl4a => have := spillTo_length l sw sh k; rw [Is_length, ni_length]; simp; omega
                    case hb4a => first | omega | (simp; omega)
                    intro v' w9 ho9 hg9 hf9
                    have hb9 := below_app (HB5.out.alloc (by omega) _) (HO5.out.alloc _) hg9 (by simp; omega) (by omega)
                    clear ho5 hg9 hf9
                    go_wp2
                    go_roundw
                    case rel => exact ⟨k + 1, by go_num, by omega, by omega, by rw [HZ.out, ni_append, Is_append]; exact ho9, hb9⟩
                    case measure => simp [intOf]; omega
                · 
                    have HZ := Lib.hid (HNO.out (show bynd r q = false by (unfold bynd; simp [n1,n2,n3,n4])))
                    go_wp2
                    go_roundw
                    case rel => exact ⟨k + 1, by go_num, by omega, by omega, by rw [HZ.out]; exact ho5, hb5⟩
                    case measure => simp [intOf]; omega
        · go_simp
          have kZ := Keep.new wd (.cells #[.int .i64 0, .int .i64 0, .int .i64 0, .int .i64 0] 39)
          have hgw := hS.size
          refine hK9.out _ _ (hS.alloc hS.size _) (fun hS => ?_)
          clear hK9 K9
          try simp only [Act.put, List.setIfInBounds_toArray, List.set_cons_zero, List.set_cons_succ]
          generalize wd.alloc (.cells #[.int .i64 0, .int .i64 0, .int .i64 0, .int .i64 0] 39) = we at *
          generalize wd.heap.size = gQ at *
          refine wpAnyH_ready (rs := [9]) (by kernel_rfl) (by simp) ?_
          refine AllReadyH.cons (o := _) rfl (fun K9 hK9 => ?_) AllReadyH.nil
          go_simp
          refine ((HIN.out _)).mono ?_
          rintro e w7 ⟨rfl, hx7⟩
          unfold Rc.agg
          try go_wp2_with fail
          replace kZ := keepE kZ hx7
          refine hK9.out _ _ (after hS hx7 (Nat.le_refl _)) (fun hS => ?_)
          clear hK9 K9
          try simp only [Act.put, List.setIfInBounds_toArray, List.set_cons_zero, List.set_cons_succ]
          clear hx7
          have z0 := kZ.cell 0
          have z1 := kZ.cell 1
          have z2 := kZ.cell 2
          have z3 := kZ.cell 3
          have f0 := kZ.frozen 0
          have f1 := kZ.frozen 1
          have f2 := kZ.frozen 2
          have f3 := kZ.frozen 3
          have kQ := keep_rect kZ rfl (.int .i64 q.x) (.int .i64 q.y) (.int .i64 q.w) (.int .i64 q.h)
          refine wpAnyH_ready (rs := [11]) (by kernel_rfl) (by simp) ?_
          refine AllReadyH.cons (o := _) rfl (fun K9 hK9 => ?_) AllReadyH.nil
          go_simp
          refine hK9.out _ _ (below_set4' hS hgw _ _ _ _) (fun hS => ?_)
          clear hK9 K9
          try simp only [Act.put, List.setIfInBounds_toArray, List.set_cons_zero, List.set_cons_succ]
          clear z0 z1 z2 z3 f0 f1 f2 f3 kZ hgw
          generalize (((w7.setCell ⟨gQ, 0, none⟩ (.int .i64 q.x)).setCell ⟨gQ, 1, none⟩ (.int .i64 q.y)).setCell ⟨gQ, 2, none⟩ (.int .i64 q.w)).setCell ⟨gQ, 3, none⟩ (.int .i64 q.h) = W7 at *
          refine wpAnyH_done (by kernel_rfl) ?_ _
          obtain ⟨r0, r1, r2, r3⟩ := HRC9.out _ hS
          have ho5 := ho.below hS (Nat.le_refl _)
          have hb5 := after hb1 hS (Nat.le_refl _)
          clear ho hb1 hpc cp hS HQC HRC9 HIN
          go_upto_region 11 with fail
          have kR := Keep.new W7 (.cells #[.int .i64 r.x, .int .i64 r.y, .int .i64 r.w, .int .i64 r.h] 39)
          replace kQ := kQ.alloc (.cells #[.int .i64 r.x, .int .i64 r.y, .int .i64 r.w, .int .i64 r.h] 39)
          replace ho5 := ho5.alloc (.cells #[.int .i64 r.x, .int .i64 r.y, .int .i64 r.w, .int .i64 r.h] 39)
          replace hb5 := hb5.alloc hb5.size (.cells #[.int .i64 r.x, .int .i64 r.y, .int .i64 r.w, .int .i64 r.h] 39)
          clear r0 r1 r2 r3
          generalize W7.alloc (.cells #[.int .i64 r.x, .int .i64 r.y, .int .i64 r.w, .int .i64 r.h] 39) = W8 at *
          generalize W7.heap.size = gR at *
          have d0 : W8.cell? ⟨gR, 0, none⟩ = some (.int .i64 r.x) := kR.cell 0
          have d1 : W8.cell? ⟨gR, 1, none⟩ = some (.int .i64 r.y) := kR.cell 1
          have d2 : W8.cell? ⟨gR, 2, none⟩ = some (.int .i64 r.w) := kR.cell 2
          have d3 : W8.cell? ⟨gR, 3, none⟩ = some (.int .i64 r.h) := kR.cell 3
          have e0 : W8.cell? ⟨gQ, 0, none⟩ = some (.int .i64 q.x) := kQ.cell 0
          have e1 : W8.cell? ⟨gQ, 1, none⟩ = some (.int .i64 q.y) := kQ.cell 1
          have e2 : W8.cell? ⟨gQ, 2, none⟩ = some (.int .i64 q.w) := kQ.cell 2
          have e3 : W8.cell? ⟨gQ, 3, none⟩ = some (.int .i64 q.h) := kQ.cell 3
          clear kR kQ
          obtain ⟨a1, a2, a3, a4⟩ := hrk.rs (show (100000 : Int) ≤ 1000000 by omega)
          obtain ⟨b1, b2, b3, b4⟩ := hqs
          have hw1 : IntKind.i64.wrap (r.x + r.w) = r.x + r.w := by rw [IntKind.wrap_i64]; omega
          have hw2 : IntKind.i64.wrap (r.y + r.h) = r.y + r.h := by rw [IntKind.wrap_i64]; omega
          have hw3 : IntKind.i64.wrap (q.x + q.w) = q.x + q.w := by rw [IntKind.wrap_i64]; omega
          have hw4 : IntKind.i64.wrap (q.y + q.h) = q.y + q.h := by rw [IntKind.wrap_i64]; omega
          clear a1 a2 a3 a4 b1 b2 b3 b4 hrk
          by_cases n1 : r.x < q.x
          · 
              have HZ := Lib.hid (HYES.out (show bynd r q = true by (unfold bynd; simp [n1])))
              have HO5 := Lib.hid ho5
              have HB5 := Lib.hid hb5
              clear hb5
              have hs8 := HB5.out.size
              go_upto_region 12 with fail
              clear d0 d1 d2 d3 e0 e1 e2 e3
              go_wp2_with (at_builtin; refine wpList_app rfl _ _ _ rfl el_int rfl (HO5.out.alloc _) rfl (Rd.oneAt _ _ (by simp)) (Is_one [(k : Int)]) ?hl1b ?hb1b ?hK1b)
              case hl1b => have := spillTo_length l sw sh k; rw [Is_length, ni_length]; simp; omega
              case hb1b => first | omega | (simp; omega)
              intro v' w9 ho9 hg9 hf9
              have hb9 := below_app (HB5.out.alloc (by omega) _) (HO5.out.alloc _) hg9 (by simp; omega) (by omega)
              clear ho5 hg9 hf9
              go_wp2
              go_roundw
              case rel => exact ⟨k + 1, by go_num, by omega, by omega, by rw [HZ.out, ni_append, Is_append]; exact ho9, hb9⟩
              case measure => simp [intOf]; omega
          · by_cases n2 : r.y < q.y
            · 
                have HZ := Lib.hid (HYES.out (show bynd r q = true by (unfold bynd; simp [n2])))
                have HO5 := Lib.hid ho5
                have HB5 := Lib.hid hb5
                clear hb5
                have hs8 := HB5.out.size
                go_upto_region 12 with fail
                clear d0 d1 d2 d3 e0 e1 e2 e3
                go_wp2_with (at_builtin; refine wpList_app rfl _ _ _ rfl el_int rfl (HO5.out.alloc _) rfl (Rd.oneAt _ _ (by simp)) (Is_one [(k : Int)]) ?hl2b ?hb2b ?hK2b)
                case hl2b => have := spillTo_length l sw sh k; rw [Is_length, ni_length]; simp; omega
                case hb2b => first | omega | (simp; omega)
                intro v' w9 ho9 hg9 hf9
                have hb9 := below_app (HB5.out.alloc (by omega) _) (HO5.out.alloc _) hg9 (by simp; omega) (by omega)
                clear ho5 hg9 hf9
                go_wp2
                go_roundw
                case rel => exact ⟨k + 1, by go_num, by omega, by omega, by rw [HZ.out, ni_append, Is_append]; exact ho9, hb9⟩
                case measure => simp [intOf]; omega
            · by_cases n3 : q.x + q.w < r.x + r.w
              · 
                  have HZ := Lib.hid (HYES.out (show bynd r q = true by (unfold bynd; simp [n3])))
                  have HO5 := Lib.hid ho5
                  have HB5 := Lib.hid hb5
                  clear hb5
                  have hs8 := HB5.out.size
                  go_upto_region 12 with fail
                  clear d0 d1 d2 d3 e0 e1 e2 e3
                  go_wp2_with (at_builtin; refine wpList_app rfl _ _ _ rfl el_int rfl (HO5.out.alloc _) rfl (Rd.oneAt _ _ (by simp)) (Is_one [(k : Int)]) ?hl3b ?hb3b ?hK3b)
                  case hl3b => have := spillTo_length l sw sh k; rw [Is_length, ni_length]; simp; omega
                  case hb3b => first | omega | (simp; omega)
                  intro v' w9 ho9 hg9 hf9
                  have hb9 := below_app (HB5.out.alloc (by omega) _) (HO5.out.alloc _) hg9 (by simp; omega) (by omega)
                  clear ho5 hg9 hf9
                  go_wp2
                  go_roundw
                  case rel => exact ⟨k + 1, by go_num, by omega, by omega, by rw [HZ.out, ni_append, Is_append]; exact ho9, hb9⟩
                  case measure => simp [intOf]; omega
              · by_cases n4 : q.y + q.h < r.y + r.h
                · 
                    have HZ := Lib.hid (HYES.out (show bynd r q = true by (unfold bynd; simp [n4])))
                    have HO5 := Lib.hid ho5
                    have HB5 := Lib.hid hb5
                    clear hb5
                    have hs8 := HB5.out.size
                    go_upto_region 12 with fail
                    clear d0 d1 d2 d3 e0 e1 e2 e3
                    go_wp2_with (at_builtin; refine wpList_app rfl _ _ _ rfl el_int rfl (HO5.out.alloc _) rfl (Rd.oneAt _ _ (by simp)) (Is_one [(k : Int)]) ?hl4b ?hb4b ?hK4b)
                    case hl4b => have := spillTo_length l sw sh k; rw [Is_length, ni_length]; simp; omega
                    case hb4b => first | omega | (simp; omega)
                    intro v' w9 ho9 hg9 hf9
                    have hb9 := below_app (HB5.out.alloc (by omega) _) (HO5.out.alloc _) hg9 (by simp; omega) (by omega)
                    clear ho5 hg9 hf9
                    go_wp2
                    go_roundw
                    case rel => exact ⟨k + 1, by go_num, by omega, by omega, by rw [HZ.out, ni_append, Is_append]; exact ho9, hb9⟩
                    case measure => simp [intOf]; omega
                · 
                    have HZ := Lib.hid (HNO.out (show bynd r q = false by (unfold bynd; simp [n1,n2,n3,n4])))
                    go_wp2
                    go_roundw
                    case rel => exact ⟨k + 1, by go_num, by omega, by omega, by rw [HZ.out]; exact ho5, hb5⟩
                    case measure => simp [intOf]; omega
      · obtain rfl : k = l.length := by omega
        have HB5 := Lib.hid (after hb hb1 (Nat.le_refl _))
        go_wp2
        go_ret
        exact ⟨_, rfl, by rw [HO.out]; exact ho.weak hb.size, HB5.out⟩
end Go.Proofs.Ytbkhbmcoococmaa
