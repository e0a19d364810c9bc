/-
  The innermost box at a point: impl.HitBox, spec.hit, spec.HitBox.
-/
import Derived.Test.YtbkhbmcoococmaaLay
import Derived.Test.YtbkhbmcoococmaaAi
import Derived.Test.YtbkhbmcoococmaaAf
import Derived.Test.YtbkhbmcoococmaaHas
import Derived.Test.YtbkhbmcoococmaaAb
import Derived.Test.YtbkhbmcoococmaaFun3
namespace Go.Proofs.Ytbkhbmcoococmaa
open Go Go.RowKit

theorem hitI_t {l : List Bx} {sw sh x y : Int} (h : scrB l sw sh = true) : hitI l sw sh x y = hitTo l sw sh x y l.length := by
  unfold hitI
  rw [if_pos h]
theorem hitI_f {l : List Bx} {sw sh x y : Int} (h : scrB l sw sh = false) : hitI l sw sh x y = -1 := by
  unfold hitI
  rw [h]
  rfl
theorem hit_yes {l : List Bx} {sw sh x y : Int} {k : Nat} (h : hitB l sw sh x y k = true) : hitTo l sw sh x y (k + 1) = (k : Int) := by
  unfold hitTo
  rw [if_pos h]
theorem hit_no {l : List Bx} {sw sh x y : Int} {k : Nat} (h : hitB l sw sh x y k = false) : hitTo l sw sh x y (k + 1) = hitTo l sw sh x y k := by
  conv => lhs; unfold hitTo
  rw [h]
  rfl
theorem miss_path (l : List Bx) (sw sh x y : Int) (k : Nat) : ((ni (anc l k).reverse).any fun m => !hasB (rect l sw sh m.toNat) x y) = !hitB l sw sh x y k := by
  unfold hitB
  rw [ni_reverse, List.any_reverse]
  generalize anc l k = s
  induction s with
  | nil => rfl
  | cons a t ih =>
    rw [show ni (a :: t) = (a : Int) :: ni t from rfl, List.any_cons, List.all_cons, ih, Int.toNat_natCast, Bool.not_and]
theorem hitB_root {l : List Bx} (hv : Valid l) {sw sh x y : Int} (h : hasB (rect l sw sh 0) x y = true) : hitB l sw sh x y 0 = true := by
  rw [hitB_iff, anc_root (hv.down hv.lo) (by have := hv.root; omega)]
  intro p hp
  rw [List.mem_singleton] at hp
  subst hp
  exact h
theorem hitB_miss {l : List Bx} (hv : Valid l) {sw sh x y : Int} {q : Nat} (hq : q < l.length) (h : hasB (rect l sw sh q) x y = false) : hitB l sw sh x y q = false := by
  cases hh : hitB l sw sh x y q with
  | false => rfl
  | true =>
    have := hitB_iff.1 hh q (anc_self (hv.down hq))
    rw [h] at this
    cases this
theorem hitB_up {l : List Bx} (hv : Valid l) {sw sh x y : Int} {q p : Nat} (hq : q < l.length) (hp : par l q = (p : Int)) (h : hasB (rect l sw sh q) x y = true) : hitB l sw sh x y q = hitB l sw sh x y p := by
  unfold hitB
  rw [anc_up (hv.down hq) hp, List.all_cons, h, Bool.true_and]

theorem missEnter (args : Array Value) (w : World) : (callFunc 60 args).run Try.prog w = .ok (.enter 60 args) w := by
  kernel_rfl
set_option maxHeartbeats 2000000 in
theorem miss_any {S n k g1 g2 g3 : Nat} {tv : Value} {R : List Rc} {r : Rc} (x y : Int) (w : World) (hM : LyM S w tv n R) (hr : R[k]? = some r) (hk : k < n) (hs : RS r)
    (h1 : w.cell? ⟨g1, 0, none⟩ = some (.slice (some ⟨S, 0, none⟩) n n)) (h2 : w.cell? ⟨g2, 0, none⟩ = some (.int .i64 x)) (h3 : w.cell? ⟨g3, 0, none⟩ = some (.int .i64 y)) :
    Calls Try.prog 60 #[.int .i64 (k : Int), .pointer (some ⟨g1, 0, none⟩), .pointer (some ⟨g2, 0, none⟩), .pointer (some ⟨g3, 0, none⟩)] w fun e w' => e = .returned (.bool (!hasB r x y)) ∧ Ext w w' := by
  obtain ⟨c0, c1, c2, c3⟩ := hM.at hr
  have hki : (k : Int) < n := by omega
  clear hM hr
  go_enter Try.func60, Try.ntmps60
  go_upto_region 1 with fail
  refine wp_region_held_drew (S := fun w' => Below w.heap.size w w') (by kernel_rfl) (Below.refl _ _).drew (fun hS => ?_)
  change wpAnyH _ _ _ _ _ _ _ _ w.drew
  generalize w.drew = wd at *
  refine hTake (by kernel_rfl) (fun d _ _ _ _ h => by cases d <;> exact h) hS 0 (some 6) _ rfl (v := ?_) (by kernel_rfl) ?_ ?_
  rotate_left
  · intro w9 hS9; have q := cell_below hS9 h1; go_simp; first | done | with_reducible rfl
  simp only [Act.put, List.setIfInBounds_toArray, List.set_cons_zero, List.set_cons_succ]
  refine hTake (by kernel_rfl) (fun d _ _ _ _ h => by cases d <;> exact h) hS 1 (some 7) _ rfl (v := ?_) (by kernel_rfl) ?_ ?_
  rotate_left
  · intro _ _; go_simp; first | done | with_reducible rfl
  simp only [Act.put, List.setIfInBounds_toArray, List.set_cons_zero, List.set_cons_succ]
  refine hTake (by kernel_rfl) (fun d _ _ _ _ h => by cases d <;> exact h) hS 2 (some 8) _ rfl (v := ?_) (by kernel_rfl) ?_ ?_
  rotate_left
  · intro _ _; go_simp; first | done | with_reducible rfl
  simp only [Act.put, List.setIfInBounds_toArray, List.set_cons_zero, List.set_cons_succ]
  refine hTake (by kernel_rfl) (fun d _ _ _ _ h => by cases d <;> exact h) hS 3 (some 9) _ rfl (v := ?_) (by kernel_rfl) ?_ ?_
  rotate_left
  · intro w9 hS9; have q0 := cell_below hS9 c0; have q1 := cell_below hS9 c1; have q2 := cell_below hS9 c2; have q3 := cell_below hS9 c3; go_simp; first | done | with_reducible rfl
  simp only [Act.put, List.setIfInBounds_toArray, List.set_cons_zero, List.set_cons_succ]
  refine hTake (by kernel_rfl) (fun d _ _ _ _ h => by cases d <;> exact h) hS 4 (some 10) _ rfl (v := ?_) (by kernel_rfl) ?_ ?_
  rotate_left
  · intro w9 hS9; have q := cell_below hS9 h2; go_simp; first | done | with_reducible rfl
  simp only [Act.put, List.setIfInBounds_toArray, List.set_cons_zero, List.set_cons_succ]
  refine hTake (by kernel_rfl) (fun d _ _ _ _ h => by cases d <;> exact h) hS 5 (some 11) _ rfl (v := ?_) (by kernel_rfl) ?_ ?_
  rotate_left
  · intro w9 hS9; have q := cell_below hS9 h3; go_simp; first | done | with_reducible rfl
  simp only [Act.put, List.setIfInBounds_toArray, List.set_cons_zero, List.set_cons_succ]
  refine wpAnyH_ready (rs := [6]) (by kernel_rfl) (by simp) ?_
  refine AllReadyH.cons (o := _) rfl (fun K9 hK9 => ?_) AllReadyH.nil
  go_simp
  refine (has_any (r := r) x y _ hs).mono ?_
  rintro e w7 ⟨rfl, hx7⟩
  try go_wp2_with fail
  refine hK9.out _ _ (after hS hx7 (Nat.le_refl _)) (fun hS => ?_)
  clear hK9 K9
  try simp only [Act.put, List.setIfInBounds_toArray, List.set_cons_zero, List.set_cons_succ]
  clear hx7
  refine hTake (by kernel_rfl) (fun d _ _ _ _ h => by cases d <;> exact h) hS 7 (some 13) _ rfl (v := ?_) (by kernel_rfl) ?_ ?_
  rotate_left
  · intro _ _; go_simp; first | done | with_reducible rfl
  simp only [Act.put, List.setIfInBounds_toArray, List.set_cons_zero, List.set_cons_succ]
  refine hTake (by kernel_rfl) (fun d _ _ _ _ h => by cases d <;> exact h) hS 8 (some 5) _ rfl (v := ?_) (by kernel_rfl) ?_ ?_
  rotate_left
  · intro _ _; go_simp; first | done | with_reducible rfl
  simp only [Act.put, List.setIfInBounds_toArray, List.set_cons_zero, List.set_cons_succ]
  refine wpAnyH_done (by kernel_rfl) ?_ _
  have HB6 := Lib.hid hS
  clear hS
  go_wp2
  go_ret
  exact ⟨rfl, HB6.out⟩
set_option maxRecDepth 100000 in
set_option maxHeartbeats 8000000 in
theorem HitBox_any {v : Value} {l : List Bx} (sw sh x y : Int) (w : World) (hv : Rd w 9 v (Bs l)) :
    Calls Try.prog 26 #[v, .int .i64 sw, .int .i64 sh, .int .i64 x, .int .i64 y] w fun e w' => e = .returned (.int .i64 (hitI l sw sh x y)) ∧ Ext w w' := by
  have hrd := (hv.alloc (.cells #[.int .i64 x] 3)).alloc (.cells #[.int .i64 y] 3)
  have hb : Below w.heap.size w ((w.alloc (.cells #[.int .i64 x] 3)).alloc (.cells #[.int .i64 y] 3)) := (Below.of_alloc _ _).alloc (by simp) _
  have k1 := (Keep.new w (.cells #[.int .i64 x] 3)).alloc (.cells #[.int .i64 y] 3)
  have k2 := keep_next w (.cells #[.int .i64 x] 3) (.cells #[.int .i64 y] 3)
  obtain ⟨a, c, rfl, hn, hc, _⟩ := hv.boxes
  unfold maxLen at hc
  clear hv
  go_enter Try.func26, Try.ntmps26
  go_wp2_with (fail)
  change Calls _ _ _ ((w.alloc (.cells #[.int .i64 x] 3)).alloc (.cells #[.int .i64 y] 3)) _
  generalize (w.alloc (.cells #[.int .i64 x] 3)).alloc (.cells #[.int .i64 y] 3) = W at *
  obtain ⟨g, hg⟩ : ∃ g, w.heap.size = g := ⟨_, rfl⟩
  rw [hg] at k1 k2 ⊢
  clear hg
  cases hok : scrB l sw sh with
  | false =>
    have HO := Lib.hid (hitI_f (x := x) (y := y) hok)
    refine (screenOk_any (l := l) _ _ _ hrd).mono ?_
    rintro e w1 ⟨he, hx⟩
    rw [hok] at he
    subst he
    replace hb := after hb hx (Nat.le_refl _)
    clear hok hrd hx k1 k2
    go_wp2
    go_ret
    exact ⟨by rw [HO.out]; rfl, hb⟩
  | true =>
    have HO := Lib.hid (hitI_t (x := x) (y := y) hok)
    refine (screenOk_any (l := l) _ _ _ hrd).mono ?_
    rintro e w1 ⟨he, hx⟩
    rw [hok] at he
    subst he
    replace hb := after hb hx (Nat.le_refl _)
    replace hrd := hrd.below hx (Nat.le_refl _)
    replace k1 := keepE k1 hx
    replace k2 := keepE k2 hx
    obtain ⟨hval, hsw, hsh⟩ := scrB_iff.1 hok
    have hlo := hval.lo
    have hhi := hval.hi
    have HV := Lib.hid hval
    have HRS := Lib.hid (fun k (hk : k < l.length) => (rect_ok HV.out hsw hsh hk).rs (by omega))
    have HC := Lib.hid (layoutOf_any _ hrd hval hsw hsh)
    clear hok hval hsw hsh hx
    go_wp2_with (fail)
    refine HC.out.mono ?_
    rintro e w2 ⟨rfl, hM, hx⟩
    replace hb := after hb hx (Nat.le_refl _)
    replace hrd := hrd.below hx (Nat.le_refl _)
    replace k1 := keepE k1 hx
    replace k2 := keepE k2 hx
    have m1 := hM.c1
    obtain ⟨S, hS⟩ : ∃ S, w1.heap.size = S := ⟨_, rfl⟩
    rw [hS] at hM m1 ⊢
    clear hx hS HC
    go_wp2_with (fail)
    have k3 := Keep.new w2 (.cells #[.slice (some ⟨S, 0, none⟩) l.length l.length] 26)
    replace k1 := k1.alloc (.cells #[.slice (some ⟨S, 0, none⟩) l.length l.length] 26)
    replace k2 := k2.alloc (.cells #[.slice (some ⟨S, 0, none⟩) l.length l.length] 26)
    replace hM := hM.below (Below.of_alloc w2 (.cells #[.slice (some ⟨S, 0, none⟩) l.length l.length] 26))
    replace hrd := hrd.alloc (.cells #[.slice (some ⟨S, 0, none⟩) l.length l.length] 26)
    replace hb := hb.alloc hb.size (.cells #[.slice (some ⟨S, 0, none⟩) l.length l.length] 26)
    generalize w2.alloc (.cells #[.slice (some ⟨S, 0, none⟩) l.length l.length] 26) = W3 at *
    obtain ⟨h, hh⟩ : ∃ h, w2.heap.size = h := ⟨_, rfl⟩
    rw [hh] at k3 ⊢
    clear hh m1
    have HK1 := Lib.hid k1
    have HK2 := Lib.hid k2
    have HK3 := Lib.hid k3
    have HM := Lib.hid hM
    have HR := Lib.hid hrd
    have HB := Lib.hid hb
    clear k1 k2 k3 hM hrd hb
    go_loopw [13] (fun i wr => ∃ k : Nat, k ≤ l.length ∧ i = .int .i64 ((k : Int) - 1) ∧ Hid (hitTo l sw sh x y l.length = hitTo l sw sh x y k) ∧ Below W3.heap.size W3 wr) (fun i _ => (intOf i + 1).toNat)
    case atStart => exact ⟨l.length, Nat.le_refl _, by go_num, rfl, Below.refl _ _⟩
    case round =>
      obtain ⟨k, hk, rfl, hH, hb⟩ := hrel
      by_cases h0 : k = 0
      · have hz : ¬ (0 : Int) ≤ (k : Int) - 1 := by omega
        have HE : Hid (hitI l sw sh x y = -1) := by
          show _ = _
          rw [HO.out, hH.out, h0]
          rfl
        clear hH
        go_wp2
        go_ret
        exact ⟨by rw [HE.out]; rfl, HB.out.trans (hb.mono HB.out.size)⟩
      · obtain ⟨j, rfl⟩ : ∃ j, k = j + 1 := ⟨k - 1, by omega⟩
        have hj : ((j + 1 : Nat) : Int) - 1 = (j : Int) := by omega
        have hjl : j < l.length := by omega
        rw [hj]
        go_wp2_with (fail)
        refine (path_any (l := l) (i := j) _ (HR.out.below hb (Nat.le_refl _)) hjl (HV.out.down hjl) (by omega)).mono ?_
        rintro e w4 ⟨v4, rfl, ho4, hx4⟩
        have hb4 := after hb hx4 (Nat.le_refl _)
        have hr4 := ho4.rd
        clear ho4 hx4 hb
        go_wp2_with (fail)
        refine (ContainsFunc3_any (l := ni (anc l j).reverse) missEnter (fun m => !hasB (rect l sw sh m.toNat) x y) _ hr4 (fun m hm w' hw' => ?_)).mono ?_
        · obtain ⟨q, hq, rfl⟩ := mem_ni.1 hm
          rw [List.mem_reverse] at hq
          have hql := anc_le j (HV.out.down hjl) q hq
          have hb5 := hb4.trans (hw'.mono hb4.size)
          rw [Int.toNat_natCast]
          exact miss_any (R := rectL l sw sh) x y w' (HM.out.below hb5) (rectL_get (by omega)) (by omega) (HRS.out q (by omega)) (keepE HK3.out hb5 |>.cell 0) (keepE HK1.out hb5 |>.cell 0) (keepE HK2.out hb5 |>.cell 0)
        rintro e w5 ⟨he, hx5⟩
        rw [miss_path] at he
        have hb5 := after hb4 hx5 (Nat.le_refl _)
        clear hr4 hx5 hb4
        cases hh : hitB l sw sh x y j with
        | true =>
          rw [hh] at he
          subst he
          have HE : Hid (hitI l sw sh x y = (j : Int)) := by
            show _ = _
            rw [HO.out, hH.out, hit_yes hh]
          clear hH hh
          go_wp2
          go_ret
          exact ⟨by rw [HE.out]; rfl, HB.out.trans (hb5.mono HB.out.size)⟩
        | false =>
          rw [hh] at he
          subst he
          have HE : Hid (hitTo l sw sh x y l.length = hitTo l sw sh x y j) := by
            show _ = _
            rw [hH.out, hit_no hh]
          clear hH hh
          go_wp2
          go_roundw
          case rel => exact ⟨j, by omega, by go_num, HE, hb5⟩
          case measure => first | (simp [intOf]; done) | (simp [intOf]; omega)
set_option maxRecDepth 100000 in
set_option maxHeartbeats 8000000 in
theorem shit_any {v u : Value} {l : List Bx} {sw sh : Int} (x y : Int) (w : World) (hv : Rd w 9 v (Bs l)) (hu : Rd w 4 u (Rs (rectL l sw sh))) (hval : Valid l) (hsw : 0 ≤ sw ∧ sw ≤ 10000) (hsh : 0 ≤ sh ∧ sh ≤ 10000) :
    Calls Try.prog 58 #[v, u, .int .i64 x, .int .i64 y] w fun e w' => e = .returned (.int .i64 (hitTo l sw sh x y l.length)) ∧ Ext w w' := by
  have HRD := Lib.hid hv
  have hlo := hval.lo
  have hhi := hval.hi
  have HRS := Lib.hid (fun k (hk : k < l.length) => (rect_ok hval hsw hsh hk).rs (by omega))
  have HV := Lib.hid hval
  obtain ⟨bO, oO, cO, rfl, hnO, hcO, hRC⟩ := rectS hu hlo
  obtain ⟨at_, ct, rfl, hnt, hct, _⟩ := hv.boxes
  unfold maxLen at hct
  obtain ⟨bT, oT, rfl, hbT, _, _⟩ := bx_cells hv hlo
  have HRC := Lib.hid hRC
  clear hRC hv hu hval
  go_enter Try.func58, Try.ntmps58
  go_wp2
  go_loopw [9] (fun i wr => ∃ k : Nat, k ≤ l.length ∧ i = .int .i64 ((k : Int) - 1) ∧ Hid (hitTo l sw sh x y l.length = hitTo l sw sh x y k) ∧ Below w.heap.size w wr) (fun i _ => (intOf i + 1).toNat)
  case atStart => exact ⟨l.length, Nat.le_refl _, by go_num, rfl, Below.refl _ _⟩
  case round =>
    obtain ⟨k, hk, rfl, hH, hb⟩ := hrel
    by_cases h0 : k = 0
    · have hz : ¬ (0 : Int) ≤ (k : Int) - 1 := by omega
      have HE : Hid (hitTo l sw sh x y l.length = -1) := by
        show _ = _
        rw [hH.out, h0]
        rfl
      clear hH
      go_wp2
      go_ret
      exact ⟨by rw [HE.out]; rfl, hb⟩
    · obtain ⟨j, rfl⟩ : ∃ j, k = j + 1 := ⟨k - 1, by omega⟩
      have hj : ((j + 1 : Nat) : Int) - 1 = (j : Int) := by omega
      have hjl : j < l.length := by omega
      rw [hj]
      go_wp2
      go_loopw [10] (fun a wr => ((a = .int .i64 (-1) ∧ Hid (hitB l sw sh x y j = true)) ∨ ∃ q : Nat, a = .int .i64 q ∧ q ≤ j ∧ Hid (hitB l sw sh x y j = hitB l sw sh x y q)) ∧ Below w.heap.size w wr) (fun a _ => (intOf a + 1).toNat)
      case atStart => exact ⟨.inr ⟨j, rfl, Nat.le_refl _, rfl⟩, hb⟩
      case round =>
        clear hb
        obtain ⟨⟨rfl, hT⟩ | ⟨q, rfl, hq, hQ⟩, hb⟩ := hrel
        · have HE : Hid (hitTo l sw sh x y l.length = (j : Int)) := by
            show _ = _
            rw [hH.out, hit_yes hT.out]
          go_wp2
          go_ret
          exact ⟨by rw [HE.out]; rfl, hb⟩
        · have hql : q < l.length := by omega
          have hqi : (q : Int) < l.length := by omega
          obtain ⟨c0, c1, c2, c3⟩ := (HRC.out.below hb (Nat.le_refl _)).cs q hql
          have t0 := (cells_at hql (HRD.out.below hb (Nat.le_refl _))).c0
          cases hh : hasB (rect l sw sh q) x y with
          | false =>
            go_wp2_with (fail)
            refine (sinRect_any (r := rect l sw sh q) x y _ (HRS.out q hql)).mono ?_
            rintro e w4 ⟨he, hx⟩
            rw [hh] at he
            subst he
            have hb4 := after hb hx (Nat.le_refl _)
            have HE : Hid (hitTo l sw sh x y l.length = hitTo l sw sh x y j) := by
              show _ = _
              rw [hH.out, hit_no (hQ.out.trans (hitB_miss HV.out hql hh))]
            clear hh hx t0 hH hQ
            go_wp2
            go_roundw
            case rel => exact ⟨j, by omega, by go_num, HE, hb4⟩
            case measure => first | (simp [intOf]; done) | (simp [intOf]; omega)
          | true =>
            go_wp2_with (fail)
            refine (sinRect_any (r := rect l sw sh q) x y _ (HRS.out q hql)).mono ?_
            rintro e w4 ⟨he, hx⟩
            rw [hh] at he
            subst he
            have hb4 := after hb hx (Nat.le_refl _)
            replace t0 := (cells_at hql (HRD.out.below hb4 (Nat.le_refl _))).c0
            have HP := Lib.hid (HV.out.par q)
            have HUP := Lib.hid (fun p (hp : par l q = (p : Nat)) => hitB_up HV.out hql hp hh)
            have HRT : Hid (q = 0 → hitB l sw sh x y j = true) := fun e => by
              subst e
              rw [hQ.out]
              exact hitB_root HV.out hh
            have HR0 := Lib.hid HV.out.root
            clear hh hx hb c0 c1 c2 c3
            go_wp2
            go_roundw
            case rel =>
              refine ⟨?_, hb4⟩
              by_cases hq0 : q = 0
              · subst hq0
                have hr0 := HR0.out
                exact .inl ⟨by first | (congr 1; done) | (congr 1; omega), HRT.out rfl⟩
              · have hpp := HP.out (by omega) hql
                obtain ⟨p, hp⟩ : ∃ p : Nat, par l q = p := ⟨(par l q).toNat, by omega⟩
                refine .inr ⟨p, by rw [show (bx l q).parent = (p : Int) from hp], by omega, ?_⟩
                show _ = _
                rw [hQ.out]
                exact HUP.out p hp
            case measure =>
              have hpp : par l q < (q : Int) := by
                by_cases hq0 : q = 0
                · have hr0 := HR0.out
                  subst hq0
                  omega
                · exact (HP.out (by omega) hql).2.1
              have hpd : (bx l q).parent = par l q := rfl
              simp [intOf]
              omega
set_option maxHeartbeats 2000000 in
theorem sHitBox_any {v : Value} {l : List Bx} (sw sh x y : Int) (w : World) (hv : Rd w 9 v (Bs l)) (hl : l.length ≤ 1048576) :
    Calls Try.prog 24 #[v, .int .i64 sw, .int .i64 sh, .int .i64 x, .int .i64 y] w fun e w' => e = .returned (.int .i64 (hitI l sw sh x y)) ∧ Ext w w' := by
  have hrd := hv
  go_enter Try.func24, Try.ntmps24
  go_wp2_with (fail)
  refine (sLayoutTree_any (l := l) sw sh _ hrd hl).mono ?_
  rintro e w1 ⟨v1, rfl, ho, hx⟩
  have hr := ho.rd
  replace hrd := hrd.below hx (Nat.le_refl _)
  have hb := hx
  clear ho hx
  cases hok : scrB l sw sh with
  | false =>
    have HO := Lib.hid (hitI_f (x := x) (y := y) hok)
    rw [rectsOr_f hok] at hr
    obtain ⟨a1, c1, rfl, hn1, hc1, _⟩ := hr.rects
    rw [List.length_nil] at hn1 ⊢
    clear hok hr
    go_wp2
    go_ret
    exact ⟨by rw [HO.out]; rfl, hb⟩
  | true =>
    have HO := Lib.hid (hitI_t (x := x) (y := y) hok)
    rw [rectsOr_t hok] at hr
    obtain ⟨hval, hsw, hsh⟩ := scrB_iff.1 hok
    have hlo := hval.lo
    have hr2 := hr
    obtain ⟨bO, oO, cO, rfl, hnO, hcO, _⟩ := rectS hr2 hlo
    have HC := Lib.hid (shit_any (sw := sw) (sh := sh) x y w1 hrd hr hval hsw hsh)
    have hne : ((l.length : Int) == 0) = false := by
      have : (l.length : Int) ≠ 0 := by omega
      simpa using this
    clear hok hval hr hr2 hrd
    go_wp2_with (fail)
    refine HC.out.mono ?_
    rintro e w2 ⟨rfl, hx⟩
    replace hb := after hb hx (Nat.le_refl _)
    go_wp2
    go_ret
    exact ⟨by rw [HO.out]; rfl, hb⟩
end Go.Proofs.Ytbkhbmcoococmaa
