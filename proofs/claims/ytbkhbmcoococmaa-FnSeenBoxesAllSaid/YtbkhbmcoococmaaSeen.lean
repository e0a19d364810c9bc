/-
  The boxes of which something is seen: impl.SeenBoxes and spec.SeenBoxes.
-/
import Derived.Test.YtbkhbmcoococmaaLay
import Derived.Test.YtbkhbmcoococmaaAi
import Derived.Test.YtbkhbmcoococmaaAf
import Derived.Test.YtbkhbmcoococmaaMeet2
import Derived.Test.YtbkhbmcoococmaaHit
import Derived.Test.YtbkhbmcoococmaaAb
namespace Go.Proofs.Ytbkhbmcoococmaa
open Go Go.RowKit

/-- the boxes of which something is seen, or none -/
def seenL (l : List Bx) (sw sh : Int) (v : Rc) : List Int := if scrB l sw sh && vrB v then ni (seenTo l sw sh v l.length) else []
theorem seenL_t {l : List Bx} {sw sh : Int} {v : Rc} (h : scrB l sw sh = true) (h2 : vrB v = true) : seenL l sw sh v = ni (seenTo l sw sh v l.length) := by
  unfold seenL
  rw [h, h2]
  rfl
theorem seenL_f {l : List Bx} {sw sh : Int} {v : Rc} (h : scrB l sw sh = false) : seenL l sw sh v = [] := by
  unfold seenL
  rw [h]
  rfl
theorem seenL_v {l : List Bx} {sw sh : Int} {v : Rc} (h : vrB v = false) : seenL l sw sh v = [] := by
  unfold seenL
  rw [h, Bool.and_false]
  rfl
theorem seen_yes {l : List Bx} {sw sh : Int} {v : Rc} {k : Nat} (h : meetB (rect l sw sh k) v = true) : seenTo l sw sh v (k + 1) = seenTo l sw sh v k ++ [k] := by
  rw [seenTo_succ, if_pos h]
theorem seen_no {l : List Bx} {sw sh : Int} {v : Rc} {k : Nat} (h : meetB (rect l sw sh k) v = false) : seenTo l sw sh v (k + 1) = seenTo l sw sh v k := by
  rw [seenTo_succ, if_neg (by rw [h]; simp)]
/-- the rectangle of memory that a store fills -/
theorem keep_rect {w : World} {g : Nat} {e : TypeId} {c : Array Value} (h : Keep g (.cells c e) w) (hc : c.size = 4) (a b d f : Value) :
    Keep g (.cells #[a, b, d, f] e) ((((w.setCell ⟨g, 0, none⟩ a).setCell ⟨g, 1, none⟩ b).setCell ⟨g, 2, none⟩ d).setCell ⟨g, 3, none⟩ f) := by
  have h4 := (((h.store 0 a).store 1 b).store 2 d).store 3 f
  obtain ⟨l⟩ := c
  match l, hc with
  | [c0, c1, c2, c3], _ => exact h4
set_option maxRecDepth 100000 in
set_option maxHeartbeats 20000000 in
theorem SeenBoxes_any {v : Value} {l : List Bx} {q : Rc} (sw sh : Int) (w : World) (hv : Rd w 9 v (Bs l)) :
    Calls Try.prog 36 #[v, .int .i64 sw, .int .i64 sh, q.agg] w fun e w' => ∃ v', e = .returned v' ∧ Own w' w.heap.size 1 v' (Is (seenL l sw sh q)) ∧ Ext w w' := by
  have hrd := hv.alloc (.cells #[.int .i64 q.x, .int .i64 q.y, .int .i64 q.w, .int .i64 q.h] 39)
  have hb := Below.of_alloc w (.cells #[.int .i64 q.x, .int .i64 q.y, .int .i64 q.w, .int .i64 q.h] 39)
  have kq := Keep.new w (.cells #[.int .i64 q.x, .int .i64 q.y, .int .i64 q.w, .int .i64 q.h] 39)
  obtain ⟨a, c, rfl, hn, hc, _⟩ := hv.boxes
  unfold maxLen at hc
  clear hv
  unfold Rc.agg
  go_enter Try.func36, Try.ntmps36
  go_upto_region 1 with fail
  generalize w.alloc (.cells #[.int .i64 q.x, .int .i64 q.y, .int .i64 q.w, .int .i64 q.h] 39) = W at *
  obtain ⟨g, hg⟩ : ∃ g, w.heap.size = g := ⟨_, rfl⟩
  rw [hg] at kq ⊢
  clear hg
  cases hok : scrB l sw sh with
  | false =>
    have HO := Lib.hid (seenL_f (v := q) hok)
    go_wp2_with (fail)
    refine (screenOk_any (l := l) _ _ _ hrd).mono ?_
    rintro e w1 ⟨he, hx⟩
    rw [hok] at he
    subst he
    replace hb := after hb hx (Nat.le_refl _)
    clear hok hrd hx kq
    go_wp2
    go_ret
    exact ⟨_, rfl, by rw [HO.out]; exact Own.nil _ _ _, hb⟩
  | true =>
    go_wp2_with (fail)
    refine (screenOk_any (l := l) _ _ _ hrd).mono ?_
    rintro e w1 ⟨he, hx⟩
    rw [hok] at he
    subst he
    replace hb := after hb hx (Nat.le_refl _)
    replace hrd := hrd.below hx (Nat.le_refl _)
    replace kq := keepE kq hx
    have q0 := kq.cell 0
    have q1 := kq.cell 1
    have q2 := kq.cell 2
    have q3 := kq.cell 3
    clear hx
    go_wp2_with (fail)
    refine (rvalidA_any (r := q) _).mono ?_
    rintro e w2 ⟨he, hx⟩
    replace hb := after hb hx (Nat.le_refl _)
    replace hrd := hrd.below hx (Nat.le_refl _)
    replace kq := keepE kq hx
    clear q0 q1 q2 q3 hx
    cases hvq : vrB q with
    | false =>
      rw [hvq] at he
      subst he
      have HO := Lib.hid (seenL_v (l := l) (sw := sw) (sh := sh) hvq)
      clear hok hrd kq hvq
      go_wp2
      go_ret
      exact ⟨_, rfl, by rw [HO.out]; exact Own.nil _ _ _, hb⟩
    | true =>
      rw [hvq] at he
      subst he
      have HO := Lib.hid (seenL_t hok hvq)
      obtain ⟨hval, hsw, hsh⟩ := scrB_iff.1 hok
      have hvr := vrB_iff.1 hvq
      have hlo := hval.lo
      have hhi := hval.hi
      have HRS := Lib.hid (fun k (hk : k < l.length) => rect_ok hval hsw hsh hk)
      replace hrd := hrd.alloc (.cells #[] 3)
      replace kq := kq.alloc (.cells #[] 3)
      replace hb := hb.alloc hb.size (.cells #[] 3)
      have HC := Lib.hid (layoutOf_any _ hrd hval hsw hsh)
      clear hok hval hsw hsh hvq hrd
      go_wp2_with (fail)
      refine HC.out.mono ?_
      rintro e w3 ⟨rfl, hM, hx⟩
      replace hb := after hb hx (Nat.le_refl _)
      replace kq := keepE kq hx
      have m1 := hM.c1
      have hMs := hM.lt
      obtain ⟨S, hS⟩ : ∃ S, (w2.alloc (.cells #[] 3)).heap.size = S := ⟨_, rfl⟩
      rw [hS] at hM m1 hMs ⊢
      have hgs : w.heap.size ≤ w3.heap.size := hb.size
      clear hx hS HC
      go_wp2_with (fail)
      have HM := Lib.hid hM
      have HK := Lib.hid kq
      have HB := Lib.hid hb
      have HE := Lib.hid (fun a => Own.empty w3 w3.heap.size 1 a)
      clear hM kq hb m1
      go_loopw [9, 33] (fun o i wr => ∃ k : Nat, i = .int .i64 k ∧ k ≤ l.length ∧ Own wr w3.heap.size 1 o (Is (ni (seenTo l sw sh q k))) ∧ Below w3.heap.size w3 wr) (fun _ i _ => l.length - (intOf i).toNat)
      case atStart => exact ⟨0, rfl, Nat.zero_le _, HE.out _, Below.refl _ _⟩
      case round =>
        obtain ⟨k, rfl, hk, ho, hb⟩ := hrel
        have hbs := hb.size
        by_cases hlt : k < l.length
        · have hki : (k : Int) < l.length := by omega
          have hM := HM.out.below hb
          have kq := keepE HK.out hb
          obtain ⟨c0, c1, c2, c3⟩ := hM.at (rectL_get (w := sw) (h := sh) hlt)
          have hrk := HRS.out k hlt
          have q0 := kq.cell 0
          have q1 := kq.cell 1
          have q2 := kq.cell 2
          have q3 := kq.cell 3
          have HNO := Lib.hid (seen_no (l := l) (sw := sw) (sh := sh) (v := q) (k := k))
          have HYES := Lib.hid (seen_yes (l := l) (sw := sw) (sh := sh) (v := q) (k := k))
          obtain ⟨r, hr⟩ : ∃ r, rect l sw sh k = r := ⟨_, rfl⟩
          rw [hr] at c0 c1 c2 c3 hrk HNO HYES
          clear hr hM kq
          go_upto_region 7 with fail
          have kr := Keep.new wr (.cells #[.int .i64 r.x, .int .i64 r.y, .int .i64 r.w, .int .i64 r.h] 39)
          replace ho := ho.alloc (.cells #[.int .i64 r.x, .int .i64 r.y, .int .i64 r.w, .int .i64 r.h] 39)
          replace hb := hb.alloc hb.size (.cells #[.int .i64 r.x, .int .i64 r.y, .int .i64 r.w, .int .i64 r.h] 39)
          have hxa := Below.of_alloc wr (.cells #[.int .i64 r.x, .int .i64 r.y, .int .i64 r.w, .int .i64 r.h] 39)
          replace q0 := cell_below hxa q0
          replace q1 := cell_below hxa q1
          replace q2 := cell_below hxa q2
          replace q3 := cell_below hxa q3
          clear hxa c0 c1 c2 c3
          generalize wr.alloc (.cells #[.int .i64 r.x, .int .i64 r.y, .int .i64 r.w, .int .i64 r.h] 39) = W1 at *
          generalize wr.heap.size = gr at *
          have c0 := kr.cell 0
          have c1 := kr.cell 1
          have c2 := kr.cell 2
          have c3 := kr.cell 3
          have hbs1 := hb.size
          clear kr
          go_wp2_with (fail)
          cases hm : meetB r q with
          | false =>
            refine (MeetRects_any (r := r) (s := q) _ (hrk.rs (by omega)) hvr.rs hrk.vr hvr hm).mono ?_
            rintro e w4 ⟨rfl, hx⟩
            have HZ := Lib.hid (HNO.out hm)
            replace ho := ho.below hx (Nat.le_refl _)
            replace hb := after hb hx (Nat.le_refl _)
            have ho4 := ho.alloc (.cells #[.int .i64 0, .int .i64 0, .int .i64 0, .int .i64 0] 39)
            have hb4 := hb.alloc hb.size (.cells #[.int .i64 0, .int .i64 0, .int .i64 0, .int .i64 0] 39)
            clear hm ho hb hx c0 c1 c2 c3 q0 q1 q2 q3 HNO HYES
            rw [show zr.agg = .agg #[.int .i64 0, .int .i64 0, .int .i64 0, .int .i64 0] from rfl]
            go_upto_region 8 with fail
            generalize w4.alloc (.cells #[.int .i64 0, .int .i64 0, .int .i64 0, .int .i64 0] 39) = W5 at *
            go_wp2
            go_roundw
            case rel => exact ⟨k + 1, by go_num, by omega, by rw [HZ.out]; exact ho4, hb4⟩
            case measure => simp [intOf]; omega
          | true =>
            refine (MeetRectsT_any (r := r) (s := q) _ (hrk.rs (by omega)) hvr.rs hrk.vr hvr hm).mono ?_
            rintro e w4 ⟨⟨t, rfl⟩, hx⟩
            have HZ := Lib.hid (HYES.out hm)
            replace ho := (ho.below hx (Nat.le_refl _)).alloc (.cells #[.int .i64 t.x, .int .i64 t.y, .int .i64 t.w, .int .i64 t.h] 39)
            replace hb := after hb hx (Nat.le_refl _)
            replace hb := hb.alloc hb.size (.cells #[.int .i64 t.x, .int .i64 t.y, .int .i64 t.w, .int .i64 t.h] 39)
            have hb4s := hb.size
            clear hm hx c0 c1 c2 c3 q0 q1 q2 q3 HNO HYES
            unfold Rc.agg
            go_upto_region 8 with fail
            generalize w4.alloc (.cells #[.int .i64 t.x, .int .i64 t.y, .int .i64 t.w, .int .i64 t.h] 39) = W5 at *
            go_wp2_with (at_builtin; refine wpList_app rfl _ _ _ rfl el_int rfl (ho.alloc _) rfl (Rd.oneAt _ _ (by simp)) (Is_one [(k : Int)]) ?hla ?hba ?hKa)
            case hla => have := seenTo_length l sw sh q k; rw [Is_length, ni_length]; simp; omega
            case hba => simp; omega
            intro v' w9 ho9 hg9 hf9
            have hb9 := below_app (hb.alloc (by omega) _) (ho.alloc _) hg9 (by simp; omega) (by omega)
            clear ho hb hg9 hf9
            go_wp2
            go_roundw
            case rel => exact ⟨k + 1, by go_num, by omega, by rw [HZ.out, ni_append, Is_append]; exact ho9, hb9⟩
            case measure => simp [intOf]; omega
        · obtain rfl : k = l.length := by omega
          obtain ⟨a7, c7, rfl, hn7, hc7, _⟩ := ho.rd.ints
          unfold maxLen at hc7
          have HCL := Lib.hid (ho.clip.weak hgs)
          have HBE := Lib.hid (HB.out.trans (hb.mono HB.out.size))
          have hspl := seenTo_length l sw sh q l.length
          rw [← ni_length] at hspl
          clear ho hb
          go_wp2
          go_ret
          exact ⟨_, rfl, by rw [HO.out]; exact HCL.out, HBE.out⟩
set_option maxRecDepth 100000 in
set_option maxHeartbeats 20000000 in
theorem sSeenBoxes_any {v : Value} {l : List Bx} {q : Rc} (sw sh : Int) (w : World) (hv : Rd w 9 v (Bs l)) (hl : l.length ≤ 1048576) :
    Calls Try.prog 38 #[v, .int .i64 sw, .int .i64 sh, q.agg] w fun e w' => ∃ v', e = .returned v' ∧ Own w' w.heap.size 1 v' (Is (seenL l sw sh q)) ∧ Ext w w' := by
  have hrd := (hv.alloc (.cells #[.int .i64 q.x, .int .i64 q.y, .int .i64 q.w, .int .i64 q.h] 39)).alloc (.cells #[] 3)
  have hb : Below w.heap.size w ((w.alloc (.cells #[.int .i64 q.x, .int .i64 q.y, .int .i64 q.w, .int .i64 q.h] 39)).alloc (.cells #[] 3)) := (Below.of_alloc _ _).alloc (by simp) _
  have kq := (Keep.new w (.cells #[.int .i64 q.x, .int .i64 q.y, .int .i64 q.w, .int .i64 q.h] 39)).alloc (.cells #[] 3)
  clear hv
  unfold Rc.agg
  go_enter Try.func38, Try.ntmps38
  go_wp2_with (fail)
  change Calls _ _ _ ((w.alloc (.cells #[.int .i64 q.x, .int .i64 q.y, .int .i64 q.w, .int .i64 q.h] 39)).alloc (.cells #[] 3)) _
  generalize (w.alloc (.cells #[.int .i64 q.x, .int .i64 q.y, .int .i64 q.w, .int .i64 q.h] 39)).alloc (.cells #[] 3) = W at *
  obtain ⟨g, hg⟩ : ∃ g, w.heap.size = g := ⟨_, rfl⟩
  rw [hg] at kq ⊢
  clear hg
  refine (sLayoutTree_any (l := l) sw sh _ hrd hl).mono ?_
  rintro e w1 ⟨v1, rfl, ho, hx⟩
  have hr := ho.rd
  replace hb := after hb hx (Nat.le_refl _)
  replace kq := keepE kq hx
  clear ho hx hrd
  cases hok : scrB l sw sh with
  | false =>
    have HO := Lib.hid (seenL_f (v := q) hok)
    rw [rectsOr_f hok] at hr
    obtain ⟨a1, c1, rfl, hn1, hc1, _⟩ := hr.rects
    rw [List.length_nil] at hn1 ⊢
    clear hok hr kq
    go_wp2
    go_ret
    exact ⟨_, rfl, by rw [HO.out]; exact Own.nil _ _ _, hb⟩
  | true =>
    rw [rectsOr_t hok] at hr
    obtain ⟨hval, hsw, hsh⟩ := scrB_iff.1 hok
    have hlo := hval.lo
    have hhi := hval.hi
    obtain ⟨bO, oO, cO, rfl, hnO, hcO, hR⟩ := rectS hr hlo
    have hne : ((l.length : Int) == 0) = false := by
      have : (l.length : Int) ≠ 0 := by omega
      simpa using this
    have HRS := Lib.hid (fun k (hk : k < l.length) => rect_ok hval hsw hsh hk)
    clear hval hsw hsh hr
    have q0 := kq.cell 0
    have q1 := kq.cell 1
    have q2 := kq.cell 2
    have q3 := kq.cell 3
    go_wp2_with (fail)
    refine (svalidRect_any (r := q) _).mono ?_
    rintro e w2 ⟨he, hx⟩
    replace hb := after hb hx (Nat.le_refl _)
    replace hR := hR.below hx (Nat.le_refl _)
    replace kq := keepE kq hx
    clear q0 q1 q2 q3 hx
    cases hvq : vrB q with
    | false =>
      rw [hvq] at he
      subst he
      have HO := Lib.hid (seenL_v (l := l) (sw := sw) (sh := sh) hvq)
      clear hok kq hvq hR
      go_wp2
      go_ret
      exact ⟨_, rfl, by rw [HO.out]; exact Own.nil _ _ _, hb⟩
    | true =>
      rw [hvq] at he
      subst he
      have HO := Lib.hid (seenL_t hok hvq)
      have hvr := vrB_iff.1 hvq
      have hgs : w.heap.size ≤ w2.heap.size := hb.size
      have HR := Lib.hid hR
      have HK := Lib.hid kq
      have HB := Lib.hid hb
      have HE := Lib.hid (fun a => Own.empty w2 w2.heap.size 1 a)
      clear hok hvq hR kq hb
      go_wp2
      go_loopw [9, 11] (fun o i wr => ∃ k : Nat, i = .int .i64 k ∧ k ≤ l.length ∧ Own wr w2.heap.size 1 o (Is (ni (seenTo l sw sh q k))) ∧ Below w2.heap.size w2 wr) (fun _ i _ => l.length - (intOf i).toNat)
      case atStart => exact ⟨0, rfl, Nat.zero_le _, HE.out _, Below.refl _ _⟩
      case round =>
        obtain ⟨k, rfl, hk, ho, hb⟩ := hrel
        have hbs := hb.size
        by_cases hlt : k < l.length
        · have hki : (k : Int) < l.length := by omega
          have kq := keepE HK.out hb
          obtain ⟨c0, c1, c2, c3⟩ := (HR.out.below hb (Nat.le_refl _)).cs k hlt
          have hrk := HRS.out k hlt
          have q0 := kq.cell 0
          have q1 := kq.cell 1
          have q2 := kq.cell 2
          have q3 := kq.cell 3
          have HNO := Lib.hid (seen_no (l := l) (sw := sw) (sh := sh) (v := q) (k := k))
          have HYES := Lib.hid (seen_yes (l := l) (sw := sw) (sh := sh) (v := q) (k := k))
          obtain ⟨r, hr⟩ : ∃ r, rect l sw sh k = r := ⟨_, rfl⟩
          rw [hr] at c0 c1 c2 c3 hrk HNO HYES
          have HSM := Lib.hid (fun W => smeet_any (r := r) (s := q) W (hrk.rs (by omega)) hvr.rs)
          clear hr kq
          generalize mR r q = t at *
          go_upto_region 8 with fail
          refine wp_region_held_drew (S := fun w' => Below wr.heap.size wr w') (by kernel_rfl) (Below.refl _ _).drew (fun hS => ?_)
          change wpAnyH _ _ _ _ _ _ _ _ wr.drew
          generalize wr.drew = wd at *
          refine hTake (by kernel_rfl) (fun d _ _ _ _ h => by cases d <;> exact h) hS 0 (some 34) _ rfl (v := ?_) (by kernel_rfl) ?_ ?_
          rotate_left
          · intro _ _; go_simp; first | done | with_reducible rfl
          simp only [Act.put, List.setIfInBounds_toArray, List.set_cons_zero, List.set_cons_succ]
          refine hTake (by kernel_rfl) (fun d _ _ _ _ h => by cases d <;> exact h) hS 1 (some 35) _ rfl (v := ?_) (by kernel_rfl) ?_ ?_
          rotate_left
          · intro _ _; go_simp; first | done | with_reducible rfl
          simp only [Act.put, List.setIfInBounds_toArray, List.set_cons_zero, List.set_cons_succ]
          refine hTake (by kernel_rfl) (fun d _ _ _ _ h => by cases d <;> exact h) hS 2 (some 36) _ rfl (v := ?_) (by kernel_rfl) ?_ ?_
          rotate_left
          · intro _ _; go_simp; first | done | with_reducible rfl
          simp only [Act.put, List.setIfInBounds_toArray, List.set_cons_zero, List.set_cons_succ]
          refine hTake (by kernel_rfl) (fun d _ _ _ _ h => by cases d <;> exact h) hS 3 (some 37) _ rfl (v := ?_) (by kernel_rfl) ?_ ?_
          rotate_left
          · intro w9 hS9; have x0 := cell_below hS9 c0; have x1 := cell_below hS9 c1; have x2 := cell_below hS9 c2; have x3 := cell_below hS9 c3; go_simp; first | done | with_reducible rfl
          simp only [Act.put, List.setIfInBounds_toArray, List.set_cons_zero, List.set_cons_succ]
          refine hTake (by kernel_rfl) (fun d _ _ _ _ h => by cases d <;> exact h) hS 4 (some 38) _ rfl (v := ?_) (by kernel_rfl) ?_ ?_
          rotate_left
          · intro w9 hS9; have x0 := cell_below hS9 q0; have x1 := cell_below hS9 q1; have x2 := cell_below hS9 q2; have x3 := cell_below hS9 q3; go_simp; first | done | with_reducible rfl
          simp only [Act.put, List.setIfInBounds_toArray, List.set_cons_zero, List.set_cons_succ]
          clear c0 c1 c2 c3 q0 q1 q2 q3
          refine wpAnyH_ready (rs := [5, 9]) (by kernel_rfl) (by simp) ?_
          refine AllReadyH.cons (o := _) rfl (fun K9 hK9 => ?_) (AllReadyH.cons (o := _) rfl (fun K9 hK9 => ?_) AllReadyH.nil)
          · go_simp
            refine ((HSM.out _)).mono ?_
            rintro e w7 ⟨rfl, hx7⟩
            unfold Rc.agg
            try go_wp2_with fail
            refine hK9.out _ _ (after hS hx7 (Nat.le_refl _)) (fun hS => ?_)
            clear hK9 K9
            try simp only [Act.put, List.setIfInBounds_toArray, List.set_cons_zero, List.set_cons_succ]
            clear hx7
            refine hTake (by kernel_rfl) (fun d _ _ _ _ h => by cases d <;> exact h) hS 6 (some 33) _ rfl (v := ?_) (by kernel_rfl) ?_ ?_
            rotate_left
            · intro _ _; go_simp; first | done | with_reducible rfl
            simp only [Act.put, List.setIfInBounds_toArray, List.set_cons_zero, List.set_cons_succ]
            refine hTake (by kernel_rfl) (fun d _ _ _ _ h => by cases d <;> exact h) hS 7 (some 40) _ rfl (v := ?_) (by kernel_rfl) ?_ ?_
            rotate_left
            · intro _ _; go_simp; first | done | with_reducible rfl
            simp only [Act.put, List.setIfInBounds_toArray, List.set_cons_zero, List.set_cons_succ]
            refine hTake (by kernel_rfl) (fun d _ _ _ _ h => by cases d <;> exact h) hS 8 (some 41) _ rfl (v := ?_) (by kernel_rfl) ?_ ?_
            rotate_left
            · intro _ _; go_simp; first | done | with_reducible rfl
            simp only [Act.put, List.setIfInBounds_toArray, List.set_cons_zero, List.set_cons_succ]
            refine wpAnyH_ready (rs := [9]) (by kernel_rfl) (by simp) ?_
            refine AllReadyH.cons (o := _) rfl (fun K9 hK9 => ?_) AllReadyH.nil
            go_simp
            have hS0 := hS
            refine hK9.out _ _ (hS.alloc hS.size _) (fun hS => ?_)
            clear hK9 K9
            try simp only [Act.put, List.setIfInBounds_toArray, List.set_cons_zero, List.set_cons_succ]
            clear hS
            refine wpAnyH_ready (rs := [10]) (by kernel_rfl) (by simp) ?_
            refine AllReadyH.cons (o := _) rfl (fun K9 hK9 => ?_) AllReadyH.nil
            go_simp
            refine hK9.out _ _ (hS0.alloc hS0.size _) (fun hS => ?_)
            clear hK9 K9
            try simp only [Act.put, List.setIfInBounds_toArray, List.set_cons_zero, List.set_cons_succ]
            refine hTake (by kernel_rfl) (fun d _ _ _ _ h => by cases d <;> exact h) hS 11 (some 13) _ rfl (v := ?_) (by kernel_rfl) ?_ ?_
            rotate_left
            · intro _ _; go_simp; first | done | with_reducible rfl
            simp only [Act.put, List.setIfInBounds_toArray, List.set_cons_zero, List.set_cons_succ]
            refine wpAnyH_done (by kernel_rfl) ?_ _
            have kQ := Keep.new w7 (.cells #[.int .i64 t.x, .int .i64 t.y, .int .i64 t.w, .int .i64 t.h] 39)
            clear hS0
            generalize w7.alloc (.cells #[.int .i64 t.x, .int .i64 t.y, .int .i64 t.w, .int .i64 t.h] 39) = W7 at *
            generalize w7.heap.size = gQ at *
            replace hb := after hb hS (Nat.le_refl _)
            replace ho := ho.below hS (Nat.le_refl _)
            have hs1 := hb.size
            clear hS
            cases hm : meetB r q with
            | false =>
              have HZ := Lib.hid (HNO.out hm)
              clear hm HNO HYES
              go_wp2
              go_roundw
              case rel => exact ⟨k + 1, by go_num, by omega, by rw [HZ.out]; exact ho, hb⟩
              case measure => simp [intOf]; omega
            | true =>
              have HZ := Lib.hid (HYES.out hm)
              clear hm HNO HYES
              go_wp2_with (at_builtin; refine wpList_app rfl _ _ _ rfl el_int rfl (ho.alloc _) rfl (Rd.oneAt _ _ (by simp)) (Is_one [(k : Int)]) ?hla ?hba ?hKa)
              case hla => have := seenTo_length l sw sh q k; rw [Is_length, ni_length]; simp; omega
              case hba => simp; omega
              intro v' w9 ho9 hg9 hf9
              have hb9 := below_app (hb.alloc (by omega) _) (ho.alloc _) hg9 (by simp; omega) (by omega)
              clear ho hb hg9 hf9
              go_wp2
              go_roundw
              case rel => exact ⟨k + 1, by go_num, by omega, by rw [HZ.out, ni_append, Is_append]; exact ho9, hb9⟩
              case measure => simp [intOf]; omega
          · go_simp
            have kZ := Keep.new wd (.cells #[.int .i64 0, .int .i64 0, .int .i64 0, .int .i64 0] 39)
            have hgw := hS.size
            refine hK9.out _ _ (hS.alloc hS.size _) (fun hS => ?_)
            clear hK9 K9
            try simp only [Act.put, List.setIfInBounds_toArray, List.set_cons_zero, List.set_cons_succ]
            generalize wd.alloc (.cells #[.int .i64 0, .int .i64 0, .int .i64 0, .int .i64 0] 39) = we at *
            generalize wd.heap.size = gQ at *
            refine wpAnyH_ready (rs := [5]) (by kernel_rfl) (by simp) ?_
            refine AllReadyH.cons (o := _) rfl (fun K9 hK9 => ?_) AllReadyH.nil
            go_simp
            refine ((HSM.out _)).mono ?_
            rintro e w7 ⟨rfl, hx7⟩
            unfold Rc.agg
            try go_wp2_with fail
            replace kZ := keepE kZ hx7
            refine hK9.out _ _ (after hS hx7 (Nat.le_refl _)) (fun hS => ?_)
            clear hK9 K9
            try simp only [Act.put, List.setIfInBounds_toArray, List.set_cons_zero, List.set_cons_succ]
            clear hx7
            refine hTake (by kernel_rfl) (fun d _ _ _ _ h => by cases d <;> exact h) hS 6 (some 33) _ rfl (v := ?_) (by kernel_rfl) ?_ ?_
            rotate_left
            · intro _ _; go_simp; first | done | with_reducible rfl
            simp only [Act.put, List.setIfInBounds_toArray, List.set_cons_zero, List.set_cons_succ]
            refine hTake (by kernel_rfl) (fun d _ _ _ _ h => by cases d <;> exact h) hS 7 (some 40) _ rfl (v := ?_) (by kernel_rfl) ?_ ?_
            rotate_left
            · intro _ _; go_simp; first | done | with_reducible rfl
            simp only [Act.put, List.setIfInBounds_toArray, List.set_cons_zero, List.set_cons_succ]
            refine hTake (by kernel_rfl) (fun d _ _ _ _ h => by cases d <;> exact h) hS 8 (some 41) _ rfl (v := ?_) (by kernel_rfl) ?_ ?_
            rotate_left
            · intro _ _; go_simp; first | done | with_reducible rfl
            simp only [Act.put, List.setIfInBounds_toArray, List.set_cons_zero, List.set_cons_succ]
            have z0 := kZ.cell 0
            have z1 := kZ.cell 1
            have z2 := kZ.cell 2
            have z3 := kZ.cell 3
            have f0 := kZ.frozen 0
            have f1 := kZ.frozen 1
            have f2 := kZ.frozen 2
            have f3 := kZ.frozen 3
            have kQ := keep_rect kZ rfl (.int .i64 t.x) (.int .i64 t.y) (.int .i64 t.w) (.int .i64 t.h)
            refine wpAnyH_ready (rs := [10]) (by kernel_rfl) (by simp) ?_
            refine AllReadyH.cons (o := _) rfl (fun K9 hK9 => ?_) AllReadyH.nil
            go_simp
            refine hK9.out _ _ (below_set4' hS hgw _ _ _ _) (fun hS => ?_)
            clear hK9 K9
            try simp only [Act.put, List.setIfInBounds_toArray, List.set_cons_zero, List.set_cons_succ]
            clear z0 z1 z2 z3 f0 f1 f2 f3 kZ hgw
            generalize (((w7.setCell ⟨gQ, 0, none⟩ (.int .i64 t.x)).setCell ⟨gQ, 1, none⟩ (.int .i64 t.y)).setCell ⟨gQ, 2, none⟩ (.int .i64 t.w)).setCell ⟨gQ, 3, none⟩ (.int .i64 t.h) = W7 at *
            refine hTake (by kernel_rfl) (fun d _ _ _ _ h => by cases d <;> exact h) hS 11 (some 13) _ rfl (v := ?_) (by kernel_rfl) ?_ ?_
            rotate_left
            · intro _ _; go_simp; first | done | with_reducible rfl
            simp only [Act.put, List.setIfInBounds_toArray, List.set_cons_zero, List.set_cons_succ]
            refine wpAnyH_done (by kernel_rfl) ?_ _
            replace hb := after hb hS (Nat.le_refl _)
            replace ho := ho.below hS (Nat.le_refl _)
            have hs1 := hb.size
            clear hS
            cases hm : meetB r q with
            | false =>
              have HZ := Lib.hid (HNO.out hm)
              clear hm HNO HYES
              go_wp2
              go_roundw
              case rel => exact ⟨k + 1, by go_num, by omega, by rw [HZ.out]; exact ho, hb⟩
              case measure => simp [intOf]; omega
            | true =>
              have HZ := Lib.hid (HYES.out hm)
              clear hm HNO HYES
              go_wp2_with (at_builtin; refine wpList_app rfl _ _ _ rfl el_int rfl (ho.alloc _) rfl (Rd.oneAt _ _ (by simp)) (Is_one [(k : Int)]) ?hlb ?hbb ?hKb)
              case hlb => have := seenTo_length l sw sh q k; rw [Is_length, ni_length]; simp; omega
              case hbb => simp; omega
              intro v' w9 ho9 hg9 hf9
              have hb9 := below_app (hb.alloc (by omega) _) (ho.alloc _) hg9 (by simp; omega) (by omega)
              clear ho hb hg9 hf9
              go_wp2
              go_roundw
              case rel => exact ⟨k + 1, by go_num, by omega, by rw [HZ.out, ni_append, Is_append]; exact ho9, hb9⟩
              case measure => simp [intOf]; omega
        · obtain rfl : k = l.length := by omega
          have HOW := Lib.hid (ho.weak hgs)
          have HBE := Lib.hid (HB.out.trans (hb.mono HB.out.size))
          clear ho hb
          go_wp2
          go_ret
          exact ⟨_, rfl, by rw [HO.out]; exact HOW.out, HBE.out⟩
end Go.Proofs.Ytbkhbmcoococmaa
