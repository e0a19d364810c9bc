/-
  What impl.layoutOf keeps in memory; the inner rectangle of a box.
-/
import Derived.IntWalk
import Derived.Test.YtbkhbmcoococmaaInset
import Derived.Test.YtbkhbmcoococmaaReg
import Derived.Test.YtbkhbmcoococmaaShare
import Derived.StillTailTactics
import Derived.Test.YtbkhbmcoococmaaAb
import Derived.Test.YtbkhbmcoococmaaAf
import Derived.Test.YtbkhbmcoococmaaSNat
namespace Go.Proofs.Ytbkhbmcoococmaa
open Go Go.RowKit
/-- the rectangles in block S, the layout itself in block S + 1 -/
structure LyM (S : Nat) (w : World) (tv : Value) (n : Nat) (R : List Rc) : Prop where
  lt : S + 2 ≤ w.heap.size
  c0 : w.cell? ⟨S + 1, 0, none⟩ = some tv
  c1 : w.cell? ⟨S + 1, 1, none⟩ = some (.slice (some ⟨S, 0, none⟩) n n)
  own : Own w S 4 (.slice (some ⟨S, 0, none⟩) n n) (Rs R)
  len : R.length = n
theorem LyM.below {S : Nat} {w w' : World} {tv : Value} {n : Nat} {R : List Rc} (h : LyM S w tv n R) (hb : Below w.heap.size w w') : LyM S w' tv n R := by
  obtain ⟨h0, h1, h2, h3, h4⟩ := h
  refine ⟨Nat.le_trans h0 hb.size, ?_, ?_, h3.below hb (Nat.le_refl _), h4⟩
  · rw [hb.cell (p := ⟨S + 1, 0, none⟩) (by show S + 1 < _; omega)]; exact h1
  · rw [hb.cell (p := ⟨S + 1, 1, none⟩) (by show S + 1 < _; omega)]; exact h2
theorem LyM.at {S : Nat} {w : World} {tv : Value} {n : Nat} {R : List Rc} (h : LyM S w tv n R) {k : Nat} {r : Rc} (hr : R[k]? = some r) : Cells4 w S (k * 4) r := by
  obtain ⟨a, c, e, _, _, hC⟩ := h.own.rd.rects
  cases e
  obtain ⟨b, off, e, _, hC⟩ := hC k r hr
  cases e
  have := hC k r hr
  rw [Nat.zero_add] at this
  exact this
/-- a rectangle is stored -/
theorem LyM.set {S : Nat} {w : World} {tv : Value} {n : Nat} {R : List Rc} (h : LyM S w tv n R) {k : Nat} (hk : k < n) : (∀ o, w.frozen? ⟨S, o, none⟩ = false) ∧
    ∀ x : Rc, LyM S ((((w.setCell ⟨S, k * 4, none⟩ (.int .i64 x.x)).setCell ⟨S, k * 4 + 1, none⟩ (.int .i64 x.y)).setCell ⟨S, k * 4 + 2, none⟩ (.int .i64 x.w)).setCell ⟨S, k * 4 + 3, none⟩ (.int .i64 x.h)) tv n (R.set k x) := by
  obtain ⟨h0, h1, h2, h3, h4⟩ := h
  obtain ⟨b', off', n', c', e', _, hbk, _, hbs, _, hfz, _⟩ := h3.cells (by
    intro h
    have := congrArg List.length h
    rw [Rs_length, List.length_nil] at this
    omega)
  cases e'
  refine ⟨fun o => by have := hfz o; rw [Nat.zero_add] at this; exact this, fun x => ⟨by simpa [World.setCell] using h0, ?_, ?_, ?_, by rw [List.length_set]; exact h4⟩⟩
  · rw [cell_setOther _ (by dsimp only; omega), cell_setOther _ (by dsimp only; omega), cell_setOther _ (by dsimp only; omega), cell_setOther _ (by dsimp only; omega)]; exact h1
  · rw [cell_setOther _ (by dsimp only; omega), cell_setOther _ (by dsimp only; omega), cell_setOther _ (by dsimp only; omega), cell_setOther _ (by dsimp only; omega)]; exact h2
  · have := h3.setRc rfl (i := k) (by omega) x
    simp only [Nat.zero_add] at this
    exact this
theorem below_set4' {B : Nat} {w0 w : World} {g o1 o2 o3 o4 : Nat} (h : Below B w0 w) (hg : B ≤ g) (a b c d : Value) : Below B w0 ((((w.setCell ⟨g, o1, none⟩ a).setCell ⟨g, o2, none⟩ b).setCell ⟨g, o3, none⟩ c).setCell ⟨g, o4, none⟩ d) := below_set4 h hg a b c d
theorem bx_cells {w : World} {a : Option Addr} {n c : Nat} {l : List Bx} (h : Rd w 9 (.slice a n c) (Bs l)) {k : Nat} (hk : k < l.length) : ∃ b off, a = some ⟨b, off, none⟩ ∧ b < w.heap.size ∧ n = l.length ∧ Cells9 w b (off + k * 9) (bx l k) := by
  obtain ⟨a', c', e, _, _, hC⟩ := h.boxes
  cases e
  obtain ⟨b, off, rfl, hb, hC⟩ := hC k _ (bx_get hk)
  exact ⟨b, off, rfl, hb, rfl, hC k _ (bx_get hk)⟩
set_option maxRecDepth 100000 in
set_option maxHeartbeats 2000000 in
theorem inner_any {S n k : Nat} {tv : Value} {l : List Bx} {R : List Rc} {r : Rc} (w : World) (hM : LyM S w tv n R) (hrd : Rd w 9 tv (Bs l)) (hn : l.length = n) (hk : k < n) (hr : R[k]? = some r) (hs : RS r) (hp : 0 ≤ (bx l k).pad ∧ (bx l k).pad ≤ 50) :
    Calls Try.prog 79 #[.pointer (some ⟨S + 1, 0, none⟩), .int .i64 (k : Int)] w fun x w' => x = .returned (insetR r (bx l k).pad).agg ∧ Ext w w' := by
  obtain ⟨a, c, rfl, hnc, hc, _⟩ := hrd.boxes
  obtain ⟨b, off, rfl, hbl, _, hC⟩ := bx_cells hrd (hn.symm ▸ hk)
  unfold maxLen at hc
  have HCR := Lib.hid (hM.at hr)
  have HLT := Lib.hid hM.lt
  have hki : (k : Int) < n := by omega
  have hki2 : (k : Int) < l.length := by omega
  have hx0 := Below.of_alloc w (.cells #[.int .i64 0, .int .i64 0, .int .i64 0, .int .i64 0] 39)
  have k0 : Keep w.heap.size (.cells #[.int .i64 0, .int .i64 0, .int .i64 0, .int .i64 0] 39) (w.alloc (.cells #[.int .i64 0, .int .i64 0, .int .i64 0, .int .i64 0] 39)) := Keep.new _ _
  have HCC := Lib.hid (fun w9 (h : Below w.heap.size w w9) => And.intro ((hM.at hr).below h (by have := hM.lt; omega)) (And.intro (hC.below h hbl) (And.intro (show w9.cell? ⟨S + 1, 0, none⟩ = some (.slice (some ⟨b, off, none⟩) l.length c) by rw [h.cell (p := ⟨S + 1, 0, none⟩) (by have := hM.lt; show S + 1 < _; omega)]; exact hM.c0) (show w9.cell? ⟨S + 1, 1, none⟩ = some (.slice (some ⟨S, 0, none⟩) n n) by rw [h.cell (p := ⟨S + 1, 1, none⟩) (by have := hM.lt; show S + 1 < _; omega)]; exact hM.c1))))
  clear hC hrd hM HCR
  go_enter Try.func79, Try.ntmps79
  go_upto_region 1 with fail
  generalize w.alloc (.cells #[.int .i64 0, .int .i64 0, .int .i64 0, .int .i64 0] 39) = W at *
  refine wp_region_held_drew (S := fun w' => Below w.heap.size w w') (by kernel_rfl) hx0.drew (fun hS => ?_)
  have k0 : Keep w.heap.size (.cells #[.int .i64 0, .int .i64 0, .int .i64 0, .int .i64 0] 39) W.drew := k0
  clear hx0
  generalize W.drew = W at *
  refine hTake (by kernel_rfl) (fun d _ _ _ _ h => by cases d <;> exact h) hS 0 (some 5) _ rfl (v := ?_) (by kernel_rfl) ?_ ?_
  rotate_left
  · intro _ _; go_simp; first | done | with_reducible rfl
  simp only [Act.put, List.setIfInBounds_toArray, List.set_cons_zero, List.set_cons_succ]
  refine hTake (by kernel_rfl) (fun d _ _ _ _ h => by cases d <;> exact h) hS 1 (some 6) _ rfl (v := ?_) (by kernel_rfl) ?_ ?_
  rotate_left
  · intro _ _; go_simp; first | done | with_reducible rfl
  simp only [Act.put, List.setIfInBounds_toArray, List.set_cons_zero, List.set_cons_succ]
  refine hTake (by kernel_rfl) (fun d _ _ _ _ h => by cases d <;> exact h) hS 2 (some 7) _ rfl (v := ?_) (by kernel_rfl) ?_ ?_
  rotate_left
  · intro _ _; go_simp; first | done | with_reducible rfl
  simp only [Act.put, List.setIfInBounds_toArray, List.set_cons_zero, List.set_cons_succ]
  refine hTake (by kernel_rfl) (fun d _ _ _ _ h => by cases d <;> exact h) hS 3 (some 8) _ rfl (v := ?_) (by kernel_rfl) ?_ ?_
  rotate_left
  · intro w9 hS9; obtain ⟨_, _, q0, q1⟩ := HCC.out _ hS9; go_simp; first | done | with_reducible rfl
  simp only [Act.put, List.setIfInBounds_toArray, List.set_cons_zero, List.set_cons_succ]
  refine hTake (by kernel_rfl) (fun d _ _ _ _ h => by cases d <;> exact h) hS 4 (some 9) _ rfl (v := ?_) (by kernel_rfl) ?_ ?_
  rotate_left
  · intro _ _; go_simp; first | done | with_reducible rfl
  simp only [Act.put, List.setIfInBounds_toArray, List.set_cons_zero, List.set_cons_succ]
  refine hTake (by kernel_rfl) (fun d _ _ _ _ h => by cases d <;> exact h) hS 5 (some 10) _ rfl (v := ?_) (by kernel_rfl) ?_ ?_
  rotate_left
  · intro _ _; go_simp; first | done | with_reducible rfl
  simp only [Act.put, List.setIfInBounds_toArray, List.set_cons_zero, List.set_cons_succ]
  refine hTake (by kernel_rfl) (fun d _ _ _ _ h => by cases d <;> exact h) hS 6 (some 11) _ rfl (v := ?_) (by kernel_rfl) ?_ ?_
  rotate_left
  · intro w9 hS9; obtain ⟨⟨q2, q3, q4, q5⟩, _, _, _⟩ := HCC.out _ hS9; go_simp; first | done | with_reducible rfl
  simp only [Act.put, List.setIfInBounds_toArray, List.set_cons_zero, List.set_cons_succ]
  refine hTake (by kernel_rfl) (fun d _ _ _ _ h => by cases d <;> exact h) hS 7 (some 12) _ rfl (v := ?_) (by kernel_rfl) ?_ ?_
  rotate_left
  · intro _ _; go_simp; first | done | with_reducible rfl
  simp only [Act.put, List.setIfInBounds_toArray, List.set_cons_zero, List.set_cons_succ]
  refine hTake (by kernel_rfl) (fun d _ _ _ _ h => by cases d <;> exact h) hS 8 (some 13) _ rfl (v := ?_) (by kernel_rfl) ?_ ?_
  rotate_left
  · intro _ _; go_simp; first | done | with_reducible rfl
  simp only [Act.put, List.setIfInBounds_toArray, List.set_cons_zero, List.set_cons_succ]
  refine hTake (by kernel_rfl) (fun d _ _ _ _ h => by cases d <;> exact h) hS 9 (some 14) _ rfl (v := ?_) (by kernel_rfl) ?_ ?_
  rotate_left
  · intro _ _; go_simp; first | done | with_reducible rfl
  simp only [Act.put, List.setIfInBounds_toArray, List.set_cons_zero, List.set_cons_succ]
  refine hTake (by kernel_rfl) (fun d _ _ _ _ h => by cases d <;> exact h) hS 10 (some 15) _ rfl (v := ?_) (by kernel_rfl) ?_ ?_
  rotate_left
  · intro w9 hS9; obtain ⟨_, _, q0, q1⟩ := HCC.out _ hS9; go_simp; first | done | with_reducible rfl
  simp only [Act.put, List.setIfInBounds_toArray, List.set_cons_zero, List.set_cons_succ]
  refine hTake (by kernel_rfl) (fun d _ _ _ _ h => by cases d <;> exact h) hS 11 (some 16) _ rfl (v := ?_) (by kernel_rfl) ?_ ?_
  rotate_left
  · intro _ _; go_simp; first | done | with_reducible rfl
  simp only [Act.put, List.setIfInBounds_toArray, List.set_cons_zero, List.set_cons_succ]
  refine hTake (by kernel_rfl) (fun d _ _ _ _ h => by cases d <;> exact h) hS 12 (some 17) _ rfl (v := ?_) (by kernel_rfl) ?_ ?_
  rotate_left
  · intro _ _; go_simp; first | done | with_reducible rfl
  simp only [Act.put, List.setIfInBounds_toArray, List.set_cons_zero, List.set_cons_succ]
  refine hTake (by kernel_rfl) (fun d _ _ _ _ h => by cases d <;> exact h) hS 13 (some 18) _ rfl (v := ?_) (by kernel_rfl) ?_ ?_
  rotate_left
  · intro _ _; go_simp; first | done | with_reducible rfl
  simp only [Act.put, List.setIfInBounds_toArray, List.set_cons_zero, List.set_cons_succ]
  refine hTake (by kernel_rfl) (fun d _ _ _ _ h => by cases d <;> exact h) hS 14 (some 19) _ rfl (v := ?_) (by kernel_rfl) ?_ ?_
  rotate_left
  · intro w9 hS9; obtain ⟨_, ⟨q2, q3, q4, q5, q6, q7, q8, q9, q10⟩, _, _⟩ := HCC.out _ hS9; go_simp; first | done | with_reducible rfl
  simp only [Act.put, List.setIfInBounds_toArray, List.set_cons_zero, List.set_cons_succ]
  refine wpAnyH_ready (rs := [15]) (by kernel_rfl) (by simp) ?_
  refine AllReadyH.cons (o := _) rfl (fun K9 hK9 => ?_) AllReadyH.nil
  go_simp
  refine (inset_any (r := r) _ hs hp).mono ?_
  rintro e w' ⟨rfl, hx⟩
  try go_wp2_with fail
  have hS2 := after hS hx (Nat.le_refl _)
  have k2 : Keep w.heap.size (.cells #[.int .i64 0, .int .i64 0, .int .i64 0, .int .i64 0] 39) w' := by
    unfold Keep
    rw [hx.block _ k0.lt]
    exact k0
  refine hK9.out _ _ hS2 (fun hS => ?_)
  clear hK9 K9
  try simp only [Act.put, List.setIfInBounds_toArray, List.set_cons_zero, List.set_cons_succ]
  clear hx hS2 k0
  have q0 := k2.cell 0
  have q1 := k2.cell 1
  have q2 := k2.cell 2
  have q3 := k2.cell 3
  have z0 := k2.frozen 0
  have z1 := k2.frozen 1
  have z2 := k2.frozen 2
  have z3 := k2.frozen 3
  refine wpAnyH_ready (rs := [16]) (by kernel_rfl) (by simp) ?_
  refine AllReadyH.cons (o := _) rfl (fun K9 hK9 => ?_) AllReadyH.nil
  unfold Rc.agg
  go_simp
  refine hK9.out _ _ (below_set4 hS (Nat.le_refl _) _ _ _ _) (fun hS => ?_)
  clear hK9 K9
  try simp only [Act.put, List.setIfInBounds_toArray, List.set_cons_zero, List.set_cons_succ]
  refine wpAnyH_done (by kernel_rfl) ?_ _
  have HS := Lib.hid hS
  clear hS
  go_wp2
  refine bodyPost_ret (v := (insetR r (bx l k).pad).agg) ?_ rfl ⟨rfl, HS.out⟩
  simp [results, Try.results79, go_sem, q0, q1, q2, q3, Rc.agg]
end Go.Proofs.Ytbkhbmcoococmaa
namespace Go.Proofs.Ytbkhbmcoococmaa
open Go Go.RowKit
/-- the first J boxes in box p, which has the rectangle r, are put -/
def PutTo (l : List Bx) (p : Nat) (r : Rc) (J : Nat) (R R' : List Rc) : Prop :=
  (∀ j k, j < J → (kid l (p : Int))[j]? = some k → R'[k]? = some (placeR l p j r k)) ∧ ∀ i, (∀ j, j < J → (kid l (p : Int))[j]? ≠ some i) → R'[i]? = R[i]?
theorem PutTo.zero (l : List Bx) (p : Nat) (r : Rc) (R : List Rc) : PutTo l p r 0 R R := ⟨fun _ _ h _ => absurd h (Nat.not_lt_zero _), fun _ _ => rfl⟩
theorem PutTo.step {l : List Bx} {p : Nat} {r : Rc} {J k : Nat} {R R' : List Rc} (h : PutTo l p r J R R') (hk : (kid l (p : Int))[J]? = some k) (hl : k < R'.length) : PutTo l p r (J + 1) R (R'.set k (placeR l p J r k)) := by
  refine ⟨fun j k' hj hk' => ?_, fun i hi => ?_⟩
  · by_cases hJ : j = J
    · subst hJ
      rw [hk] at hk'
      cases hk'
      rw [List.getElem?_set_self hl]
    · have hne : k ≠ k' := by
        rintro rfl
        have h1 := posK_eq hk
        have h2 := posK_eq hk'
        omega
      rw [List.getElem?_set_ne hne]
      exact h.1 j k' (by omega) hk'
  · have hne : k ≠ i := fun e => hi J (Nat.lt_succ_self _) (e ▸ hk)
    rw [List.getElem?_set_ne hne]
    exact h.2 i fun j hj => hi j (by omega)
theorem RB.rs {d : Int} {r : Rc} (h : RB d r) (hd : d ≤ 1000000) : RS r := by
  obtain ⟨h1, h2, h3, h4, h5, h6, h7, h8⟩ := h
  exact ⟨by omega, by omega, by omega, by omega⟩
set_option maxRecDepth 100000 in
set_option maxHeartbeats 2000000 in
theorem block_any {S n p B : Nat} {tv lv : Value} {l : List Bx} {R : List Rc} {r : Rc} (w : World) (hM : LyM S w tv n R) (hrd : Rd w 9 tv (Bs l)) (hw0 : ∀ w', Below S w w' → Rd w' 9 tv (Bs l)) (hv : Valid l) (hn : l.length = n) (hp : p < n) (hr : R[p]? = some r) (hs : RB 100000 r)
    (hL : Own w B 1 lv (Is (ni (kid l (p : Int))))) (hB : S < B) (hk2 : (bx l p).kind ≠ 2) (hk3 : (bx l p).kind ≠ 3) :
    Calls Try.prog 84 #[.pointer (some ⟨S + 1, 0, none⟩), .int .i64 (p : Int), lv] w fun x w' => x = .returned (.tuple #[]) ∧ ∃ R', LyM S w' tv n R' ∧ Below S w w' ∧ PutTo l p r (kid l (p : Int)).length R R' := by
  subst hn
  have hbd := okB_bounds (hv.ok p (by omega))
  have hin := inset_ok (r := r) (e := (bx l p).pad) (by omega) (by obtain ⟨_, _, _, _, h5, h6, _, _⟩ := hs; exact ⟨h5, h6⟩) (by obtain ⟨_, _, _, _, _, _, h7, h8⟩ := hs; exact ⟨h7, h8⟩)
  have hsz0 := hM.lt
  have HI := Lib.hid (inner_any w hM hrd rfl hp hr (hs.rs (by omega)) (by omega))
  have HPL := Lib.hid (fun j k => show placeR l p j r k = ⟨(insetR r (bx l p).pad).x, (insetR r (bx l p).pad).y + blkO l p j, (insetR r (bx l p).pad).w, (natS l k).2⟩ by unfold placeR; rw [if_neg hk2, if_neg hk3])
  obtain ⟨al, cl, rfl, hnl, hcl, _⟩ := hL.rd.ints
  rw [ni_length] at hnl ⊢
  obtain ⟨at_, ct, rfl, hnt, hct, _⟩ := hrd.boxes
  unfold maxLen at hcl hct
  have hF : ∀ a b w, (Instr.field 77 (.agg #[a, b]) 1).run Try.prog w = .ok b w := fun _ _ _ => by kernel_rfl
  have hpi : (p : Int) < l.length := by omega
  have hbs : RB 100000 r := hs
  obtain ⟨s1, s2, s3, s4, s5, s6, s7, s8⟩ := hbs
  unfold Rc.agg at HI
  go_enter Try.func84, Try.ntmps84
  go_wp2_with (fail)
  refine HI.out.mono ?_
  rintro e w1 ⟨rfl, hx⟩
  generalize hq : insetR r (bx l p).pad = q at *
  have hb1 : Below S w (w1.alloc (.cells q.arr 39)) := ((hx.alloc hx.size _).mono (by omega))
  have hM1 := (hM.below hx).below (Below.of_alloc w1 (.cells q.arr 39))
  have hL1 := (hL.below hx (Nat.le_refl _)).alloc (.cells q.arr 39)
  have hK1 := Keep.new w1 (.cells q.arr 39)
  have hs1 := hx.size
  obtain ⟨g, hg⟩ : ∃ g, w1.heap.size = g := ⟨_, rfl⟩
  rw [hg] at hK1 hs1
  unfold Rc.arr at hb1 hM1 hL1 hK1
  clear hM hL hx HI
  go_wp2_with (fail)
  rw [ni_length] at hL1
  generalize w1.alloc (.cells #[.int .i64 q.x, .int .i64 q.y, .int .i64 q.w, .int .i64 q.h] 39) = W at *
  have HW0 := Lib.hid hw0
  have HV := Lib.hid hv
  have HKN := Lib.hid (hv.kids p (by omega)).1
  have HB0 := Lib.hid (blkO_le (j := 0) hv (show p < l.length by omega) (Nat.zero_le _))
  clear hw0 hv hg hr hrd
  go_loopw [7, 18] (fun y i wr => ∃ j : Nat, j ≤ (kid l (p : Int)).length ∧ i = .int .i64 j ∧ y = .int .i64 (q.y + blkO l p j) ∧ (∃ R', LyM S wr (.slice at_ l.length ct) l.length R' ∧ Hid (PutTo l p r j R R')) ∧ Own wr B 1 (.slice al (kid l (p : Int)).length cl) (Is (ni (kid l (p : Int)))) ∧
    Keep g (.cells #[.int .i64 q.x, .int .i64 q.y, .int .i64 q.w, .int .i64 q.h] 39) wr ∧ Below S w wr) (fun _ i _ => (kid l (p : Int)).length - (intOf i).toNat)
  case atStart => exact ⟨0, Nat.zero_le _, rfl, by simp [blkO, isum], ⟨R, hM1, PutTo.zero _ _ _ _⟩, hL1, hK1, hb1⟩
  case round =>
    clear hM1 hL1 hK1 hb1
    obtain ⟨j, hj, rfl, rfl, ⟨R', hM, hP⟩, hL, hK, hb⟩ := hrel
    by_cases hlt : j < (kid l (p : Int)).length
    · obtain ⟨k, hk⟩ : ∃ k, (kid l (p : Int))[j]? = some k := ⟨_, List.getElem?_eq_getElem hlt⟩
      obtain ⟨hkl, hkp⟩ := mem_kid_iff.1 (List.mem_of_getElem? hk)
      obtain ⟨ga, oa, rfl, ck⟩ := hL.rd.intAt (show (ni (kid l (p : Int)))[j]? = some (k : Int) by simp [ni, hk])
      have hji : (j : Int) < (kid l (p : Int)).length := by omega
      have hki : (k : Int) < l.length := by omega
      have hkw : IntKind.i64.wrap ((j : Int) + 1) = (j : Int) + 1 := by rw [IntKind.wrap_i64]; omega
      have hRD := HW0.out wr hb
      have HN := Lib.hid (natural_any HV.out wr (i := (k : Int)) (by omega) (by omega) hRD)
      rw [Int.toNat_natCast] at HN
      have hn4 := nat_4000 HV.out hkl
      have hbo := blkO_le (j := j) HV.out (show p < l.length by omega) hj
      have hbo2 := blkO_le (j := j + 1) HV.out (show p < l.length by omega) hlt
      have HBS := Lib.hid (blkO_succ hk)
      have HPS := Lib.hid (fun (R' : List Rc) (h : PutTo l p r j R R') (hl : k < R'.length) => h.step hk hl)
      have HRE := Lib.hid (HPL.out j k)
      have m0 := hM.c0
      clear hk hkp hRD
      go_wp2_with (fail)
      refine HN.out.mono ?_
      rintro e w2 ⟨rfl, hx2⟩
      have hs2 := hx2.size
      have hM2 := hM.below hx2
      have hL2 := hL.below hx2 (Nat.le_refl _)
      have hK2 : Keep g (.cells #[.int .i64 q.x, .int .i64 q.y, .int .i64 q.w, .int .i64 q.h] 39) w2 := by
        unfold Keep
        rw [hx2.block _ hK.lt]
        exact hK
      have hb2 := hb.trans (hx2.mono (by have := hM.lt; omega))
      clear hx2 hM hL hK hb ck m0
      have d0 : w2.drew.cell? ⟨S + 1, 1, none⟩ = some (.slice (some ⟨S, 0, none⟩) l.length l.length) := hM2.c1
      have d1 : w2.drew.cell? ⟨g, 0, none⟩ = some (.int .i64 q.x) := hK2.cell 0
      have d2 : w2.drew.cell? ⟨g, 2, none⟩ = some (.int .i64 q.w) := hK2.cell 2
      go_upto_region 6 with fail
      go_still_tail 13, (by kernel_rfl)
      repeat still_step
      try refine wpStill_nil ?_
      change wpList _ _ _ _ _ w2.drew
      have hM3 : LyM S w2.drew (.slice at_ l.length ct) l.length R' := ⟨hM2.lt, hM2.c0, hM2.c1, hM2.own, hM2.len⟩
      have hL3 := hL2.drew
      have hK3 : Keep g (.cells #[.int .i64 q.x, .int .i64 q.y, .int .i64 q.w, .int .i64 q.h] 39) w2.drew := hK2
      have hb3 := hb2.drew
      clear d0 d1 d2 hM2 hL2 hK2 hb2 hs2
      generalize w2.drew = w3 at *
      have hkR : k < R'.length := by rw [hM3.len]; exact hkl
      obtain ⟨x, hx⟩ : ∃ x, R'[k]? = some x := ⟨_, List.getElem?_eq_getElem hkR⟩
      obtain ⟨y0, y1, y2, y3⟩ := hM3.at hx
      obtain ⟨hfz, hset⟩ := hM3.set hkl
      have hM4 := hset ⟨q.x, q.y + blkO l p j, q.w, (natS l k).2⟩
      have f0 := hfz (k * 4)
      have f1 := hfz (k * 4 + 1)
      have f2 := hfz (k * 4 + 2)
      have f3 := hfz (k * 4 + 3)
      have hLne : ∀ o, blk (.slice (some ⟨ga, oa, none⟩) (kid l (p : Int)).length cl) ≠ some (Addr.block ⟨S, o, none⟩) := fun o e => by have := (hL3.lt _ e).1; dsimp only at this; omega
      have hL4 := (((hL3.setOther (hLne (k * 4)) (.int .i64 q.x)).setOther (hLne (k * 4 + 1)) (.int .i64 (q.y + blkO l p j))).setOther (hLne (k * 4 + 2)) (.int .i64 q.w)).setOther (hLne (k * 4 + 3)) (.int .i64 (natS l k).2)
      have hK4 := (((hK3.setOther (p := ⟨S, k * 4, none⟩) (by dsimp only; omega) (.int .i64 q.x)).setOther (p := ⟨S, k * 4 + 1, none⟩) (by dsimp only; omega) (.int .i64 (q.y + blkO l p j))).setOther (p := ⟨S, k * 4 + 2, none⟩) (by dsimp only; omega) (.int .i64 q.w)).setOther (p := ⟨S, k * 4 + 3, none⟩) (by dsimp only; omega) (.int .i64 (natS l k).2)
      have hb4 := below_set4 (g := S) (o1 := k * 4) (o2 := k * 4 + 1) (o3 := k * 4 + 2) (o4 := k * 4 + 3) hb3 (Nat.le_refl _) (.int .i64 q.x) (.int .i64 (q.y + blkO l p j)) (.int .i64 q.w) (.int .i64 (natS l k).2)
      obtain ⟨bt, ot, rfl, _, _, hC4⟩ := bx_cells (HW0.out _ hb4) (show p < l.length from hp)
      have g5 := hC4.c5
      have g0 := hM4.c0
      have HM4 := Lib.hid hM4
      have HL4 := Lib.hid hL4
      have HK4 := Lib.hid hK4
      have HB4 := Lib.hid hb4
      have HP4 := Lib.hid (HPS.out R' hP.out hkR)
      clear hM3 hset hM4 hfz hLne hL4 hL3 hK3 hK4 hb3 hb4 hC4 hx
      go_wp2
      go_roundw
      case rel =>
        refine ⟨j + 1, by omega, by go_num, by rw [HBS.out]; congr 1; omega, ⟨_, HM4.out, ?_⟩, HL4.out, HK4.out, HB4.out⟩
        have h := HP4.out
        rw [HRE.out] at h
        exact h
      case measure => simp [intOf]; omega
    · obtain rfl : j = (kid l (p : Int)).length := by omega
      go_wp2
      go_end0
      exact ⟨rfl, R', hM, hb, hP.out⟩
end Go.Proofs.Ytbkhbmcoococmaa
namespace Go.Proofs.Ytbkhbmcoococmaa
open Go Go.RowKit
/-- a valid rectangle -/
structure VR (r : Rc) : Prop where
  x : inR r.x (-100000) 100000 = true
  y : inR r.y (-100000) 100000 = true
  w : inR r.w 0 200000 = true
  h : inR r.h 0 200000 = true
theorem RB.vr {r : Rc} (h : RB 100000 r) : VR r := by
  obtain ⟨h1, h2, h3, h4, h5, h6, h7, h8⟩ := h
  refine ⟨?_, ?_, ?_, ?_⟩ <;> (rw [inR_iff]; omega)
theorem keep_next (w : World) (o1 o2 : Obj) : Keep (w.heap.size + 1) o2 ((w.alloc o1).alloc o2) := by
  have := Keep.new (w.alloc o1) o2
  rw [World.size_alloc] at this
  exact this
theorem keep_next2 (w : World) (o1 o2 o3 : Obj) : Keep (w.heap.size + 2) o3 (((w.alloc o1).alloc o2).alloc o3) := by
  have := keep_next (w.alloc o1) o2 o3
  rw [World.size_alloc] at this
  exact this
theorem sizeOk_any (a : Int) (w : World) : Calls Try.prog 56 #[.int .i64 a] w fun e w' => e = .returned (.bool (inR a 0 200000)) ∧ w = w' := by
  go_enter Try.func56, Try.ntmps56
  go_wp2_with (go_at_call 66; refine (within_any _ _ _ _).mono ?_; rintro e w' ⟨rfl, rfl⟩)
  go_ret
  exact ⟨rfl, rfl⟩
set_option maxHeartbeats 1000000 in
theorem rvalid_any {r : Rc} (w : World) (hr : VR r) :
    Calls Try.prog 72 #[r.agg] w fun x w' => x = .returned (.bool true) ∧ Ext w w' := by
  obtain ⟨h1, h2, h3, h4⟩ := hr
  unfold Rc.agg
  go_enter Try.func72, Try.ntmps72
  go_wp2_with (fail)
  refine (within_any _ _ _ _).mono ?_
  rintro e w1 ⟨he, rfl⟩
  rw [h1] at he
  subst he
  go_wp2_with (fail)
  refine (within_any _ _ _ _).mono ?_
  rintro e w1 ⟨he, rfl⟩
  rw [h2] at he
  subst he
  go_wp2_with (fail)
  refine (sizeOk_any _ _).mono ?_
  rintro e w1 ⟨he, rfl⟩
  rw [h3] at he
  subst he
  go_wp2_with (fail)
  refine (sizeOk_any _ _).mono ?_
  rintro e w1 ⟨he, rfl⟩
  rw [h4] at he
  subst he
  go_wp2
  go_ret
  exact ⟨rfl, Below.of_alloc _ _⟩
set_option maxHeartbeats 2000000 in
theorem beyond_any {r s : Rc} (w : World) (hr : RS r) (hs : RS s) :
    Calls Try.prog 78 #[r.agg, s.agg] w fun x w' => x = .returned (.bool (bynd r s)) ∧ Ext w w' := by
  obtain ⟨x, y, rw_, rh⟩ := r
  obtain ⟨x2, y2, w2, v2⟩ := s
  obtain ⟨a1, a2, a3, a4⟩ := hr
  obtain ⟨b1, b2, b3, b4⟩ := hs
  dsimp only at a1 a2 a3 a4 b1 b2 b3 b4
  have hb0 := ext_two w (.cells #[.int .i64 x, .int .i64 y, .int .i64 rw_, .int .i64 rh] 39) (.cells #[.int .i64 x2, .int .i64 y2, .int .i64 w2, .int .i64 v2] 39)
  unfold Rc.agg
  go_enter Try.func78, Try.ntmps78
  by_cases h1 : x < x2
  · go_wp2
    go_ret
    exact ⟨by simp [bynd, h1], hb0⟩
  · by_cases h2 : y < y2
    · go_wp2
      go_ret
      exact ⟨by simp [bynd, h2], hb0⟩
    · by_cases h3 : x2 + w2 < x + rw_
      · go_wp2
        go_ret
        exact ⟨by simp [bynd, h3], hb0⟩
      · by_cases h4 : y2 + v2 < y + rh
        · go_wp2
          go_ret
          exact ⟨by simp [bynd, h4], hb0⟩
        · go_wp2
          go_ret
          exact ⟨by simp [bynd, h1, h2, h3, h4], hb0⟩
end Go.Proofs.Ytbkhbmcoococmaa
namespace Go.Proofs.Ytbkhbmcoococmaa
open Go Go.RowKit
/-- only block S is written -/
abbrev Gr (S : Nat) (w w' : World) : Prop := w.grownBy w' (some S)
theorem gr_refl (S : Nat) (w : World) : Gr S w w := ⟨rfl, rfl, rfl, Nat.le_refl _, fun _ _ _ => rfl⟩
theorem gr_trans {S : Nat} {a b c : World} (h : Gr S a b) (k : Gr S b c) : Gr S a c :=
  ⟨by rw [k.os, h.os], by rw [k.tape, h.tape], by rw [k.output, h.output], Nat.le_trans h.size k.size, fun q hq hne => by rw [k.block q (Nat.lt_of_lt_of_le hq h.size) hne, h.block q hq hne]⟩
theorem gr_ext {S : Nat} {a b : World} (h : Ext a b) : Gr S a b := ⟨h.os, h.tape, h.output, h.size, fun q hq _ => h.block q hq⟩
theorem gr_drew {S : Nat} {a b : World} (h : Gr S a b) : Gr S a b.drew := ⟨h.os, h.tape, h.output, h.size, h.block⟩
theorem gr_below {S : Nat} {a b : World} (h : Gr S a b) (hS : S ≤ a.heap.size) : Below S a b := ⟨h.os, h.tape, h.output, h.size, fun q hq => h.block q (by omega) (by simp; omega)⟩
theorem gr_set {S : Nat} {a b : World} (h : Gr S a b) (o : Nat) (v : Value) : Gr S a (b.setCell ⟨S, o, none⟩ v) :=
  ⟨h.os, h.tape, h.output, by simpa [World.setCell] using h.size, fun q hq hne => by rw [Below.heap_setCell _ _ _ _ (by simpa using hne)]; exact h.block q hq hne⟩
theorem Keep.gr {S g : Nat} {o : Obj} {w w' : World} (h : Keep g o w) (hg : Gr S w w') (hne : g ≠ S) : Keep g o w' := by
  have hl := h.lt
  unfold Keep
  rw [hg.block g hl (by simpa using hne)]
  exact h
theorem Own.gr {S base size : Nat} {w w' : World} {v : Value} {xs : List Value} (h : Own w base size v xs) (hS : S < base) (hg : Gr S w w') : Own w' base size v xs := by
  refine h.kept hg ?_
  refine .inr fun e => ?_
  have := (h.lt _ e).1
  omega
theorem Own.intAt {S k : Nat} {w : World} {a : Option Addr} {n c : Nat} {l : List Int} {x : Int} (h : Own w (S + 1) 1 (.slice a n c) (Is l)) (hk : l[k]? = some x) : ∃ b off, a = some ⟨b, off, none⟩ ∧ b ≠ S ∧ w.cell? ⟨b, off + k, none⟩ = some (.int .i64 x) := by
  obtain ⟨b, off, rfl, hc⟩ := h.rd.intAt hk
  have hl := (List.getElem?_eq_some_iff.1 hk).1
  refine ⟨b, off, rfl, ?_, hc⟩
  obtain ⟨a', n', c', e, h1, h2, _, h3⟩ := h
  cases e
  rw [Is_length] at h1
  rcases h3 with h3 | ⟨g, o, cur, e, ha, hb, _⟩
  · omega
  · cases ha
    omega
/-- the block of a list of rectangles -/
theorem rects_lt {S n : Nat} {w : World} {xs : List Value} (h : Own w S 4 (.slice (some ⟨S, 0, none⟩) n n) xs) (hn : 0 < n) : S < w.heap.size :=
  (h.lt S (by show (if n = 0 then none else some S) = _; rw [if_neg (by omega)])).2
theorem gr_cell {S : Nat} {w w' : World} (h : Gr S w w') {b o : Nat} {v : Value} (hc : w.cell? ⟨b, o, none⟩ = some v) (hne : b ≠ S) : w'.cell? ⟨b, o, none⟩ = some v := h.cell hc (by simpa using hne)
/-- a rectangle stored into the list -/
theorem rects_at {S n : Nat} {w : World} {R : List Rc} (h : Own w S 4 (.slice (some ⟨S, 0, none⟩) n n) (Rs R)) (hR : R.length = n) {p : Nat} (hp : p < n) :
    (∀ o, w.frozen? ⟨S, o, none⟩ = false) ∧ (∃ z, Cells4 w S (p * 4) z) ∧
    ∀ x : Rc, Own ((((w.setCell ⟨S, p * 4, none⟩ (.int .i64 x.x)).setCell ⟨S, p * 4 + 1, none⟩ (.int .i64 x.y)).setCell ⟨S, p * 4 + 2, none⟩ (.int .i64 x.w)).setCell ⟨S, p * 4 + 3, none⟩ (.int .i64 x.h)) S 4 (.slice (some ⟨S, 0, none⟩) n n) (Rs (R.set p x)) := by
  have h0 := h
  obtain ⟨b', off', n', c', e', _, hbk, _, hbs, _, hfz, _⟩ := h0.cells (by
    intro h
    have := congrArg List.length h
    rw [Rs_length, List.length_nil] at this
    omega)
  cases e'
  refine ⟨fun o => by have := hfz o; rw [Nat.zero_add] at this; exact this, ?_, fun x => ?_⟩
  · obtain ⟨a, c, e, _, _, hC⟩ := h.rd.rects
    cases e
    obtain ⟨b, off, e, _, hC⟩ := hC p R[p] (List.getElem?_eq_getElem (by omega))
    cases e
    have := hC p R[p] (List.getElem?_eq_getElem (by omega))
    rw [Nat.zero_add] at this
    exact ⟨_, this⟩
  · have := h.setRc rfl (i := p) (by omega) x
    simp only [Nat.zero_add] at this
    exact this
/-- what lies in memory while the boxes in a box are placed -/
structure PlM (S g8 g9 : Nat) (w0 w : World) (lv : Value) (l : List Bx) (p : Nat) (q : Rc) : Prop where
  g : Gr S w0 w
  b : Keep g8 (.cells (bx l p).arr 30) w
  r : Keep g9 (.cells q.arr 39) w
  L : Own w (S + 1) 1 lv (Is (ni (kid l (p : Int))))
  c8 : g8 ≠ S
  c9 : g9 ≠ S
theorem PlM.gr {S g8 g9 : Nat} {w0 w w' : World} {lv : Value} {l : List Bx} {p : Nat} {q : Rc} (h : PlM S g8 g9 w0 w lv l p q) (hg : Gr S w w') : PlM S g8 g9 w0 w' lv l p q :=
  ⟨gr_trans h.g hg, h.b.gr hg h.c8, h.r.gr hg h.c9, h.L.gr (Nat.lt_succ_self S) hg, h.c8, h.c9⟩
theorem place_row {l : List Bx} {p : Nat} (h : (bx l p).kind = 2) (j k : Nat) (r : Rc) : placeR l p j r k = ⟨(insetR r (bx l p).pad).x + offK true l p (insetR r (bx l p).pad).w j, (insetR r (bx l p).pad).y, (szs true l p (insetR r (bx l p).pad).w).getD j 0, (insetR r (bx l p).pad).h⟩ := by
  unfold placeR
  rw [if_pos h]
theorem place_col {l : List Bx} {p : Nat} (h : (bx l p).kind = 3) (j k : Nat) (r : Rc) : placeR l p j r k = ⟨(insetR r (bx l p).pad).x, (insetR r (bx l p).pad).y + offK false l p (insetR r (bx l p).pad).h j, (insetR r (bx l p).pad).w, (szs false l p (insetR r (bx l p).pad).h).getD j 0⟩ := by
  unfold placeR
  rw [if_neg (by omega), if_pos h]
theorem place_blk {l : List Bx} {p : Nat} (h : (bx l p).kind = 1) (j k : Nat) (r : Rc) : placeR l p j r k = ⟨(insetR r (bx l p).pad).x, (insetR r (bx l p).pad).y + blkO l p j, (insetR r (bx l p).pad).w, (natS l k).2⟩ := by
  unfold placeR
  rw [if_neg (by omega), if_neg (by omega)]
end Go.Proofs.Ytbkhbmcoococmaa
namespace Go.Proofs.Ytbkhbmcoococmaa
open Go Go.RowKit
set_option maxRecDepth 100000 in
set_option maxHeartbeats 2000000 in
theorem sflexes_true {tv lv : Value} {l : List Bx} {p : Nat} (w : World) (hv : Valid l) (hrd : Rd w 9 tv (Bs l)) (hp : p < l.length) (hL : Rd w 1 lv (Is (ni (kid l (p : Int))))) :
    Calls Try.prog 113 #[tv, lv, .bool true] w fun e w' => ∃ v', e = .returned v' ∧ Own w' w.heap.size 5 v' (Fs (flxsOf true l p)) ∧ Ext w w' := by
  have HRD := Lib.hid hrd
  have HV := Lib.hid hv
  obtain ⟨at_, ct, rfl, hnt, hct, _⟩ := hrd.boxes
  obtain ⟨al, cl, rfl, hnl, hcl, _⟩ := hL.ints
  rw [ni_length] at hnl hL ⊢
  have HL := Lib.hid hL
  unfold maxLen at hct hcl
  have hkn := (HV.out.kids p hp).1
  have hhi := HV.out.hi
  clear hv hrd hL
  have hb0 := Below.of_alloc w (.cells #[] 37)
  go_enter Try.func113, Try.ntmps113
  go_wp2_with (fail)
  go_loopw [7, 8] (fun out i wr => ∃ k : Nat, k ≤ (kid l (p : Int)).length ∧ i = .int .i64 k ∧ Own wr w.heap.size 5 out (Fs ((flxsOf true l p).take k)) ∧ Below w.heap.size w wr) (fun _ i _ => (kid l (p : Int)).length - (intOf i).toNat)
  case atStart => exact ⟨0, Nat.zero_le _, rfl, Own.empty _ _ _ _, hb0⟩
  case round =>
    clear hb0
    obtain ⟨k, hk, rfl, ho, hb⟩ := hrel
    have hsz := hb.size
    by_cases hlt : k < (kid l (p : Int)).length
    · obtain ⟨q, hq⟩ : ∃ q, (kid l (p : Int))[k]? = some q := ⟨_, List.getElem?_eq_getElem hlt⟩
      obtain ⟨hql, hqp⟩ := mem_kid_iff.1 (List.mem_of_getElem? hq)
      obtain ⟨ga, oa, rfl, ck⟩ := (HL.out.below hb (Nat.le_refl _)).intAt (show (ni (kid l (p : Int)))[k]? = some (q : Int) by simp [ni, hq])
      have HN := Lib.hid (snatural_any HV.out wr (i := (q : Int)) (by omega) (by omega) (HRD.out.below hb (Nat.le_refl _)))
      rw [Int.toNat_natCast] at HN
      have ET := Lib.hid (show Fs ((flxsOf true l p).take (k + 1)) = Fs ((flxsOf true l p).take k) ++ Fs [flxOf true l q] by
        rw [List.take_add_one, show (flxsOf true l p)[k]? = some (flxOf true l q) by unfold flxsOf; rw [List.getElem?_map, hq]; rfl, Fs_append]
        rfl)
      have hlk : ((flxsOf true l p).take k).length ≤ 16 := by rw [List.length_take]; omega
      have hlti : (k : Int) < (kid l (p : Int)).length := by omega
      have hqi : (q : Int) < l.length := by omega
      have hkw : IntKind.i64.wrap ((k : Int) + 1) = (k : Int) + 1 := by rw [IntKind.wrap_i64]; omega
      have CK := Lib.hid (fun w9 (h : Ext wr w9) => cell_below h ck)
      clear hq hqp
      go_wp2_with (fail)
      refine HN.out.mono ?_
      rintro e w3 ⟨rfl, hx3⟩
      have ck3 := CK.out w3 hx3
      have ho3 := ho.below hx3 (Nat.le_refl _)
      have hb3 := hb.trans (hx3.mono hsz)
      have hs3 := hb3.size
      obtain ⟨bt, ot, rfl, hbt, _, ⟨d0, d1, d2, d3, d4, d5, d6, d7, d8⟩⟩ := bx_cells (HRD.out.below hb3 (Nat.le_refl _)) hql
      clear HN ck hx3 ho hb CK hbt
      go_wp2_with (at_builtin; refine wpList_app rfl _ _ _ rfl el_flex rfl ((ho3.alloc _).alloc _) rfl (show Rd _ 5 _ (Fs [flxOf true l q]) from Rd.oneAt _ _ (by simp)) (Fs_one _) ?hl ?hb ?hK)
      case hl => rw [Fs_length, Fs_length]; simp only [List.length_singleton]; omega
      case hb => simp; omega
      intro v' w5 ho5 hg5 hf5
      have hb5 := below_app ((hb3.alloc hs3 _).alloc (by simp; omega) _) ((ho3.alloc _).alloc _) hg5 (by simp; omega) (Nat.le_refl _)
      go_wp2
      go_roundw
      case rel => exact ⟨k + 1, by omega, by go_num, by rw [ET.out]; exact ho5, hb5⟩
      case measure => simp [intOf]; omega
    · obtain rfl : k = (kid l (p : Int)).length := by omega
      rw [List.take_of_length_le (by rw [flxs_length]; exact Nat.le_refl _)] at ho
      have hjj : ¬ ((kid l (p : Int)).length : Int) < (kid l (p : Int)).length := by omega
      go_wp2
      go_ret
      exact ⟨_, rfl, ho, hb⟩
set_option maxRecDepth 100000 in
set_option maxHeartbeats 2000000 in
theorem sflexes_false {tv lv : Value} {l : List Bx} {p : Nat} (w : World) (hv : Valid l) (hrd : Rd w 9 tv (Bs l)) (hp : p < l.length) (hL : Rd w 1 lv (Is (ni (kid l (p : Int))))) :
    Calls Try.prog 113 #[tv, lv, .bool false] w fun e w' => ∃ v', e = .returned v' ∧ Own w' w.heap.size 5 v' (Fs (flxsOf false l p)) ∧ Ext w w' := by
  have HRD := Lib.hid hrd
  have HV := Lib.hid hv
  obtain ⟨at_, ct, rfl, hnt, hct, _⟩ := hrd.boxes
  obtain ⟨al, cl, rfl, hnl, hcl, _⟩ := hL.ints
  rw [ni_length] at hnl hL ⊢
  have HL := Lib.hid hL
  unfold maxLen at hct hcl
  have hkn := (HV.out.kids p hp).1
  have hhi := HV.out.hi
  clear hv hrd hL
  have hb0 := Below.of_alloc w (.cells #[] 37)
  go_enter Try.func113, Try.ntmps113
  go_wp2_with (fail)
  go_loopw [7, 8] (fun out i wr => ∃ k : Nat, k ≤ (kid l (p : Int)).length ∧ i = .int .i64 k ∧ Own wr w.heap.size 5 out (Fs ((flxsOf false l p).take k)) ∧ Below w.heap.size w wr) (fun _ i _ => (kid l (p : Int)).length - (intOf i).toNat)
  case atStart => exact ⟨0, Nat.zero_le _, rfl, Own.empty _ _ _ _, hb0⟩
  case round =>
    clear hb0
    obtain ⟨k, hk, rfl, ho, hb⟩ := hrel
    have hsz := hb.size
    by_cases hlt : k < (kid l (p : Int)).length
    · obtain ⟨q, hq⟩ : ∃ q, (kid l (p : Int))[k]? = some q := ⟨_, List.getElem?_eq_getElem hlt⟩
      obtain ⟨hql, hqp⟩ := mem_kid_iff.1 (List.mem_of_getElem? hq)
      obtain ⟨ga, oa, rfl, ck⟩ := (HL.out.below hb (Nat.le_refl _)).intAt (show (ni (kid l (p : Int)))[k]? = some (q : Int) by simp [ni, hq])
      have HN := Lib.hid (snatural_any HV.out wr (i := (q : Int)) (by omega) (by omega) (HRD.out.below hb (Nat.le_refl _)))
      rw [Int.toNat_natCast] at HN
      have ET := Lib.hid (show Fs ((flxsOf false l p).take (k + 1)) = Fs ((flxsOf false l p).take k) ++ Fs [flxOf false l q] by
        rw [List.take_add_one, show (flxsOf false l p)[k]? = some (flxOf false l q) by unfold flxsOf; rw [List.getElem?_map, hq]; rfl, Fs_append]
        rfl)
      have hlk : ((flxsOf false l p).take k).length ≤ 16 := by rw [List.length_take]; omega
      have hlti : (k : Int) < (kid l (p : Int)).length := by omega
      have hqi : (q : Int) < l.length := by omega
      have hkw : IntKind.i64.wrap ((k : Int) + 1) = (k : Int) + 1 := by rw [IntKind.wrap_i64]; omega
      have CK := Lib.hid (fun w9 (h : Ext wr w9) => cell_below h ck)
      clear hq hqp
      go_wp2_with (fail)
      refine HN.out.mono ?_
      rintro e w3 ⟨rfl, hx3⟩
      have ck3 := CK.out w3 hx3
      have ho3 := ho.below hx3 (Nat.le_refl _)
      have hb3 := hb.trans (hx3.mono hsz)
      have hs3 := hb3.size
      obtain ⟨bt, ot, rfl, hbt, _, ⟨d0, d1, d2, d3, d4, d5, d6, d7, d8⟩⟩ := bx_cells (HRD.out.below hb3 (Nat.le_refl _)) hql
      clear HN ck hx3 ho hb CK hbt
      go_wp2_with (at_builtin; refine wpList_app rfl _ _ _ rfl el_flex rfl ((ho3.alloc _).alloc _) rfl (show Rd _ 5 _ (Fs [flxOf false l q]) from Rd.oneAt _ _ (by simp)) (Fs_one _) ?hl ?hb ?hK)
      case hl => rw [Fs_length, Fs_length]; simp only [List.length_singleton]; omega
      case hb => simp; omega
      intro v' w5 ho5 hg5 hf5
      have hb5 := below_app ((hb3.alloc hs3 _).alloc (by simp; omega) _) ((ho3.alloc _).alloc _) hg5 (by simp; omega) (Nat.le_refl _)
      go_wp2
      go_roundw
      case rel => exact ⟨k + 1, by omega, by go_num, by rw [ET.out]; exact ho5, hb5⟩
      case measure => simp [intOf]; omega
    · obtain rfl : k = (kid l (p : Int)).length := by omega
      rw [List.take_of_length_le (by rw [flxs_length]; exact Nat.le_refl _)] at ho
      have hjj : ¬ ((kid l (p : Int)).length : Int) < (kid l (p : Int)).length := by omega
      go_wp2
      go_ret
      exact ⟨_, rfl, ho, hb⟩
end Go.Proofs.Ytbkhbmcoococmaa
