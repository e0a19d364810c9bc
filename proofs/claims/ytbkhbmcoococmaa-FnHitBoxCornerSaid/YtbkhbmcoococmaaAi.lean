/-
  Boxes are placed: spec.place.
-/
import Derived.Test.YtbkhbmcoococmaaAh
import Derived.Test.YtbkhbmcoococmaaPlcR
import Derived.Test.YtbkhbmcoococmaaPlcC
import Derived.Test.YtbkhbmcoococmaaAf
import Derived.Test.YtbkhbmcoococmaaAg
namespace Go.Proofs.Ytbkhbmcoococmaa
open Go Go.RowKit
theorem place_ind {S : Nat} {tv : Value} {l : List Bx} {sw sh : Int} (hv : Valid l) (hsw : 0 ≤ sw ∧ sw ≤ 10000) (hsh : 0 ≤ sh ∧ sh ≤ 10000) : ∀ f : Nat, PlI S tv l sw sh f
  | 0 => fun p h hp => by omega
  | f + 1 => fun p hf hp => by
    have ih := place_ind (S := S) (tv := tv) hv hsw hsh f
    by_cases hnil : kid l (p : Int) = []
    · exact place_nil hv hsw hsh ih p hf hp hnil
    · have hkn := hv.kids p hp
      have hkd := (okB_bounds (hv.ok p hp))
      have hk0 : (bx l p).kind ≠ 0 := fun h => hnil (hkn.2 h)
      rcases (show (bx l p).kind = 1 ∨ (bx l p).kind = 2 ∨ (bx l p).kind = 3 by omega) with h | h | h
      · exact place_blk_step hv hsw hsh ih p hf hp ⟨hnil, h⟩
      · exact place_row_step hv hsw hsh ih p hf hp ⟨hnil, h⟩
      · exact place_col_step hv hsw hsh ih p hf hp ⟨hnil, h⟩
end Go.Proofs.Ytbkhbmcoococmaa
namespace Go.Proofs.Ytbkhbmcoococmaa
open Go Go.RowKit
set_option maxRecDepth 100000 in
set_option maxHeartbeats 1000000 in
theorem slayout_any {tv : Value} {l : List Bx} {sw sh : Int} (W : World) (hrd : Rd W 9 tv (Bs l)) (hv : Valid l) (hsw : 0 ≤ sw ∧ sw ≤ 10000) (hsh : 0 ≤ sh ∧ sh ≤ 10000) :
    Calls Try.prog 51 #[tv, .int .i64 sw, .int .i64 sh] W fun e w' => ∃ v', e = .returned v' ∧ Own w' W.heap.size 4 v' (Rs (rectL l sw sh)) ∧ Ext W w' := by
  obtain ⟨at_, ct, rfl, hnt, hct, HXX⟩ := hrd.boxes
  clear HXX
  have hlo := hv.lo
  have hhi := hv.hi
  unfold maxLen at hct
  have hmk := fun W => mk_run (P := Try.prog) el_rect l.length l.length (Nat.le_refl _) (by omega) W
  have hoR := Own.madeRects W W.heap.size l.length 39 (Nat.le_refl _) (by omega)
  have hx0 := Below.of_alloc W (.cells (madeCells zr.agg.cells (l.length * 4)) 39)
  have HC := Lib.hid (place_ind (S := W.heap.size) (tv := .slice at_ l.length ct) hv hsw hsh l.length 0 (by omega) hlo _ (List.replicate l.length zr) (by simp) (fun w' h => hrd.below (hx0.trans (gr_below h (by simp))) (Nat.le_refl _)) hoR)
  have HX0 := Lib.hid hx0
  have HPA := Lib.hid (fun R' (h : PlA l sw sh 0 (List.replicate l.length zr) R') => plA_all hv h)
  rw [rect_root hv, show zr.agg.cells = #[.int .i64 0, .int .i64 0, .int .i64 0, .int .i64 0] from rfl] at HC
  rw [show zr.agg.cells = #[.int .i64 0, .int .i64 0, .int .i64 0, .int .i64 0] from rfl] at HX0
  clear hoR hx0 hv hrd
  go_enter Try.func51, Try.ntmps51
  go_wp2_with (fail)
  refine HC.out.mono ?_
  rintro e w1 ⟨rfl, hg, R', ho, hA⟩
  have hb := HX0.out.trans (gr_below hg (by simp))
  have HA := Lib.hid (HPA.out R' hA)
  clear hg hA
  go_wp2
  go_ret
  exact ⟨_, rfl, by rw [← HA.out]; exact ho, hb⟩
set_option maxHeartbeats 1000000 in
theorem sLayoutTree_any {v : Value} {l : List Bx} (sw sh : Int) (w : World) (hv : Rd w 9 v (Bs l)) (hl : l.length ≤ 1048576) :
    Calls Try.prog 18 #[v, .int .i64 sw, .int .i64 sh] w fun e w' => ∃ v', e = .returned v' ∧ Own w' w.heap.size 4 v' (Rs (rectsOr l sw sh)) ∧ Ext w w' := by
  have hrd := hv
  obtain ⟨a, c, rfl, hn, hc, _⟩ := hv.boxes
  unfold maxLen at hc
  have HF := Lib.hid (fun h => rectsOr_f (l := l) (sw := sw) (sh := sh) h)
  have HT := Lib.hid (fun h => rectsOr_t (l := l) (sw := sw) (sh := sh) h)
  go_enter Try.func18, Try.ntmps18
  cases h : vldB l with
  | true =>
    go_wp2_with (fail)
    refine (validTree_any (l := l) _ hrd (by omega)).mono ?_
    rintro e w1 ⟨he, hx⟩
    rw [h] at he
    subst he
    go_wp2_with (fail)
    refine (inRange_any _ _ _ _).mono ?_
    rintro e w2 ⟨he, rfl⟩
    cases h1 : inR sw 0 10000 with
    | true =>
      rw [h1] at he
      subst he
      go_wp2_with (fail)
      refine (inRange_any _ _ _ _).mono ?_
      rintro e w3 ⟨he, rfl⟩
      cases h2 : inR sh 0 10000 with
      | true =>
        rw [h2] at he
        subst he
        have hok : scrB l sw sh = true := by unfold scrB; rw [h, h1, h2]; rfl
        obtain ⟨hval, hsw, hsh⟩ := scrB_iff.1 hok
        have HC := Lib.hid (slayout_any _ (hrd.below hx (Nat.le_refl _)) hval hsw hsh)
        have HO := Lib.hid (HT.out hok)
        clear h h1 h2 hok hval hsw hsh
        go_wp2_with (fail)
        refine HC.out.mono ?_
        rintro e w4 ⟨v4, rfl, ho, hx2⟩
        have hb := after hx hx2 (Nat.le_refl _)
        go_wp2
        go_ret
        exact ⟨_, rfl, by rw [HO.out]; exact ho.weak hx.size, hb⟩
      | false =>
        rw [h2] at he
        subst he
        have HO := Lib.hid (HF.out (by unfold scrB; rw [h, h1, h2]; rfl))
        clear h h1 h2
        go_wp2
        go_ret
        exact ⟨_, rfl, by rw [HO.out]; exact Own.nil _ _ _, hx⟩
    | false =>
      rw [h1] at he
      subst he
      have HO := Lib.hid (HF.out (by unfold scrB; rw [h, h1]; rfl))
      clear h h1
      go_wp2
      go_ret
      exact ⟨_, rfl, by rw [HO.out]; exact Own.nil _ _ _, hx⟩
  | false =>
    go_wp2_with (fail)
    refine (validTree_any (l := l) _ hrd (by omega)).mono ?_
    rintro e w1 ⟨he, hx⟩
    rw [h] at he
    subst he
    have HO := Lib.hid (HF.out (by unfold scrB; rw [h]; rfl))
    clear h
    go_wp2
    go_ret
    exact ⟨_, rfl, by rw [HO.out]; exact Own.nil _ _ _, hx⟩
end Go.Proofs.Ytbkhbmcoococmaa
