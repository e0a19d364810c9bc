/-
  The rectangles of a tree: impl.LayoutTree.
-/
import Derived.Test.YtbkhbmcoococmaaLay
import Derived.Test.YtbkhbmcoococmaaAf
namespace Go.Proofs.Ytbkhbmcoococmaa
open Go Go.RowKit

set_option maxHeartbeats 1000000 in
theorem LayoutTree_any {v : Value} {l : List Bx} (sw sh : Int) (w : World) (hv : Rd w 9 v (Bs l)) :
    Calls Try.prog 16 #[v, .int .i64 sw, .int .i64 sh] w fun e w' => ∃ v', e = .returned v' ∧ Own w' w.heap.size 4 v' (Rs (rectsOr l sw sh)) ∧ Ext w w' := by
  have hrd := hv
  obtain ⟨a, c, rfl, hn, hc, _⟩ := hv.boxes
  unfold maxLen at hc
  go_enter Try.func16, Try.ntmps16
  cases hok : scrB l sw sh with
  | true =>
    go_wp2_with (fail)
    refine (screenOk_any (l := l) _ _ _ hrd).mono ?_
    rintro e w1 ⟨he, hx⟩
    rw [hok] at he
    subst he
    have HO := Lib.hid (rectsOr_t hok)
    obtain ⟨hval, hsw, hsh⟩ := scrB_iff.1 hok
    have HC := Lib.hid (layoutOf_any _ (hrd.below hx (Nat.le_refl _)) hval hsw hsh)
    have hs := hx.size
    clear hok hval hsw hsh
    go_wp2_with (fail)
    refine HC.out.mono ?_
    rintro e w4 ⟨rfl, hM, hx2⟩
    have hb := after hx hx2 (Nat.le_refl _)
    have m1 := hM.c1
    go_wp2
    go_ret
    exact ⟨_, rfl, by rw [HO.out]; exact hM.own.weak hs, hb⟩
  | false =>
    go_wp2_with (fail)
    refine (screenOk_any (l := l) _ _ _ hrd).mono ?_
    rintro e w1 ⟨he, hx⟩
    rw [hok] at he
    subst he
    have HO := Lib.hid (rectsOr_f hok)
    clear hok
    go_wp2
    go_ret
    exact ⟨_, rfl, by rw [HO.out]; exact Own.nil _ _ _, hx⟩
end Go.Proofs.Ytbkhbmcoococmaa
