/-
  NaturalSize and KidsOf: what they return.
-/
import Derived.Test.YtbkhbmcoococmaaAc
import Derived.Test.YtbkhbmcoococmaaSNat
import Derived.Test.YtbkhbmcoococmaaAe
import Derived.BigQuiet
import Derived.Deep.QuietTactic
namespace Go.Proofs.Ytbkhbmcoococmaa
open Go Go.RowKit

def nW (l : List Bx) (i : Int) : Int := if inB l i then (natS l i.toNat).1 else 0
def nH (l : List Bx) (i : Int) : Int := if inB l i then (natS l i.toNat).2 else 0

set_option maxRecDepth 100000 in
set_option maxHeartbeats 2000000 in
theorem NaturalSize_any {v : Value} {l : List Bx} (i : Int) (w : World) (hv : Rd w 9 v (Bs l)) :
    Calls Try.prog 20 #[v, .int .i64 i] w fun e w' => e = .returned (.tuple #[.int .i64 (nW l i), .int .i64 (nH l i), .bool (inB l i)]) ∧ Ext w w' := by
  have hrd := hv
  obtain ⟨a, c, rfl, hn, hc, _⟩ := hv.boxes
  unfold maxLen at hc
  go_enter Try.func20, Try.ntmps20
  by_cases h : inB l i = true
  · obtain ⟨hval, h0, hi⟩ := inB_iff.1 h
    have Hv := Lib.hid hval
    have hW : Hid (nW l i = (natS l i.toNat).1) := by
      show _ = _
      unfold nW
      rw [h]
      rfl
    have hH : Hid (nH l i = (natS l i.toNat).2) := by
      show _ = _
      unfold nH
      rw [h]
      rfl
    clear hval
    go_wp2_with (fail)
    refine (boxIn_any (l := l) i _ hrd).mono ?_
    rintro e w1 ⟨he, hx⟩
    rw [h] at he
    subst he
    go_wp2_with (fail)
    refine (natural_any (i := i) Hv.out _ h0 hi (hrd.below hx (Nat.le_refl _))).mono ?_
    rintro e w2 ⟨rfl, hx2⟩
    have hb2 := after hx hx2 (Nat.le_refl _)
    have hb3 := hb2.alloc hb2.size (.cells #[.int .i64 (natS l i.toNat).1, .int .i64 (natS l i.toNat).2] 77)
    have H := Lib.hid h
    clear hx hx2 h
    generalize natS l i.toNat = p at *
    go_wp2
    go_quiet (fail)
    go_wp2
    go_ret3
    exact ⟨by rw [hW.out, hH.out, H.out]; rfl, below_drewN hb3 _⟩
  · have h' : inB l i = false := by simpa using h
    go_wp2_with (fail)
    refine (boxIn_any (l := l) i _ hrd).mono ?_
    rintro e w1 ⟨he, hx⟩
    rw [h'] at he
    subst he
    go_wp2
    go_ret3
    exact ⟨by unfold nW nH; rw [h']; rfl, hx⟩


def kidsL (l : List Bx) (i : Int) : List Nat := if inB l i then kid l i else []

set_option maxHeartbeats 2000000 in
theorem KidsOf_any {v : Value} {l : List Bx} (i : Int) (w : World) (hv : Rd w 9 v (Bs l)) :
    Calls Try.prog 19 #[v, .int .i64 i] w fun e w' => ∃ v', e = .returned v' ∧ Own w' w.heap.size 1 v' (Is (ni (kidsL l i))) ∧ Ext w w' := by
  have hrd := hv
  obtain ⟨a, c, rfl, hn, hc, _⟩ := hv.boxes
  unfold maxLen at hc
  go_enter Try.func19, Try.ntmps19
  by_cases h : inB l i = true
  · obtain ⟨hval, h0, hi⟩ := inB_iff.1 h
    have Hl := Lib.hid hval.hi
    have hK : Hid (kidsL l i = kid l i) := by
      show _ = _
      unfold kidsL
      rw [h]
      rfl
    clear hval
    go_wp2_with (fail)
    refine (boxIn_any (l := l) i _ hrd).mono ?_
    rintro e w1 ⟨he, hx⟩
    rw [h] at he
    subst he
    go_wp2_with (fail)
    refine (kids_any (l := l) i _ (hrd.below hx (Nat.le_refl _)) (by have := Hl.out; omega)).mono ?_
    rintro e w2 ⟨v2, rfl, ho2, hx2⟩
    go_wp2
    go_ret
    exact ⟨_, rfl, by rw [hK.out]; exact ho2.weak hx.size, after hx hx2 (Nat.le_refl _)⟩
  · have h' : inB l i = false := by simpa using h
    go_wp2_with (fail)
    refine (boxIn_any (l := l) i _ hrd).mono ?_
    rintro e w1 ⟨he, hx⟩
    rw [h'] at he
    subst he
    go_wp2
    go_ret
    refine ⟨_, rfl, ?_, hx⟩
    unfold kidsL
    rw [h']
    exact Own.nil _ _ _
end Go.Proofs.Ytbkhbmcoococmaa
