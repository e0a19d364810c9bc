/-
  FitsIn, and what is drawn for it.
-/
import Derived.Test.YtedheddfalmjmaaAny
import Derived.Test.YtedheddfalmjmaaSNat
namespace Go.Proofs.Ytedheddfalmjmaa
open Go Go.RowKit

/-- a tree has room in a screen -/
def fitS (l : List Bx) (a b : Int) : Bool := vldB l && (decide ((natS l 0).1 ≤ a) && decide ((natS l 0).2 ≤ b))

set_option maxHeartbeats 2000000 in
theorem FitsIn_any {v : Value} {l : List Bx} (a b : Int) (w : World) (hv : Rd w 9 v (Bs l)) :
    Calls Try.prog 16 #[v, .int .i64 a, .int .i64 b] w fun e w' => e = .returned (.bool (fitS l a b)) ∧ Ext w w' := by
  have hrd := hv
  obtain ⟨ad, c, rfl, hn, hc, _⟩ := hv.boxes
  unfold maxLen at hc
  go_enter Try.func16, Try.ntmps16
  by_cases h : vldB l = true
  · have hval := vldB_iff.1 h
    have hz : 0 < l.length := hval.lo
    have Hv := Lib.hid hval
    clear hval
    go_wp2_with (fail)
    refine (ValidTree_any (l := l) _ hrd).mono ?_
    rintro e w1 ⟨he, hx⟩
    rw [h] at he
    subst he
    go_wp2_with (fail)
    refine (natural_any (i := 0) Hv.out _ (by omega) (by omega) (hrd.below hx (Nat.le_refl _))).mono ?_
    rintro e w2 ⟨rfl, hx2⟩
    have hb2 := after hx hx2 (Nat.le_refl _)
    have hf : Hid (fitS l a b = (decide ((natS l 0).1 ≤ a) && decide ((natS l 0).2 ≤ b))) := by
      show _ = _
      unfold fitS
      rw [h]
      rfl
    have hb3 := hb2.alloc hb2.size (.cells #[.int .i64 (natS l 0).1, .int .i64 (natS l 0).2] 53)
    clear hx hx2 h
    simp only [Int.toNat_zero]
    generalize natS l 0 = p at *
    by_cases h1 : p.1 ≤ a
    · by_cases h2 : p.2 ≤ b
      · go_wp2
        go_ret
        exact ⟨by rw [hf.out]; simp [h1, h2], hb3⟩
      · go_wp2
        go_ret
        exact ⟨by rw [hf.out]; simp [h1, h2], hb3⟩
    · go_wp2
      go_ret
      exact ⟨by rw [hf.out, decide_eq_false (show ¬ p.1 ≤ a by omega)]; rfl, hb3⟩
  · have h' : vldB l = false := by simpa using h
    go_wp2_with (fail)
    refine (ValidTree_any (l := l) _ hrd).mono ?_
    rintro e w1 ⟨he, hx⟩
    rw [h'] at he
    subst he
    go_wp2
    go_ret
    exact ⟨by unfold fitS; rw [h']; rfl, hx⟩

set_option maxHeartbeats 2000000 in
theorem sFitsIn_any {v : Value} {l : List Bx} (a b : Int) (w : World) (hv : Rd w 9 v (Bs l)) (hl : l.length ≤ 1048576) :
    Calls Try.prog 17 #[v, .int .i64 a, .int .i64 b] w fun e w' => e = .returned (.bool (fitS l a b)) ∧ Ext w w' := by
  have hrd := hv
  obtain ⟨ad, c, rfl, hn, hc, _⟩ := hv.boxes
  unfold maxLen at hc
  go_enter Try.func17, Try.ntmps17
  by_cases h : vldB l = true
  · have hval := vldB_iff.1 h
    have hz : 0 < l.length := hval.lo
    have Hv := Lib.hid hval
    clear hval
    go_wp2_with (fail)
    refine (validTree_any (l := l) _ hrd (by omega)).mono ?_
    rintro e w1 ⟨he, hx⟩
    rw [h] at he
    subst he
    go_wp2_with (fail)
    refine (snatural_any (i := 0) Hv.out _ (by omega) (by omega) (hrd.below hx (Nat.le_refl _))).mono ?_
    rintro e w2 ⟨rfl, hx2⟩
    have hb2 := after hx hx2 (Nat.le_refl _)
    have hf : Hid (fitS l a b = (decide ((natS l 0).1 ≤ a) && decide ((natS l 0).2 ≤ b))) := by
      show _ = _
      unfold fitS
      rw [h]
      rfl
    clear hx hx2 h
    simp only [Int.toNat_zero]
    generalize natS l 0 = p at *
    by_cases h1 : p.1 ≤ a
    · by_cases h2 : p.2 ≤ b
      · go_wp2
        go_ret
        exact ⟨by rw [hf.out]; simp [h1, h2], hb2⟩
      · go_wp2
        go_ret
        exact ⟨by rw [hf.out]; simp [h1, h2], hb2⟩
    · go_wp2
      go_ret
      exact ⟨by rw [hf.out, decide_eq_false (show ¬ p.1 ≤ a by omega)]; rfl, hb2⟩
  · have h' : vldB l = false := by simpa using h
    go_wp2_with (fail)
    refine (validTree_any (l := l) _ hrd (by omega)).mono ?_
    rintro e w1 ⟨he, hx⟩
    rw [h'] at he
    subst he
    go_wp2
    go_ret
    exact ⟨by unfold fitS; rw [h']; rfl, hx⟩

set_option maxHeartbeats 2000000 in
theorem DrawFitsIn_any {v : Value} (w : World) (hv : RdBytes w v) :
    Calls Try.prog 15 #[v] w fun e w' => ∃ (v' : Value) (a b : Int), e = .returned (.tuple #[v', .int .i64 a, .int .i64 b]) ∧ ∃ l : List Bx, l.length ≤ 16 ∧ 0 ≤ a ∧ a ≤ 10000 ∧ 0 ≤ b ∧ b ≤ 10000 ∧ Own w' w.heap.size 9 v' (Bs l) ∧ Ext w w' := by
  go_enter Try.func15, Try.ntmps15
  go_wp2_with (fail)
  refine (newReader_any _ hv).mono ?_
  rintro e w1 ⟨rfl, hr1, hx1⟩
  go_wp2_with (fail)
  refine (anyTree_any _ hr1 (by omega)).mono ?_
  rintro e w2 ⟨v2, rfl, l, hl, ho2, hr2, hx2⟩
  have hb2 := below_of_bel (afterR (bel_of hx1) hx2 (Nat.le_refl _)) (Nat.le_refl _)
  have ho2 := ho2
  have hR := hr2.lt
  have hR1 := hr1.lt
  have hs1 := hx1.size
  have hs2 := hx2.size
  clear hr1 hx1 hx2
  go_wp2_with (fail)
  refine (one_any (l := [100, 200, 50, 400, 10000, 20]) _ (hr2.ext (Below.of_alloc _ _)) (by omega) (heapAt _ rfl) (by omega) (by simp) (by simp)).mono ?_
  rintro e w3 ⟨a, rfl, ha, hr3, hx3⟩
  have hb3 := below_of_bel (afterR (bel_of (hb2.alloc (by omega) _)) hx3 (by omega)) (Nat.le_refl _)
  have ho3 := (ho2.alloc _).bel hx3 (by omega)
  have q3 : 0 ≤ a ∧ a ≤ 10000 := by simp at ha; omega
  clear hb2 ho2 hr2 ha hx3
  have hR3 := hr3.lt
  go_wp2_with (fail)
  refine (one_any (l := [100, 200, 50, 400, 10000, 20]) _ (hr3.ext (Below.of_alloc _ _)) (by omega) (heapAt _ rfl) (by omega) (by simp) (by simp)).mono ?_
  rintro e w4 ⟨b, rfl, hb, hr4, hx4⟩
  have hb4 := below_of_bel (afterR (bel_of (hb3.alloc (by have := hb3.size; omega) _)) hx4 (by omega)) (Nat.le_refl _)
  have ho4 := (ho3.alloc _).bel hx4 (by omega)
  have q4 : 0 ≤ b ∧ b ≤ 10000 := by simp at hb; omega
  clear hb3 ho3 hr3 hb hx4
  go_wp2
  go_ret3
  exact ⟨_, a, b, rfl, l, hl, q3.1, q3.2, q4.1, q4.2, ho4.weak hs1, hb4⟩
end Go.Proofs.Ytedheddfalmjmaa
