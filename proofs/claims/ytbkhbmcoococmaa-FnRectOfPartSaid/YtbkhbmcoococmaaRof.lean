/-
  The rectangle of one box: impl.RectOf and spec.RectOf.
-/
import Derived.Test.YtbkhbmcoococmaaLay
import Derived.Test.YtbkhbmcoococmaaAi
import Derived.Test.YtbkhbmcoococmaaAf
namespace Go.Proofs.Ytbkhbmcoococmaa
open Go Go.RowKit

theorem roR_f {l : List Bx} {sw sh i : Int} (h : roB l sw sh i = false) : roR l sw sh i = zr := by
  unfold roR
  rw [h]
  rfl
theorem roR_t {l : List Bx} {sw sh i : Int} (h : roB l sw sh i = true) : roR l sw sh i = rect l sw sh i.toNat := by
  unfold roR
  rw [if_pos h]
set_option maxRecDepth 100000 in
set_option maxHeartbeats 4000000 in
theorem RectOf_any {v : Value} {l : List Bx} (sw sh i : Int) (w : World) (hv : Rd w 9 v (Bs l)) :
    Calls Try.prog 29 #[v, .int .i64 sw, .int .i64 sh, .int .i64 i] w fun x w' => x = .returned (.tuple #[(roR l sw sh i).agg, .bool (roB l sw sh i)]) ∧ Ext w w' := by
  have hrd := hv.alloc (.cells #[.int .i64 0, .int .i64 0, .int .i64 0, .int .i64 0] 39)
  obtain ⟨a, c, rfl, hn, hc, _⟩ := hv.boxes
  unfold maxLen at hc
  have hlw : IntKind.i64.wrap ((l.length : Int) - 1) = (l.length : Int) - 1 := by rw [IntKind.wrap_i64]; omega
  have hb0 := Below.of_alloc w (.cells #[.int .i64 0, .int .i64 0, .int .i64 0, .int .i64 0] 39)
  have k0 := Keep.new w (.cells #[.int .i64 0, .int .i64 0, .int .i64 0, .int .i64 0] 39)
  clear hv
  go_enter Try.func29, Try.ntmps29
  go_upto_region 1 with fail
  generalize w.alloc (.cells #[.int .i64 0, .int .i64 0, .int .i64 0, .int .i64 0] 39) = W at *
  obtain ⟨g, hg⟩ : ∃ g, w.heap.size = g := ⟨_, rfl⟩
  rw [hg] at k0 ⊢
  have hgw : w.heap.size ≤ g := by omega
  clear hg
  cases hok : scrB l sw sh with
  | false =>
    have hE : roB l sw sh i = false := by unfold roB; rw [hok]; rfl
    have HE := Lib.hid (And.intro hE (roR_f hE))
    go_wp2_with (fail)
    refine (screenOk_any (l := l) _ _ _ hrd).mono ?_
    rintro e w1 ⟨he, hx⟩
    rw [hok] at he
    subst he
    replace hb0 := after hb0 hx (Nat.le_refl _)
    replace k0 : Keep g _ w1 := (hx.block _ k0.lt).trans k0
    have q0 := k0.cell 0
    have q1 := k0.cell 1
    have q2 := k0.cell 2
    have q3 := k0.cell 3
    have z0 := k0.frozen 0
    have z1 := k0.frozen 1
    have z2 := k0.frozen 2
    have z3 := k0.frozen 3
    have hl := k0.lt
    have HB := Lib.hid hb0
    clear k0 hb0
    clear hx hok hE hrd
    go_wp2
    refine bodyPost_ret (v := .tuple #[.agg #[.int .i64 0, .int .i64 0, .int .i64 0, .int .i64 0], .bool false]) ?_ rfl ⟨by rw [HE.out.1, HE.out.2]; rfl, ?_⟩
    · simp [results, Try.results29, go_sem, q0, q1, q2, q3]
    · exact below_set4' HB.out hgw _ _ _ _
  | true =>
    go_wp2_with (fail)
    refine (screenOk_any (l := l) _ _ _ hrd).mono ?_
    rintro e w1 ⟨he, hx⟩
    rw [hok] at he
    subst he
    replace hb0 := after hb0 hx (Nat.le_refl _)
    replace k0 : Keep g _ w1 := (hx.block _ k0.lt).trans k0
    replace hrd := hrd.below hx (Nat.le_refl _)
    clear hx
    go_wp2_with (fail)
    refine (within_any _ _ _ _).mono ?_
    rintro e w2 ⟨he, rfl⟩
    try rw [hlw] at he
    cases hin : inR i 0 ((l.length : Int) - 1) with
    | false =>
      rw [hin] at he
      subst he
      have hE : roB l sw sh i = false := by unfold roB; rw [hok, hin]; rfl
      have HE := Lib.hid (And.intro hE (roR_f hE))
      have q0 := k0.cell 0
      have q1 := k0.cell 1
      have q2 := k0.cell 2
      have q3 := k0.cell 3
      have z0 := k0.frozen 0
      have z1 := k0.frozen 1
      have z2 := k0.frozen 2
      have z3 := k0.frozen 3
      have hl := k0.lt
      have HB := Lib.hid hb0
      clear k0 hb0
      clear hok hin hE hrd
      go_wp2
      refine bodyPost_ret (v := .tuple #[.agg #[.int .i64 0, .int .i64 0, .int .i64 0, .int .i64 0], .bool false]) ?_ rfl ⟨by rw [HE.out.1, HE.out.2]; rfl, ?_⟩
      · simp [results, Try.results29, go_sem, q0, q1, q2, q3]
      · exact below_set4' HB.out hgw _ _ _ _
    | true =>
      rw [hin] at he
      subst he
      have hE : roB l sw sh i = true := by unfold roB; rw [hok, hin]; rfl
      have HE := Lib.hid (And.intro hE (roR_t hE))
      obtain ⟨hi0, hi1⟩ := inR_iff.1 hin
      obtain ⟨k, rfl⟩ := Int.eq_ofNat_of_zero_le hi0
      obtain ⟨hval, hsw, hsh⟩ := scrB_iff.1 hok
      have HC := Lib.hid (layoutOf_any _ hrd hval hsw hsh)
      have hk : k < l.length := by omega
      have hki : (k : Int) < l.length := by omega
      clear hok hin hE hrd hval hsw hsh hi0
      go_wp2_with (fail)
      refine HC.out.mono ?_
      rintro e w4 ⟨rfl, hM, hx⟩
      replace hb0 := after hb0 hx (Nat.le_refl _)
      replace k0 : Keep g _ w4 := (hx.block _ k0.lt).trans k0
      have m1 := hM.c1
      obtain ⟨c0, c1, c2, c3⟩ := hM.at (rectL_get (w := sw) (h := sh) hk)
      rw [Int.toNat_natCast] at HE
      generalize rect l sw sh k = r at *
      have q0 := k0.cell 0
      have q1 := k0.cell 1
      have q2 := k0.cell 2
      have q3 := k0.cell 3
      have z0 := k0.frozen 0
      have z1 := k0.frozen 1
      have z2 := k0.frozen 2
      have z3 := k0.frozen 3
      have hl := k0.lt
      have HB := Lib.hid hb0
      clear k0 hb0
      clear hM hx
      go_wp2
      refine bodyPost_ret (v := .tuple #[.agg #[.int .i64 r.x, .int .i64 r.y, .int .i64 r.w, .int .i64 r.h], .bool true]) ?_ rfl ⟨by rw [HE.out.1, HE.out.2]; rfl, ?_⟩
      · simp [results, Try.results29, go_sem, q0, q1, q2, q3]
      · exact below_set4' HB.out hgw _ _ _ _

set_option maxRecDepth 100000 in
set_option maxHeartbeats 4000000 in
theorem sRectOf_any {v : Value} {l : List Bx} (sw sh i : Int) (w : World) (hv : Rd w 9 v (Bs l)) (hl : l.length ≤ 1048576) :
    Calls Try.prog 30 #[v, .int .i64 sw, .int .i64 sh, .int .i64 i] w fun x w' => x = .returned (.tuple #[(roR l sw sh i).agg, .bool (roB l sw sh i)]) ∧ Ext w w' := by
  have hrd := hv.alloc (.cells #[.int .i64 0, .int .i64 0, .int .i64 0, .int .i64 0] 39)
  have hb0 := Below.of_alloc w (.cells #[.int .i64 0, .int .i64 0, .int .i64 0, .int .i64 0] 39)
  have k0 := Keep.new w (.cells #[.int .i64 0, .int .i64 0, .int .i64 0, .int .i64 0] 39)
  clear hv
  go_enter Try.func30, Try.ntmps30
  go_upto_region 1 with fail
  generalize w.alloc (.cells #[.int .i64 0, .int .i64 0, .int .i64 0, .int .i64 0] 39) = W at *
  obtain ⟨g, hg⟩ : ∃ g, w.heap.size = g := ⟨_, rfl⟩
  rw [hg] at k0 ⊢
  have hgw : w.heap.size ≤ g := by omega
  clear hg
  go_wp2_with (fail)
  refine (sLayoutTree_any (l := l) sw sh _ hrd hl).mono ?_
  rintro e w1 ⟨v1, rfl, ho, hx⟩
  replace hb0 := after hb0 hx (Nat.le_refl _)
  replace k0 : Keep g _ w1 := (hx.block _ k0.lt).trans k0
  have hr := ho.rd
  clear ho hx hrd
  cases hok : scrB l sw sh with
  | false =>
    have hE : roB l sw sh i = false := by unfold roB; rw [hok]; rfl
    have HE := Lib.hid (And.intro hE (roR_f hE))
    rw [rectsOr_f hok] at hr
    obtain ⟨a1, c1, rfl, hn1, hc1, _⟩ := hr.rects
    unfold maxLen at hc1
    rw [List.length_nil] at hn1 ⊢
    have hin : inR i 0 (-1) = false := by
      cases h : inR i 0 (-1) with
      | false => rfl
      | true =>
        have := inR_iff.1 h
        omega
    clear hok hE hr
    go_wp2_with (fail)
    refine (inRange_any _ _ _ _).mono ?_
    rintro e w2 ⟨he, rfl⟩
    replace he : e = .returned (.bool false) := he.trans (by rw [← hin])
    subst he
    have q0 := k0.cell 0
    have q1 := k0.cell 1
    have q2 := k0.cell 2
    have q3 := k0.cell 3
    have z0 := k0.frozen 0
    have z1 := k0.frozen 1
    have z2 := k0.frozen 2
    have z3 := k0.frozen 3
    have hl := k0.lt
    have HB := Lib.hid hb0
    clear k0 hb0
    go_wp2
    refine bodyPost_ret (v := .tuple #[.agg #[.int .i64 0, .int .i64 0, .int .i64 0, .int .i64 0], .bool false]) ?_ rfl ⟨by rw [HE.out.1, HE.out.2]; rfl, ?_⟩
    · simp [results, Try.results30, go_sem, q0, q1, q2, q3]
    · exact below_set4' HB.out hgw _ _ _ _
  | true =>
    rw [rectsOr_t hok] at hr
    have hlo := (scrB_iff.1 hok).1.lo
    obtain ⟨bO, oO, cO, rfl, hnO, hcO, hRC⟩ := rectS hr hlo
    have hlw : IntKind.i64.wrap ((l.length : Int) - 1) = (l.length : Int) - 1 := by rw [IntKind.wrap_i64]; omega
    clear hr
    go_wp2_with (fail)
    refine (inRange_any _ _ _ _).mono ?_
    rintro e w2 ⟨he, rfl⟩
    try rw [hlw] at he
    cases hin : inR i 0 ((l.length : Int) - 1) with
    | false =>
      rw [hin] at he
      subst he
      have hE : roB l sw sh i = false := by unfold roB; rw [hok, hin]; rfl
      have HE := Lib.hid (And.intro hE (roR_f hE))
      have q0 := k0.cell 0
      have q1 := k0.cell 1
      have q2 := k0.cell 2
      have q3 := k0.cell 3
      have z0 := k0.frozen 0
      have z1 := k0.frozen 1
      have z2 := k0.frozen 2
      have z3 := k0.frozen 3
      have hl := k0.lt
      have HB := Lib.hid hb0
      clear k0 hb0
      clear hok hin hE hRC
      go_wp2
      refine bodyPost_ret (v := .tuple #[.agg #[.int .i64 0, .int .i64 0, .int .i64 0, .int .i64 0], .bool false]) ?_ rfl ⟨by rw [HE.out.1, HE.out.2]; rfl, ?_⟩
      · simp [results, Try.results30, go_sem, q0, q1, q2, q3]
      · exact below_set4' HB.out hgw _ _ _ _
    | true =>
      rw [hin] at he
      subst he
      have hE : roB l sw sh i = true := by unfold roB; rw [hok, hin]; rfl
      have HE := Lib.hid (And.intro hE (roR_t hE))
      obtain ⟨hi0, hi1⟩ := inR_iff.1 hin
      obtain ⟨k, rfl⟩ := Int.eq_ofNat_of_zero_le hi0
      have hk : k < l.length := by omega
      have hki : (k : Int) < l.length := by omega
      obtain ⟨c0, c1, c2, c3⟩ := hRC.cs k hk
      rw [Int.toNat_natCast] at HE
      generalize rect l sw sh k = r at *
      have q0 := k0.cell 0
      have q1 := k0.cell 1
      have q2 := k0.cell 2
      have q3 := k0.cell 3
      have z0 := k0.frozen 0
      have z1 := k0.frozen 1
      have z2 := k0.frozen 2
      have z3 := k0.frozen 3
      have hl := k0.lt
      have HB := Lib.hid hb0
      clear k0 hb0
      clear hok hin hE hi0 hRC
      go_wp2
      refine bodyPost_ret (v := .tuple #[.agg #[.int .i64 r.x, .int .i64 r.y, .int .i64 r.w, .int .i64 r.h], .bool true]) ?_ rfl ⟨by rw [HE.out.1, HE.out.2]; rfl, ?_⟩
      · simp [results, Try.results30, go_sem, q0, q1, q2, q3]
      · exact below_set4' HB.out hgw _ _ _ _
end Go.Proofs.Ytbkhbmcoococmaa
