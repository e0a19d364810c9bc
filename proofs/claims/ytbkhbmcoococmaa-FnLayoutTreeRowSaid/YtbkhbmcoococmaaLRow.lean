/-
  The law FnLayoutTreeRow: the walk.
-/
import Derived.IntWalk
import Derived.StillTailTactics
import Derived.Test.YtbkhbmcoococmaaTre
import Derived.Test.YtbkhbmcoococmaaAi
import Derived.Test.YtbkhbmcoococmaaAg
import Derived.Test.YtbkhbmcoococmaaAe
import Derived.Test.YtbkhbmcoococmaaFlxV
import Derived.Test.YtbkhbmcoococmaaLTr4
import Derived.Test.YtbkhbmcoococmaaLSp1
import Derived.Test.YtbkhbmcoococmaaLDirty
import Derived.Test.YtbkhbmcoococmaaLStyA
namespace Go.Proofs.Ytbkhbmcoococmaa
open Go Go.RowKit

theorem kids_some {l : List Bx} (hv : Valid l) (h : 2 ≤ l.length) : 1 ≤ (kid l 0).length := by
  have h1 := hv.par 1 (by omega) (by omega)
  exact List.length_pos_of_mem (mem_kid_iff.2 ⟨show 1 < l.length by omega, by omega⟩)
theorem flx_nat {l : List Bx} {q : Nat} : flxOf true l q = ⟨(natS l q).1, 0, 10000, (bx l q).grow, (bx l q).shrink⟩ := rfl
theorem spc_le0 {l : List Bx} {p : Nat} {q : Int} (h : q - (bx l p).gap * (((kid l (p : Int)).length : Int) - 1) ≤ 0) : spc l p q = 0 := by unfold spc; omega
theorem spc_gt0 {l : List Bx} {p : Nat} {q : Int} (h : ¬ q - (bx l p).gap * (((kid l (p : Int)).length : Int) - 1) ≤ 0) : spc l p q = q - (bx l p).gap * (((kid l (p : Int)).length : Int) - 1) := by unfold spc; omega
/-- two lists do not share a block -/
def Ap (a b : Value) : Prop := ∀ k, blk a = some k → blk b ≠ some k
theorem Ap.symm {a b : Value} (h : Ap a b) : Ap b a := fun k hb ha => h k ha hb
theorem Ap.ne {a b : Value} (h : Ap a b) : blk b = none ∨ blk b ≠ blk a := by
  cases e : blk b with
  | none => exact .inl rfl
  | some k => exact .inr fun h2 => h k h2.symm e
theorem Ap.app {a a' b : Value} {B : Nat} (h : Ap a b) (hn : blk a' = blk a ∨ ∃ k, blk a' = some k ∧ B ≤ k) (hb : ∀ k, blk b = some k → k < B) : Ap a' b := by
  intro k hk
  rcases hn with hn | ⟨m, hm, hl⟩
  · rw [hn] at hk
    exact h k hk
  · rw [hm] at hk
    cases hk
    intro e
    have := hb _ e
    omega
set_option maxRecDepth 100000 in
set_option maxHeartbeats 20000000 in
theorem FnLayoutTreeRow_any {v : Value} (w : World) (hv : RdBytes w v) :
    Calls Try.prog 3 #[v] w fun e w' => e = .returned (.bool true) ∧ Ext w w' := by
  have hv2 := hv
  obtain ⟨ad, n, c, rfl, hn, hc, _⟩ := hv
  unfold maxLen at hc
  by_cases hlen : 1048576 < n
  · have hlen' : (1048576 : Int) < n := by omega
    go_enter Try.func3, Try.ntmps3
    go_wp2
    go_ret
    exact ⟨rfl, Below.refl _ _⟩
  · have hlen' : ¬ ((1048576 : Int) < n) := by omega
    go_enter Try.func3, Try.ntmps3
    go_wp2_with (fail)
    refine (DrawLayoutTree_any _ hv2).mono ?_
    rintro e w1 ⟨v1, sw, sh, rfl, l, hl, hsw, hsh, ho1, hb⟩
    have hrT := ho1.rd
    clear ho1 hv2
    go_wp2_with (fail)
    refine ((LayoutTree_any (l := l) sw sh _ hrT)).mono ?_
    rintro e w2 ⟨v2, rfl, ho2, hx⟩
    replace hb := after hb hx (Nat.le_refl _)
    replace hrT := hrT.below hx (Nat.le_refl _)
    clear hx
    have hrO := ho2.rd
    clear ho2
    go_wp2_with (fail)
    refine ((sLayoutTree_any (l := l) sw sh _ hrT (by omega))).mono ?_
    rintro e w3 ⟨v3, rfl, ho3, hx⟩
    replace hb := after hb hx (Nat.le_refl _)
    replace hrT := hrT.below hx (Nat.le_refl _)
    replace hrO := hrO.below hx (Nat.le_refl _)
    clear hx
    have hrW := ho3.rd
    clear ho3
    cases hok : scrB l sw sh with
    | false =>
      have HO := Lib.hid (rectsOr_f hok)
      rw [HO.out] at hrO hrW
      clear hok
      go_wp2_with (fail)
      refine ((equalRects_any (l := []) _ hrO hrW)).mono ?_
      rintro e w4 ⟨rfl, hx⟩
      replace hb := after hb hx (Nat.le_refl _)
      replace hrT := hrT.below hx (Nat.le_refl _)
      replace hrO := hrO.below hx (Nat.le_refl _)
      clear hx
      clear hrW
      obtain ⟨aO, cO, rfl, hnO, hcO, _⟩ := hrO.rects
      rw [List.length_nil] at hrO
      go_wp2_with (fail)
      refine ((sLayoutTree_any (l := l) sw sh _ hrT (by omega))).mono ?_
      rintro e w5 ⟨v5, rfl, ho5, hx⟩
      replace hb := after hb hx (Nat.le_refl _)
      replace hrT := hrT.below hx (Nat.le_refl _)
      replace hrO := hrO.below hx (Nat.le_refl _)
      clear hx
      have hrW := ho5.rd
      rw [HO.out] at hrW
      clear ho5
      go_wp2_with (fail)
      refine ((equalRects_any (l := []) _ hrO hrW)).mono ?_
      rintro e w6 ⟨rfl, hx⟩
      replace hb := after hb hx (Nat.le_refl _)
      clear hx
      go_wp2
      go_ret
      exact ⟨rfl, hb⟩
    | true =>
      have HO := Lib.hid (rectsOr_t hok)
      rw [HO.out] at hrO hrW
      obtain ⟨hval, hsw2, hsh2⟩ := scrB_iff.1 hok
      clear hok hsw hsh
      go_wp2_with (fail)
      refine ((equalRects_any (l := rectL l sw sh) _ hrO hrW)).mono ?_
      rintro e w4 ⟨rfl, hx⟩
      replace hb := after hb hx (Nat.le_refl _)
      replace hrT := hrT.below hx (Nat.le_refl _)
      replace hrO := hrO.below hx (Nat.le_refl _)
      clear hx
      clear hrW
      have HV := Lib.hid hval
      have hlo := hval.lo
      have hz : ((l.length : Int) == 0) = false := beq_eq_false_iff_ne.2 (by omega)
      have HR := Lib.hid (fun k (hk : k < l.length) => rect_ok hval hsw2 hsh2 hk)
      obtain ⟨bO, oO, cO, rfl, hnO, hcO, hR⟩ := rectS hrO hlo
      have HRD := Lib.hid hrO
      obtain ⟨bT, oT, cT, rfl, hnT, hcT⟩ := rd_addr hlo hrT
      clear hval hrO
      have ck0 := (cells_at hlo hrT).c1
      simp only [Nat.zero_mul, Nat.add_zero] at ck0
      by_cases hl2 : l.length < 2
      · have hl2i : (l.length : Int) < 2 := by omega
        have hrO := HRD.out
        go_wp2_with (fail)
        refine ((sLayoutTree_any (l := l) sw sh _ hrT (by omega))).mono ?_
        rintro e w5 ⟨v5, rfl, ho5, hx⟩
        replace hb := after hb hx (Nat.le_refl _)
        replace hrO := hrO.below hx (Nat.le_refl _)
        clear hx
        have hrW := ho5.rd
        rw [HO.out] at hrW
        clear ho5
        go_wp2_with (fail)
        refine ((equalRects_any (l := rectL l sw sh) _ hrO hrW)).mono ?_
        rintro e w6 ⟨rfl, hx⟩
        replace hb := after hb hx (Nat.le_refl _)
        clear hx
        go_wp2
        go_ret
        exact ⟨rfl, hb⟩
      · have hl2i : ¬ (l.length : Int) < 2 := by omega
        by_cases hk2 : (bx l 0).kind = 2
        · have e2 : ((bx l 0).kind != 2) = false := by rw [hk2]; rfl
          have hkn : (kid l 0).length ≤ 8 := (HV.out.kids 0 hlo).1
          have hks := kids_some HV.out (by omega)
          have hbd := okB_bounds (HV.out.ok 0 hlo)
          have hgp := gap_le HV.out hlo (n := ((kid l 0).length : Int) - 1) (by omega) (by omega)
          have HROW := Lib.hid (rect_row HV.out (w := sw) (h := sh) (p := 0) hk2)
          have hkz := kids_zero HV.out
          clear hk2
          go_wp2_with (fail)
          clear ck0 e2
          refine (KidsOf_any (l := l) 0 _ hrT).mono ?_
          rintro e w5 ⟨v5, rfl, ho5, hx⟩
          rw [hkz] at ho5
          replace hb := after hb hx (Nat.le_refl _)
          replace hrT := hrT.below hx (Nat.le_refl _)
          replace hR := hR.below hx (Nat.le_refl _)
          have hrK := ho5.rd
          clear ho5 hx hkz HRD HO
          obtain ⟨aK, cK, rfl, hnK, hcK, _⟩ := hrK.ints
          rw [ni_length] at hnK hrK ⊢
          unfold maxLen at hcK
          have HTT := Lib.hid hrT
          have HKK := Lib.hid hrK
          have HRR := Lib.hid hR
          have hb0 := ext_two w5 (.cells #[] 37) (.cells #[] 3)
          clear hrT hrK hR
          go_wp2
          go_loopw [8, 9, 10] (fun fl sz n wr => ∃ j : Nat, n = .int .i64 j ∧ j ≤ (kid l 0).length ∧ Own wr w5.heap.size 5 fl (Fs ((flxsOf true l 0).take j)) ∧ Own wr w5.heap.size 1 sz (Is (((kid l 0).map fun k => (rect l sw sh k).w).take j)) ∧ Ap fl sz ∧ Below w5.heap.size w5 wr) (fun _ _ n _ => (kid l 0).length - (intOf n).toNat)
          case atStart => exact ⟨0, rfl, Nat.zero_le _, Own.empty _ _ _ _, Own.empty _ _ _ _, fun k hk => by simp [blk] at hk, hb0⟩
          case round =>
            clear hb0
            obtain ⟨j, rfl, hj, ho, hu, hap, hb6⟩ := hrel
            have hsz := hb6.size
            by_cases hlt : j < (kid l 0).length
            · obtain ⟨q, hq⟩ : ∃ q, (kid l 0)[j]? = some q := ⟨_, List.getElem?_eq_getElem hlt⟩
              obtain ⟨hql, hqp⟩ := mem_kid_iff.1 (List.mem_of_getElem? hq)
              obtain ⟨ga, oa, rfl, ck⟩ := (HKK.out.below hb6 (Nat.le_refl _)).intAt (ni_get hq)
              have ET := Lib.hid (show Fs ((flxsOf true l 0).take (j + 1)) = Fs ((flxsOf true l 0).take j) ++ Fs [flxOf true l q] by
                rw [List.take_add_one, show (flxsOf true l 0)[j]? = some (flxOf true l q) by unfold flxsOf; rw [List.getElem?_map]; exact congrArg (Option.map _) hq, Fs_append]
                rfl)
              have EU := Lib.hid (show Is (((kid l 0).map fun k => (rect l sw sh k).w).take (j + 1)) = Is (((kid l 0).map fun k => (rect l sw sh k).w).take j) ++ Is [(rect l sw sh q).w] by
                rw [List.take_add_one, show ((kid l 0).map fun k => (rect l sw sh k).w)[j]? = some (rect l sw sh q).w by rw [List.getElem?_map, hq]; rfl, Is_append]
                rfl)
              have hlk : ((flxsOf true l 0).take j).length ≤ 16 := by rw [List.length_take]; omega
              have hlu : (((kid l 0).map fun k => (rect l sw sh k).w).take j).length ≤ 16 := by rw [List.length_take]; omega
              have hlti : (j : Int) < (kid l 0).length := by omega
              have hqi : (q : Int) < l.length := by omega
              have hq0 : (0 : Int) ≤ (q : Int) := by omega
              have CK := Lib.hid (fun w9 (h : Ext wr w9) => cell_below h ck)
              have HNW := Lib.hid (nW_in HV.out hql)
              have HRT9 := Lib.hid (HTT.out.below hb6 (Nat.le_refl _))
              have HQ := Lib.hid hq
              clear hq hqp
              go_wp2_with (fail)
              refine (NaturalSize_any (l := l) (q : Int) _ HRT9.out).mono ?_
              rintro e w7 ⟨rfl, hx⟩
              rw [HNW.out]
              have ck7 := CK.out w7 hx
              replace ho := ho.below hx (Nat.le_refl _)
              replace hu := hu.below hx (Nat.le_refl _)
              replace hb6 := hb6.trans (hx.mono hsz)
              have hs7 := hb6.size
              have HTC := Lib.hid (fun w9 (h : Below w5.heap.size w5 w9) => cells_at hql (HTT.out.below h (Nat.le_refl _)))
              have HKC := Lib.hid (fun w9 (h : Below w5.heap.size w5 w9) => (show w9.cell? ⟨ga, oa + j, none⟩ = some (.int .i64 (q : Int)) by
                obtain ⟨_, _, e, c⟩ := (HKK.out.below h (Nat.le_refl _)).intAt (ni_get HQ.out)
                cases e
                exact c))
              have HRC9 := Lib.hid (fun w9 (h : Below w5.heap.size w5 w9) => (HRR.out.below h (Nat.le_refl _)).cs q hql)
              clear ck hx CK ck7
              go_upto_region 14 with fail
              replace ho := ho.drew
              replace hu := hu.drew
              replace hb6 := hb6.drew
              replace hs7 := hb6.size
              refine wp_region_held_drew (S := fun w' => Below w5.heap.size w7.drew w') (by kernel_rfl) (Below.refl _ _) (fun hS => ?_)
              generalize w7.drew = wd at *
              refine hTake (by kernel_rfl) (fun d _ _ _ _ h => by cases d <;> exact h) hS 0 (some 73) _ rfl (v := ?_) (by kernel_rfl) ?_ ?_
              rotate_left
              · intro _ _; go_simp; first | done | with_reducible rfl
              simp only [Act.put, List.setIfInBounds_toArray, List.set_cons_zero, List.set_cons_succ]
              refine hTake (by kernel_rfl) (fun d _ _ _ _ h => by cases d <;> exact h) hS 1 (some 74) _ rfl (v := ?_) (by kernel_rfl) ?_ ?_
              rotate_left
              · intro _ _; go_simp; first | done | with_reducible rfl
              simp only [Act.put, List.setIfInBounds_toArray, List.set_cons_zero, List.set_cons_succ]
              refine hTake (by kernel_rfl) (fun d _ _ _ _ h => by cases d <;> exact h) hS 2 (some 75) _ rfl (v := ?_) (by kernel_rfl) ?_ ?_
              rotate_left
              · intro _ _; go_simp; first | done | with_reducible rfl
              simp only [Act.put, List.setIfInBounds_toArray, List.set_cons_zero, List.set_cons_succ]
              refine hTake (by kernel_rfl) (fun d _ _ _ _ h => by cases d <;> exact h) hS 3 (some 76) _ rfl (v := ?_) (by kernel_rfl) ?_ ?_
              rotate_left
              · intro _ _; go_simp; first | done | with_reducible rfl
              simp only [Act.put, List.setIfInBounds_toArray, List.set_cons_zero, List.set_cons_succ]
              refine hTake (by kernel_rfl) (fun d _ _ _ _ h => by cases d <;> exact h) hS 4 (some 77) _ rfl (v := ?_) (by kernel_rfl) ?_ ?_
              rotate_left
              · intro _ _; go_simp; first | done | with_reducible rfl
              simp only [Act.put, List.setIfInBounds_toArray, List.set_cons_zero, List.set_cons_succ]
              refine hTake (by kernel_rfl) (fun d _ _ _ _ h => by cases d <;> exact h) hS 5 (some 78) _ rfl (v := ?_) (by kernel_rfl) ?_ ?_
              rotate_left
              · intro _ _; go_simp; first | done | with_reducible rfl
              simp only [Act.put, List.setIfInBounds_toArray, List.set_cons_zero, List.set_cons_succ]
              refine hTake (by kernel_rfl) (fun d _ _ _ _ h => by cases d <;> exact h) hS 6 (some 79) _ rfl (v := ?_) (by kernel_rfl) ?_ ?_
              rotate_left
              · intro w9 hS9; have q := HKC.out _ (hb6.trans hS9); go_simp; first | done | with_reducible rfl
              simp only [Act.put, List.setIfInBounds_toArray, List.set_cons_zero, List.set_cons_succ]
              refine hTake (by kernel_rfl) (fun d _ _ _ _ h => by cases d <;> exact h) hS 7 (some 80) _ rfl (v := ?_) (by kernel_rfl) ?_ ?_
              rotate_left
              · intro _ _; go_simp; first | done | with_reducible rfl
              simp only [Act.put, List.setIfInBounds_toArray, List.set_cons_zero, List.set_cons_succ]
              refine hTake (by kernel_rfl) (fun d _ _ _ _ h => by cases d <;> exact h) hS 8 (some 81) _ rfl (v := ?_) (by kernel_rfl) ?_ ?_
              rotate_left
              · intro _ _; go_simp; first | done | with_reducible rfl
              simp only [Act.put, List.setIfInBounds_toArray, List.set_cons_zero, List.set_cons_succ]
              refine hTake (by kernel_rfl) (fun d _ _ _ _ h => by cases d <;> exact h) hS 9 (some 82) _ rfl (v := ?_) (by kernel_rfl) ?_ ?_
              rotate_left
              · intro w9 hS9; have q := (HTC.out _ (hb6.trans hS9)).c6; go_simp; first | done | with_reducible rfl
              simp only [Act.put, List.setIfInBounds_toArray, List.set_cons_zero, List.set_cons_succ]
              refine hTake (by kernel_rfl) (fun d _ _ _ _ h => by cases d <;> exact h) hS 10 (some 83) _ rfl (v := ?_) (by kernel_rfl) ?_ ?_
              rotate_left
              · intro _ _; go_simp; first | done | with_reducible rfl
              simp only [Act.put, List.setIfInBounds_toArray, List.set_cons_zero, List.set_cons_succ]
              refine hTake (by kernel_rfl) (fun d _ _ _ _ h => by cases d <;> exact h) hS 11 (some 84) _ rfl (v := ?_) (by kernel_rfl) ?_ ?_
              rotate_left
              · intro _ _; go_simp; first | done | with_reducible rfl
              simp only [Act.put, List.setIfInBounds_toArray, List.set_cons_zero, List.set_cons_succ]
              refine hTake (by kernel_rfl) (fun d _ _ _ _ h => by cases d <;> exact h) hS 12 (some 85) _ rfl (v := ?_) (by kernel_rfl) ?_ ?_
              rotate_left
              · intro _ _; go_simp; first | done | with_reducible rfl
              simp only [Act.put, List.setIfInBounds_toArray, List.set_cons_zero, List.set_cons_succ]
              refine hTake (by kernel_rfl) (fun d _ _ _ _ h => by cases d <;> exact h) hS 13 (some 86) _ rfl (v := ?_) (by kernel_rfl) ?_ ?_
              rotate_left
              · intro _ _; go_simp; first | done | with_reducible rfl
              simp only [Act.put, List.setIfInBounds_toArray, List.set_cons_zero, List.set_cons_succ]
              refine hTake (by kernel_rfl) (fun d _ _ _ _ h => by cases d <;> exact h) hS 14 (some 87) _ rfl (v := ?_) (by kernel_rfl) ?_ ?_
              rotate_left
              · intro w9 hS9; have q := HKC.out _ (hb6.trans hS9); go_simp; first | done | with_reducible rfl
              simp only [Act.put, List.setIfInBounds_toArray, List.set_cons_zero, List.set_cons_succ]
              refine hTake (by kernel_rfl) (fun d _ _ _ _ h => by cases d <;> exact h) hS 15 (some 88) _ rfl (v := ?_) (by kernel_rfl) ?_ ?_
              rotate_left
              · intro _ _; go_simp; first | done | with_reducible rfl
              simp only [Act.put, List.setIfInBounds_toArray, List.set_cons_zero, List.set_cons_succ]
              refine hTake (by kernel_rfl) (fun d _ _ _ _ h => by cases d <;> exact h) hS 16 (some 89) _ rfl (v := ?_) (by kernel_rfl) ?_ ?_
              rotate_left
              · intro _ _; go_simp; first | done | with_reducible rfl
              simp only [Act.put, List.setIfInBounds_toArray, List.set_cons_zero, List.set_cons_succ]
              refine hTake (by kernel_rfl) (fun d _ _ _ _ h => by cases d <;> exact h) hS 17 (some 90) _ rfl (v := ?_) (by kernel_rfl) ?_ ?_
              rotate_left
              · intro w9 hS9; have q := (HTC.out _ (hb6.trans hS9)).c7; go_simp; first | done | with_reducible rfl
              simp only [Act.put, List.setIfInBounds_toArray, List.set_cons_zero, List.set_cons_succ]
              refine hTake (by kernel_rfl) (fun d _ _ _ _ h => by cases d <;> exact h) hS 18 (some 91) _ rfl (v := ?_) (by kernel_rfl) ?_ ?_
              rotate_left
              · intro _ _; go_simp; first | done | with_reducible rfl
              simp only [Act.put, List.setIfInBounds_toArray, List.set_cons_zero, List.set_cons_succ]
              refine wpAnyH_ready (rs := [19]) (by kernel_rfl) (by simp) ?_
              refine AllReadyH.cons (o := _) rfl (fun K9 hK9 => ?_) AllReadyH.nil
              go_simp
              refine hK9.out _ _ (hS.alloc hs7 _) (fun hS => ?_)
              clear hK9 K9
              try simp only [Act.put, List.setIfInBounds_toArray, List.set_cons_zero, List.set_cons_succ]
              refine wpAnyH_ready (rs := [20]) (by kernel_rfl) (by simp) ?_
              refine AllReadyH.cons (o := _) rfl (fun K9 hK9 => ?_) AllReadyH.nil
              refine step_app rfl _ _ _ rfl el_flex rfl (ho.alloc _) rfl (show Rd _ 5 _ (Fs [flxOf true l q]) from Rd.oneAt _ _ rfl) (Fs_one _) ?hl ?hb ?hK
              case hl => rw [Fs_length, Fs_length]; simp only [List.length_singleton]; omega
              case hb => exact Nat.le_trans hs7 (Below.of_alloc wd _).size
              intro v8 w8 ho8 hg8 hf8
              have hb8 := below_app hS (ho.alloc _) hg8 (Nat.le_trans hs7 (Below.of_alloc wd _).size) (Nat.le_refl _)
              have hu8 := (hu.alloc (.cells (flxOf true l q).vals.toArray 37)).kept hg8 hap.ne
              have hap8 := hap.app hf8 (fun k hk => ((hu.alloc (.cells (flxOf true l q).vals.toArray 37)).lt k hk).2)
              refine hK9.out _ _ hb8 (fun hS => ?_)
              clear hK9 K9
              try simp only [Act.put, List.setIfInBounds_toArray]
              refine wpAnyH_ready (rs := [21]) (by kernel_rfl) (by simp) ?_
              refine AllReadyH.cons (o := _) rfl (fun K9 hK9 => ?_) AllReadyH.nil
              go_simp
              refine hK9.out _ _ hS (fun hS => ?_)
              clear hK9 K9
              try simp only [Act.put, List.setIfInBounds_toArray, List.set_cons_zero, List.set_cons_succ]
              refine wpAnyH_done (by kernel_rfl) ?_ _
              replace hb6 := hb6.trans hS
              have ck8 := HKC.out _ hb6
              obtain ⟨_, _, r2, _⟩ := HRC9.out _ hb6
              have hs8 := hb6.size
              have HO8 := Lib.hid ho8
              have HU8 := Lib.hid hu8
              have HAP8 := Lib.hid hap8
              have HB8 := Lib.hid hb6
              clear hS ho hu hg8 hf8 hb8 hap HTC HKC HRC9 ho8 hu8 hap8 hb6 hlk hs7 hsz
              go_wp2_with (at_builtin; refine wpList_app rfl _ _ _ rfl el_int rfl (HU8.out.alloc _) rfl (Rd.oneAt _ _ (by simp)) (Is_one [(rect l sw sh q).w]) ?hl3 ?hb3 ?hK3)
              case hl3 => rw [Is_length]; first | omega | (simp; omega)
              case hb3 => exact Nat.le_trans hs8 (Below.of_alloc _ _).size
              intro v9 w9 ho9 hg9 hf9
              have hb9 := below_app (HB8.out.alloc hs8 _) (HU8.out.alloc _) hg9 (Nat.le_trans hs8 (Below.of_alloc _ _).size) (Nat.le_refl _)
              have hu9 := (HO8.out.alloc _).kept hg9 HAP8.out.symm.ne
              have hap9 := HAP8.out.symm.app hf9 (fun k hk => by have := (HO8.out.lt k hk).2; omega)
              have HO9 := Lib.hid ho9
              have HU9 := Lib.hid hu9
              have HAP9 := Lib.hid hap9.symm
              have HB9 := Lib.hid hb9
              clear ho9 hu9 hap9 hb9 hg9 hf9 ck8 r2
              go_wp2
              go_roundw
              case rel => exact ⟨j + 1, by go_num, by omega, by rw [ET.out]; exact HU9.out, by rw [EU.out]; exact HO9.out, HAP9.out, HB9.out⟩
              case measure => simp [intOf]; omega
            · obtain rfl : j = (kid l 0).length := by omega
              rw [List.take_of_length_le (by rw [List.length_map]; exact Nat.le_refl _)] at hu
              rw [List.take_of_length_le (by rw [show (flxsOf true l 0).length = _ from flxs_length _ _ _]; exact Nat.le_refl _)] at ho
              have HT9 := HTT.out.below hb6 (Nat.le_refl _)
              obtain ⟨_, _, _, _, cpad, cgap, _, _, _⟩ := cells_at hlo HT9
              simp only [Nat.zero_mul, Nat.add_zero] at cpad cgap
              have hiw : (insetR (rect l sw sh 0) (bx l 0).pad).w = max 0 (sw - 2 * (bx l 0).pad) := by rw [rect_root HV.out]; rfl
              rw [hiw] at HROW
              have HEQ : Hid (szs true l 0 (max 0 (sw - 2 * (bx l 0).pad)) = (kid l 0).map fun k => (rect l sw sh k).w) := HROW.out.symm
              have HO := Lib.hid ho
              have HU := Lib.hid hu
              have HB := Lib.hid (hb.trans (hb6.mono hb.size))
              have hjj : ¬ ((kid l 0).length : Int) < (kid l 0).length := by omega
              have hw1 : IntKind.i64.wrap (2 * (bx l 0).pad) = 2 * (bx l 0).pad := by rw [IntKind.wrap_i64]; omega
              have hw2 : IntKind.i64.wrap (sw - 2 * (bx l 0).pad) = sw - 2 * (bx l 0).pad := by rw [IntKind.wrap_i64]; omega
              have hw3 : IntKind.i64.wrap (((kid l 0).length : Int) - 1) = ((kid l 0).length : Int) - 1 := by rw [IntKind.wrap_i64]; omega
              have hw4 : IntKind.i64.wrap ((bx l 0).gap * (((kid l 0).length : Int) - 1)) = (bx l 0).gap * (((kid l 0).length : Int) - 1) := by rw [IntKind.wrap_i64]; omega
              have HFX := Lib.hid (fun (sp : Int) (h : 0 ≤ sp ∧ sp ≤ 200000) => FlexSizes_any (l := flxsOf true l 0) (space := sp) wr HO.out.rd (flxs_ok HV.out _ _) (by rw [flxs_length]; exact hks) (by rw [flxs_length]; exact hkn) h)
              clear ho hu hb hb6 hap HT9 hiw HROW
              by_cases h1 : sw - 2 * (bx l 0).pad ≤ 0
              · have hm : max 0 (sw - 2 * (bx l 0).pad) = 0 := by omega
                have hw5 : IntKind.i64.wrap (0 - (bx l 0).gap * (((kid l 0).length : Int) - 1)) = 0 - (bx l 0).gap * (((kid l 0).length : Int) - 1) := by rw [IntKind.wrap_i64]; omega
                have h2 : 0 - (bx l 0).gap * (((kid l 0).length : Int) - 1) ≤ 0 := by omega
                have hw6 : IntKind.i64.wrap (-((bx l 0).gap * (((kid l 0).length : Int) - 1))) = -((bx l 0).gap * (((kid l 0).length : Int) - 1)) := by rw [IntKind.wrap_i64]; omega
                have h3 : -((bx l 0).gap * (((kid l 0).length : Int) - 1)) ≤ 0 := by omega
                have HSP : Hid (flexL (flxsOf true l 0) 0 = (kid l 0).map fun k => (rect l sw sh k).w) := by
                  show _ = _
                  rw [← HEQ.out, hm]
                  show flexL (flxsOf true l 0) 0 = flexL (flxsOf true l 0) (spc l 0 0)
                  rw [spc_le0 (l := l) (p := 0) (q := 0) h2]
                have HC := Lib.hid (HFX.out 0 (by omega))
                clear HFX HEQ hm
                go_wp2_with (fail)
                refine HC.out.mono ?_
                rintro e w7 ⟨v7, rfl, ho7, hx⟩
                rw [HSP.out] at ho7
                have HU7 := Lib.hid (HU.out.rd.below hx (Nat.le_refl _))
                have HB7 := Lib.hid (after HB.out hx (Nat.le_refl _))
                have HO7 := Lib.hid ho7.rd
                clear hx ho7 HU HB HC cpad cgap
                go_wp2_with (fail)
                refine (equalInts_any _ HO7.out HU7.out).mono ?_
                rintro e w8 ⟨rfl, hx⟩
                rw [decide_eq_true rfl]
                have HB8 := Lib.hid (after HB7.out hx (Nat.le_refl _))
                clear hx
                go_wp2
                go_ret
                exact ⟨rfl, HB8.out⟩
              · have hm : max 0 (sw - 2 * (bx l 0).pad) = sw - 2 * (bx l 0).pad := by omega
                rw [hm] at HEQ
                have hw5 : IntKind.i64.wrap ((sw - 2 * (bx l 0).pad) - (bx l 0).gap * (((kid l 0).length : Int) - 1)) = (sw - 2 * (bx l 0).pad) - (bx l 0).gap * (((kid l 0).length : Int) - 1) := by rw [IntKind.wrap_i64]; omega
                by_cases h2 : (sw - 2 * (bx l 0).pad) - (bx l 0).gap * (((kid l 0).length : Int) - 1) ≤ 0
                · have HSP : Hid (flexL (flxsOf true l 0) 0 = (kid l 0).map fun k => (rect l sw sh k).w) := by
                    show _ = _
                    rw [← HEQ.out]
                    show flexL (flxsOf true l 0) 0 = flexL (flxsOf true l 0) (spc l 0 (sw - 2 * (bx l 0).pad))
                    rw [spc_le0 (l := l) (p := 0) (q := (sw - 2 * (bx l 0).pad)) h2]
                  have HC := Lib.hid (HFX.out 0 (by omega))
                  clear HFX HEQ hm
                  go_wp2_with (fail)
                  refine HC.out.mono ?_
                  rintro e w7 ⟨v7, rfl, ho7, hx⟩
                  rw [HSP.out] at ho7
                  have HU7 := Lib.hid (HU.out.rd.below hx (Nat.le_refl _))
                  have HB7 := Lib.hid (after HB.out hx (Nat.le_refl _))
                  have HO7 := Lib.hid ho7.rd
                  clear hx ho7 HU HB HC cpad cgap
                  go_wp2_with (fail)
                  refine (equalInts_any _ HO7.out HU7.out).mono ?_
                  rintro e w8 ⟨rfl, hx⟩
                  rw [decide_eq_true rfl]
                  have HB8 := Lib.hid (after HB7.out hx (Nat.le_refl _))
                  clear hx
                  go_wp2
                  go_ret
                  exact ⟨rfl, HB8.out⟩
                · have HSP : Hid (flexL (flxsOf true l 0) ((sw - 2 * (bx l 0).pad) - (bx l 0).gap * (((kid l 0).length : Int) - 1)) = (kid l 0).map fun k => (rect l sw sh k).w) := by
                    show _ = _
                    rw [← HEQ.out, show szs true l 0 (sw - 2 * (bx l 0).pad) = flexL (flxsOf true l 0) (spc l 0 (sw - 2 * (bx l 0).pad)) from rfl, spc_gt0 (l := l) (p := 0) (q := (sw - 2 * (bx l 0).pad)) h2]
                    rfl
                  have HC := Lib.hid (HFX.out ((sw - 2 * (bx l 0).pad) - (bx l 0).gap * (((kid l 0).length : Int) - 1)) (by omega))
                  clear HFX HEQ hm
                  go_wp2_with (fail)
                  refine HC.out.mono ?_
                  rintro e w7 ⟨v7, rfl, ho7, hx⟩
                  rw [HSP.out] at ho7
                  have HU7 := Lib.hid (HU.out.rd.below hx (Nat.le_refl _))
                  have HB7 := Lib.hid (after HB.out hx (Nat.le_refl _))
                  have HO7 := Lib.hid ho7.rd
                  clear hx ho7 HU HB HC cpad cgap
                  go_wp2_with (fail)
                  refine (equalInts_any _ HO7.out HU7.out).mono ?_
                  rintro e w8 ⟨rfl, hx⟩
                  rw [decide_eq_true rfl]
                  have HB8 := Lib.hid (after HB7.out hx (Nat.le_refl _))
                  clear hx
                  go_wp2
                  go_ret
                  exact ⟨rfl, HB8.out⟩
        · have e2 : ((bx l 0).kind != 2) = true := by rw [bne_iff_ne]; exact hk2
          clear hk2
          have hrO := HRD.out
          go_wp2_with (fail)
          refine ((sLayoutTree_any (l := l) sw sh _ hrT (by omega))).mono ?_
          rintro e w5 ⟨v5, rfl, ho5, hx⟩
          replace hb := after hb hx (Nat.le_refl _)
          replace hrO := hrO.below hx (Nat.le_refl _)
          clear hx
          have hrW := ho5.rd
          rw [HO.out] at hrW
          clear ho5
          go_wp2_with (fail)
          refine ((equalRects_any (l := rectL l sw sh) _ hrO hrW)).mono ?_
          rintro e w6 ⟨rfl, hx⟩
          replace hb := after hb hx (Nat.le_refl _)
          clear hx
          go_wp2
          go_ret
          exact ⟨rfl, hb⟩
end Go.Proofs.Ytbkhbmcoococmaa
