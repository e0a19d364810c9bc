/-
  spec.validTree answers vldB.
-/
import Derived.Test.YtdlggpphfkjidaaGreatDoorSpec
import Derived.Test.YtdlggpphfkjidaaGreatDoorVal
namespace Go.Proofs.YtdlggpphfkjidaaGreatDoor
open Go Go.RowKit

/-- what the reference asks of box i -/
structure sGood (l : List Bx) (i : Nat) : Prop where
  ok : okB (bx l i) = true
  prt : inR (par l i) (min (i : Int) 1 - 1) ((i : Int) - 1) = true
  leaf : 0 < i → (bx l (par l i).toNat).kind ≠ 0
  many : 0 < i → (skid l (par l i).toNat).length ≤ 8
  deep : 0 < i → dep l i ≤ 5

theorem sGood.lt {l : List Bx} {i : Nat} (h : sGood l i) : par l i < i := by
  have := inR_iff.1 h.prt
  omega
theorem mem_kid {l : List Bx} {i : Int} {k : Nat} : k ∈ kid l i ↔ k < l.length ∧ par l k = i := by
  simp [kid]
theorem mem_skid {l : List Bx} {i k : Nat} : k ∈ skid l i ↔ k < l.length ∧ i + 1 ≤ k ∧ par l k = i := by
  simp [skid, skidTo]
theorem skid_le_kid (l : List Bx) (i : Nat) : (skid l i).length ≤ (kid l (i : Int)).length := by
  unfold skid skidTo kid
  rw [← List.countP_eq_length_filter, ← List.countP_eq_length_filter]
  exact List.countP_mono_left fun x _ h => by simp at h ⊢; exact h.2
theorem skid_eq_kid {l : List Bx} {i : Nat} (hd : ∀ k, k < l.length → par l k < k) : skid l i = kid l (i : Int) := by
  unfold skid skidTo kid
  apply List.filter_congr
  intro k hk
  rw [List.mem_range] at hk
  have := hd k hk
  rw [decide_eq_decide]
  omega

theorem sGood_of_valid {l : List Bx} (h : Valid l) {i : Nat} (hi : i < l.length) : sGood l i := by
  have key : 0 < i → (bx l (par l i).toNat).kind ≠ 0 ∧ (skid l (par l i).toNat).length ≤ 8 := fun h0 => by
    have hp := h.par i h0 hi
    have hk := h.kids (par l i).toNat (by omega)
    refine ⟨fun h1 => ?_, Nat.le_trans (skid_le_kid _ _) hk.1⟩
    have := hk.2 h1
    have hm : i ∈ kid l ((par l i).toNat : Int) := mem_kid.2 ⟨hi, by omega⟩
    rw [this] at hm
    cases hm
  refine ⟨h.ok i hi, ?_, fun h0 => (key h0).1, fun h0 => (key h0).2, fun h0 => ?_⟩
  · rw [inR_iff]
    rcases Nat.eq_zero_or_pos i with h0 | h0
    · subst h0
      rw [h.root]
      omega
    · have hp := h.par i h0 hi
      omega
  · have := h.depth i hi
    unfold dep
    omega
theorem valid_of_sGood {l : List Bx} (h1 : 1 ≤ l.length) (h2 : l.length ≤ 16) (hg : ∀ i, i < l.length → sGood l i) (ho : ordB l = true) : Valid l := by
  have hd : ∀ k, k < l.length → par l k < k := fun k hk => (hg k hk).lt
  have hpos : ∀ i, 0 < i → i < l.length → 0 ≤ par l i := fun i h0 hi => by
    have := inR_iff.1 (hg i hi).prt
    omega
  have hroot : par l 0 = -1 := by
    have := inR_iff.1 (hg 0 (by omega)).prt
    simp at this
    omega
  refine ⟨h1, h2, hroot, fun i hi => (hg i hi).ok, fun i h0 hi => ⟨hpos i h0 hi, hd i hi, ordB_iff.1 ho i h0 hi⟩, fun i hi => ?_, fun i hi => ?_⟩
  · rcases Nat.eq_zero_or_pos i with h0 | h0
    · subst h0
      exact Nat.le_trans (anc_length l 0) (by omega)
    · have := (hg i hi).deep h0
      unfold dep at this
      omega
  · have key : ∀ k, k ∈ kid l (i : Int) → (bx l i).kind ≠ 0 ∧ (kid l (i : Int)).length ≤ 8 := fun k hk => by
      obtain ⟨hkl, hkp⟩ := mem_kid.1 hk
      have h0 : 0 < k := by
        rcases Nat.eq_zero_or_pos k with h | h
        · subst h
          rw [hroot] at hkp
          omega
        · exact h
      have a := (hg k hkl).leaf h0
      have b := (hg k hkl).many h0
      rw [hkp, Int.toNat_natCast] at a b
      rw [skid_eq_kid hd] at b
      exact ⟨a, b⟩
    cases hl : kid l (i : Int) with
    | nil => exact ⟨Nat.zero_le _, fun _ => rfl⟩
    | cons k r =>
      have := key k (by rw [hl]; exact List.mem_cons_self)
      rw [hl] at this
      exact ⟨this.2, fun h => absurd h this.1⟩
theorem vld_spec_yes {l : List Bx} (hg : ∀ i, i < l.length → sGood l i) : vldB l = (inR (l.length : Int) 1 16 && ordB l) := by
  rw [Bool.eq_iff_iff, vldB_iff, Bool.and_eq_true, inR_iff]
  constructor
  · intro h
    exact ⟨⟨by have := h.lo; omega, by have := h.hi; omega⟩, ordB_iff.2 fun i h0 hi => (h.par i h0 hi).2.2⟩
  · rintro ⟨⟨h1, h2⟩, ho⟩
    exact valid_of_sGood (by omega) (by omega) hg ho
theorem vld_spec_no {l : List Bx} {i : Nat} (hi : i < l.length) (h : ¬ sGood l i) : vldB l = false := by
  rw [Bool.eq_false_iff]
  intro hv
  exact h (sGood_of_valid (vldB_iff.1 hv) hi)

set_option maxHeartbeats 4000000 in
theorem validTree_any {v : Value} {l : List Bx} (w : World) (hv : Rd w 9 v (Bs l)) (hl : l.length ≤ 1048577) :
    Calls Tryz.prog 23 #[v] w fun e w' => e = .returned (.bool (vldB l)) ∧ Ext w w' := by
  have hrd := hv
  obtain ⟨a, c, rfl, hn, hc, hcell⟩ := hv.boxes
  unfold maxLen at hc
  have HC := Lib.hid hcell
  clear hcell hv
  go_enter Tryz.func23, Tryz.ntmps23
  go_wp2
  go_loopw [3] (fun i' wr => ∃ k : Nat, k ≤ l.length ∧ i' = .int .i64 k ∧ Hid (∀ j, j < k → sGood l j) ∧ Below w.heap.size w wr) (fun i' _ => l.length - (intOf i').toNat)
  case atStart => exact ⟨0, Nat.zero_le _, rfl, fun j h => by omega, Below.refl _ _⟩
  case round =>
    obtain ⟨k, hk, rfl, hg, hb⟩ := hrel
    have hsz := hb.size
    by_cases hlt : k < l.length
    · obtain ⟨b, off, rfl, hbl, hC⟩ := HC.out k _ (bx_get hlt)
      have H2 := Lib.hid hC
      obtain ⟨c0, c1, c2, c3, c4, c5, c6, c7, c8⟩ := (hC k _ (bx_get hlt)).below hb hbl
      clear hC
      by_cases hok : okB (bx l k) = true
      · have hok' := hok
        clear hok
        by_cases hpr : inR (par l k) (min (k : Int) 1 - 1) ((k : Int) - 1) = true
        · have Hpr := Lib.hid hpr
          have hin := inR_iff.1 hpr
          clear hpr
          by_cases hk0 : k = 0
          · have hgk : sGood l k := ⟨hok', Hpr.out, fun h => by omega, fun h => by omega, fun h => by omega⟩
            have hg2 : Hid (∀ j, j < k + 1 → sGood l j) := fun j hj => by
              rcases Nat.lt_or_ge j k with h | h
              · exact hg.out j h
              · obtain rfl : j = k := by omega
                exact hgk
            have hkn : k ≤ 0 := by omega
            clear hk0 hgk hin
            go_wp2_with (fail)
            refine (validBox_any (bx l k) _).mono ?_
            rintro e w1 ⟨he, hx1⟩
            rw [hok'] at he
            subst he
            have hb1 := after hb hx1 (Nat.le_refl _)
            obtain ⟨d0, d1, d2, d3, d4, d5, d6, d7, d8⟩ := (H2.out k _ (bx_get hlt)).below hb1 hbl
            clear c0 c1 c2 c3 c4 c5 c6 c7 c8 hb hx1
            go_wp2_with (fail)
            refine (inRange_any _ _ _ _).mono ?_
            rintro e w2 ⟨he, rfl⟩
            obtain rfl : e = .returned (.bool true) := by
              rw [he, ← Hpr.out]
              unfold par
              congr 3
              omega
            clear he
            go_wp2
            go_roundw
            case rel => exact ⟨k + 1, by omega, by go_num, hg2, hb1⟩
            case measure => simp [intOf]; omega
          · have hkp : 0 < k := by omega
            obtain ⟨p, hpp⟩ : ∃ p : Nat, par l k = p := ⟨(par l k).toNat, by omega⟩
            have hpk : p < k := by omega
            have hpc : (bx l k).parent = (p : Int) := hpp
            have Hpc := Lib.hid hpc
            have hq1 : 0 ≤ (bx l k).parent := by omega
            have hq2 : (bx l k).parent < (k : Int) := by omega
            have Hpp := Lib.hid hpp
            have hdn : Hid (Down l k) := fun j hj => by
              rcases Nat.lt_or_ge j k with h | h
              · exact (hg.out j h).lt
              · obtain rfl : j = k := by omega
                omega
            clear hk0 hin hpp hpc
            by_cases hlf : (bx l p).kind = 0
            · have hlf' : ((bx l p).kind == 0) = true := by simp [hlf]
              have hng : Hid (¬ sGood l k) := fun h => by
                have := h.leaf hkp
                rw [Hpp.out, Int.toNat_natCast] at this
                exact this hlf
              clear hlf
              go_wp2_with (fail)
              refine (validBox_any (bx l k) _).mono ?_
              rintro e w1 ⟨he, hx1⟩
              rw [hok'] at he
              subst he
              have hb1 := after hb hx1 (Nat.le_refl _)
              obtain ⟨d0, d1, d2, d3, d4, d5, d6, d7, d8⟩ := (H2.out k _ (bx_get hlt)).below hb1 hbl
              clear c0 c1 c2 c3 c4 c5 c6 c7 c8 hb hx1
              go_wp2_with (fail)
              all_goals
                refine (inRange_any _ _ _ _).mono ?_
                rintro e w2 ⟨he, rfl⟩
                obtain rfl : e = .returned (.bool true) := by
                  rw [he, ← Hpr.out]
                  unfold par
                  congr 3
                  omega
                clear he
                obtain ⟨_, e1, _⟩ := (H2.out p _ (bx_get (l := l) (i := p) (by omega))).below hb1 hbl
                rw [show off + p * 9 + 1 = off + (bx l k).parent.toNat * 9 + 1 from by rw [Hpc.out]; simp] at e1
                go_wp2
                go_ret
                exact ⟨by rw [vld_spec_no hlt hng.out]; rfl, hb1⟩
            · have hlf' : ((bx l p).kind == 0) = false := by simp [hlf]
              have Hlf := Lib.hid hlf
              clear hlf
              go_wp2_with (fail)
              refine (validBox_any (bx l k) _).mono ?_
              rintro e w1 ⟨he, hx1⟩
              rw [hok'] at he
              subst he
              have hb1 := after hb hx1 (Nat.le_refl _)
              obtain ⟨d0, d1, d2, d3, d4, d5, d6, d7, d8⟩ := (H2.out k _ (bx_get hlt)).below hb1 hbl
              clear c0 c1 c2 c3 c4 c5 c6 c7 c8 hb hx1
              go_wp2_with (fail)
              all_goals
                refine (inRange_any _ _ _ _).mono ?_
                rintro e w2 ⟨he, rfl⟩
                obtain rfl : e = .returned (.bool true) := by
                  rw [he, ← Hpr.out]
                  unfold par
                  congr 3
                  omega
                clear he
                obtain ⟨_, e1, _⟩ := (H2.out p _ (bx_get (l := l) (i := p) (by omega))).below hb1 hbl
                rw [show off + p * 9 + 1 = off + (bx l k).parent.toNat * 9 + 1 from by rw [Hpc.out]; simp] at e1
                go_wp2_with (fail)
                refine (skids_any (l := l) (i := (bx l k).parent) _ (by omega) (by omega) (hrd.below hb1 (Nat.le_refl _)) hl).mono ?_
                rintro e w3 ⟨vq, rfl, hoq, hx3⟩
                obtain ⟨aq, cq, rfl, hnq, hcq, _⟩ := hoq.rd.ints
                unfold maxLen at hcq
                simp only [ni_length, show (bx l k).parent.toNat = p from by rw [Hpc.out]; simp] at *
                have hb3 := after hb1 hx3 (Nat.le_refl _)
                clear hoq hx3 d0 d1 d2 d3 d4 d5 d6 d7 d8 e1
                by_cases h8 : (skid l p).length ≤ 8
                · go_wp2_with (fail)
                  refine (depth_any (l := l) (i := (k : Int)) _ (by omega) (by omega) (hrd.below hb3 (Nat.le_refl _)) (by simpa using hdn.out) hl).mono ?_
                  rintro e w4 ⟨rfl, rfl⟩
                  simp only [Int.toNat_natCast] at *
                  by_cases h5 : dep l k ≤ 5
                  · have hgk : sGood l k := ⟨hok', Hpr.out, fun _ => by rw [Hpp.out, Int.toNat_natCast]; exact Hlf.out, fun _ => by rw [Hpp.out, Int.toNat_natCast]; exact h8, fun _ => h5⟩
                    have hg2 : Hid (∀ j, j < k + 1 → sGood l j) := fun j hj => by
                      rcases Nat.lt_or_ge j k with h | h
                      · exact hg.out j h
                      · obtain rfl : j = k := by omega
                        exact hgk
                    clear hgk
                    go_wp2
                    go_roundw
                    case rel => exact ⟨k + 1, by omega, by go_num, hg2, hb3⟩
                    case measure => simp [intOf]; omega
                  · have hng : Hid (¬ sGood l k) := fun h => h5 (h.deep hkp)
                    go_wp2
                    go_ret
                    exact ⟨by rw [vld_spec_no hlt hng.out]; rfl, hb3⟩
                · have hng : Hid (¬ sGood l k) := fun h => by
                    have := h.many hkp
                    rw [Hpp.out, Int.toNat_natCast] at this
                    exact h8 this
                  go_wp2
                  go_ret
                  exact ⟨by rw [vld_spec_no hlt hng.out]; rfl, hb3⟩
        · have hpr' : inR (par l k) (min (k : Int) 1 - 1) ((k : Int) - 1) = false := by simpa using hpr
          have Hpr := Lib.hid hpr'
          have hng : Hid (¬ sGood l k) := fun h => hpr h.prt
          clear hpr hpr'
          go_wp2_with (fail)
          refine (validBox_any (bx l k) _).mono ?_
          rintro e w1 ⟨he, hx1⟩
          rw [hok'] at he
          subst he
          have hb1 := after hb hx1 (Nat.le_refl _)
          obtain ⟨d0, d1, d2, d3, d4, d5, d6, d7, d8⟩ := (H2.out k _ (bx_get hlt)).below hb1 hbl
          clear c0 c1 c2 c3 c4 c5 c6 c7 c8 hb hx1
          go_wp2_with (fail)
          all_goals
            refine (inRange_any _ _ _ _).mono ?_
            rintro e w2 ⟨he, rfl⟩
            obtain rfl : e = .returned (.bool false) := by
              rw [he, ← Hpr.out]
              unfold par
              congr 3
              omega
            clear he
            go_wp2
            go_ret
            exact ⟨by rw [vld_spec_no hlt hng.out]; rfl, hb1⟩
      · have hok' : okB (bx l k) = false := by simpa using hok
        have hng : Hid (¬ sGood l k) := fun h => hok h.ok
        clear hok
        go_wp2_with (fail)
        refine (validBox_any (bx l k) _).mono ?_
        rintro e w1 ⟨he, hx1⟩
        rw [hok'] at he
        subst he
        go_wp2
        go_ret
        exact ⟨by rw [vld_spec_no hlt hng.out]; rfl, after hb hx1 (Nat.le_refl _)⟩
    · obtain rfl : k = l.length := by omega
      by_cases hin : inR (l.length : Int) 1 16 = true
      · have hd : ∀ k, k < l.length → par l k < k := fun k hk => (hg.out k hk).lt
        have hpz : ∀ k, 0 < k → k < l.length → 0 ≤ par l k := fun i h0 hi => by
          have := inR_iff.1 (hg.out i hi).prt
          omega
        have Hd := Lib.hid hd
        have Hpz := Lib.hid hpz
        clear hd hpz
        go_wp2_with (fail)
        refine (inRange_any _ _ _ _).mono ?_
        rintro e w2 ⟨he, rfl⟩
        rw [hin] at he
        subst he
        go_wp2_with (fail)
        refine (inOrder_any (l := l) _ (hrd.below hb (Nat.le_refl _)) Hd.out Hpz.out hl).mono ?_
        rintro e w3 ⟨rfl, rfl⟩
        go_wp2
        go_ret
        exact ⟨by rw [vld_spec_yes hg.out, hin]; rfl, hb⟩
      · have hin' : inR (l.length : Int) 1 16 = false := by simpa using hin
        clear hin
        go_wp2_with (fail)
        refine (inRange_any _ _ _ _).mono ?_
        rintro e w2 ⟨he, rfl⟩
        rw [hin'] at he
        subst he
        go_wp2
        go_ret
        exact ⟨by rw [vld_spec_yes hg.out, hin']; rfl, hb⟩
end Go.Proofs.YtdlggpphfkjidaaGreatDoor
