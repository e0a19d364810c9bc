/-
  Parts of the proof: SVal Nat Cnt.
-/
import Derived.Test.YthkkgleoikpfgaaGreatDoorKAc
import Derived.Test.YthkkgleoikpfgaaGreatDoorKAd
namespace Go.Proofs.YthkkgleoikpfgaaGreatDoor
open Go Go.RowKit
/-- what the reference asks of box i -/
structure sGood (l : List Bx) (i : Nat) : Prop where
 ok : okB (bx l i) = true
 prt : inR (par l i) (min (i : Int) 1 - 1) ((i : Int) - 1) = true
 leaf : 0 < i → (bx l (par l i).toNat).kind ≠ 0
 many : 0 < i → (skid l (par l i).toNat).length ≤ 8
 deep : 0 < i → dep l i ≤ 5
theorem sGood.lt {l : List Bx} {i : Nat} (h : sGood l i) : par l i < i := by
 have := inR_iff.1 h.prt
 omega
theorem mem_kid {l : List Bx} {i : Int} {k : Nat} : k ∈ kid l i ↔ k < l.length ∧ par l k = i := by
 simp [kid]
theorem skid_le_kid (l : List Bx) (i : Nat) : (skid l i).length ≤ (kid l (i : Int)).length := by
 unfold skid skidTo kid
 rw [← List.countP_eq_length_filter, ← List.countP_eq_length_filter]
 exact List.countP_mono_left fun x _ h => by simp at h ⊢; exact h.2
theorem skid_eq_kid {l : List Bx} {i : Nat} (hd : ∀ k, k < l.length → par l k < k) : skid l i = kid l (i : Int) := by
 unfold skid skidTo kid
 apply List.filter_congr
 intro k hk
 rw [List.mem_range] at hk
 have := hd k hk
 rw [decide_eq_decide]
 omega
theorem sGood_of_valid {l : List Bx} (h : Valid l) {i : Nat} (hi : i < l.length) : sGood l i := by
 have key : 0 < i → (bx l (par l i).toNat).kind ≠ 0 ∧ (skid l (par l i).toNat).length ≤ 8 := fun h0 => by
  have hp := h.par i h0 hi
  have hk := h.kids (par l i).toNat (by omega)
  refine ⟨fun h1 => ?_, Nat.le_trans (skid_le_kid _ _) hk.1⟩
  have := hk.2 h1
  have hm : i ∈ kid l ((par l i).toNat : Int) := mem_kid.2 ⟨hi, by omega⟩
  rw [this] at hm
  cases hm
 refine ⟨h.ok i hi, ?_, fun h0 => (key h0).1, fun h0 => (key h0).2, fun h0 => ?_⟩
 ·rw [inR_iff]
  rcases Nat.eq_zero_or_pos i with h0 | h0
  ·subst h0
   rw [h.root]
   omega
  ·have hp := h.par i h0 hi
   omega
 ·have := h.depth i hi
  unfold dep
  omega
theorem valid_of_sGood {l : List Bx} (h1 : 1 ≤ l.length) (h2 : l.length ≤ 16) (hg : ∀ i, i < l.length → sGood l i) (ho : ordB l = true) : Valid l := by
 have hd : ∀ k, k < l.length → par l k < k := fun k hk => (hg k hk).lt
 have hpos : ∀ i, 0 < i → i < l.length → 0 ≤ par l i := fun i h0 hi => by
  have := inR_iff.1 (hg i hi).prt
  omega
 have hroot : par l 0 = -1 := by
  have := inR_iff.1 (hg 0 (by omega)).prt
  simp at this
  omega
 refine ⟨h1, h2, hroot, fun i hi => (hg i hi).ok, fun i h0 hi => ⟨hpos i h0 hi, hd i hi, ordB_iff.1 ho i h0 hi⟩, fun i hi => ?_, fun i hi => ?_⟩
 ·rcases Nat.eq_zero_or_pos i with h0 | h0
  ·subst h0
   exact Nat.le_trans (anc_length l 0) (by omega)
  ·have := (hg i hi).deep h0
   unfold dep at this
   omega
 ·have key : ∀ k, k ∈ kid l (i : Int) → (bx l i).kind ≠ 0 ∧ (kid l (i : Int)).length ≤ 8 := fun k hk => by
   obtain ⟨hkl, hkp⟩ := mem_kid.1 hk
   have h0 : 0 < k := by
    rcases Nat.eq_zero_or_pos k with h | h
    ·subst h
     rw [hroot] at hkp
     omega
    ·exact h
   have a := (hg k hkl).leaf h0
   have b := (hg k hkl).many h0
   rw [hkp, Int.toNat_natCast] at a b
   rw [skid_eq_kid hd] at b
   exact ⟨a, b⟩
  cases hl : kid l (i : Int) with
  | nil => exact ⟨Nat.zero_le _, fun _ => rfl⟩
  | cons k r =>
   have := key k (by rw [hl]; exact List.mem_cons_self)
   rw [hl] at this
   exact ⟨this.2, fun h => absurd h this.1⟩
theorem vld_spec_yes {l : List Bx} (hg : ∀ i, i < l.length → sGood l i) : vldB l = (inR (l.length : Int) 1 16 && ordB l) := by
 rw [Bool.eq_iff_iff, vldB_iff, Bool.and_eq_true, inR_iff]
 constructor
 ·intro h
  exact ⟨⟨by have := h.lo; omega, by have := h.hi; omega⟩, ordB_iff.2 fun i h0 hi => (h.par i h0 hi).2.2⟩
 ·rintro ⟨⟨h1, h2⟩, ho⟩
  exact valid_of_sGood (by omega) (by omega) hg ho
theorem vld_spec_no {l : List Bx} {i : Nat} (hi : i < l.length) (h : ¬ sGood l i) : vldB l = false := by
 rw [Bool.eq_false_iff]
 intro hv
 exact h (sGood_of_valid (vldB_iff.1 hv) hi)
set_option maxHeartbeats 4000000 in
theorem validTree_any {v : Value} {l : List Bx} (w : World) (hv : Rd w 9 v (Bs l)) (hl : l.length ≤ 1048577) :
 Calls Tryz.prog 97 #[v] w fun e w' => e = .returned (.bool (vldB l)) ∧ Ext w w' := by
 have hrd := hv
 obtain ⟨a, c, rfl, hn, hc, hcell⟩ := hv.boxes
 unfold maxLen at hc
 have HC := Lib.hid hcell
 clear hcell hv
 go_enter Tryz.func97, Tryz.ntmps97
 go_wp2
 go_loopw [3] (fun i' wr => ∃ k : Nat, k ≤ l.length ∧ i' = .int .i64 k ∧ Hid (∀ j, j < k → sGood l j) ∧ Below w.heap.size w wr) (fun i' _ => l.length - (intOf i').toNat)
 case atStart => exact ⟨0, Nat.zero_le _, rfl, fun j h => by omega, Below.refl _ _⟩
 case round =>
  obtain ⟨k, hk, rfl, hg, hb⟩ := hrel
  have hsz := hb.size
  by_cases hlt : k < l.length
  ·obtain ⟨b, off, rfl, hbl, hC⟩ := HC.out k _ (bx_get hlt)
   have H2 := Lib.hid hC
   obtain ⟨c0, c1, c2, c3, c4, c5, c6, c7, c8⟩ := (hC k _ (bx_get hlt)).below hb hbl
   clear hC
   by_cases hok : okB (bx l k) = true
   ·have hok' := hok
    clear hok
    by_cases hpr : inR (par l k) (min (k : Int) 1 - 1) ((k : Int) - 1) = true
    ·have Hpr := Lib.hid hpr
     have hin := inR_iff.1 hpr
     clear hpr
     by_cases hk0 : k = 0
     ·have hgk : sGood l k := ⟨hok', Hpr.out, fun h => by omega, fun h => by omega, fun h => by omega⟩
      have hg2 : Hid (∀ j, j < k + 1 → sGood l j) := fun j hj => by
       rcases Nat.lt_or_ge j k with h | h
       ·exact hg.out j h
       ·obtain rfl : j = k := by omega
        exact hgk
      have hkn : k ≤ 0 := by omega
      clear hk0 hgk hin
      go_wp2_with (fail)
      refine (validBox_any (bx l k) _).mono ?_
      rintro e w1 ⟨he, hx1⟩
      rw [hok'] at he
      subst he
      have hb1 := after hb hx1 (Nat.le_refl _)
      obtain ⟨d0, d1, d2, d3, d4, d5, d6, d7, d8⟩ := (H2.out k _ (bx_get hlt)).below hb1 hbl
      clear c0 c1 c2 c3 c4 c5 c6 c7 c8 hb hx1
      go_wp2_with (fail)
      refine (inRange_any _ _ _ _).mono ?_
      rintro e w2 ⟨he, rfl⟩
      obtain rfl : e = .returned (.bool true) := by
       rw [he, ← Hpr.out]
       unfold par
       congr 3
       omega
      clear he
      go_wp2
      go_roundw
      case rel => exact ⟨k + 1, by omega, by go_num, hg2, hb1⟩
      case measure => simp [intOf]; omega
     ·have hkp : 0 < k := by omega
      obtain ⟨p, hpp⟩ : ∃ p : Nat, par l k = p := ⟨(par l k).toNat, by omega⟩
      have hpk : p < k := by omega
      have hpc : (bx l k).parent = (p : Int) := hpp
      have Hpc := Lib.hid hpc
      have hq1 : 0 ≤ (bx l k).parent := by omega
      have hq2 : (bx l k).parent < (k : Int) := by omega
      have Hpp := Lib.hid hpp
      have hdn : Hid (Down l k) := fun j hj => by
       rcases Nat.lt_or_ge j k with h | h
       ·exact (hg.out j h).lt
       ·obtain rfl : j = k := by omega
        omega
      clear hk0 hin hpp hpc
      by_cases hlf : (bx l p).kind = 0
      ·have hlf' : ((bx l p).kind == 0) = true := by simp [hlf]
       have hng : Hid (¬ sGood l k) := fun h => by
        have := h.leaf hkp
        rw [Hpp.out, Int.toNat_natCast] at this
        exact this hlf
       clear hlf
       go_wp2_with (fail)
       refine (validBox_any (bx l k) _).mono ?_
       rintro e w1 ⟨he, hx1⟩
       rw [hok'] at he
       subst he
       have hb1 := after hb hx1 (Nat.le_refl _)
       obtain ⟨d0, d1, d2, d3, d4, d5, d6, d7, d8⟩ := (H2.out k _ (bx_get hlt)).below hb1 hbl
       clear c0 c1 c2 c3 c4 c5 c6 c7 c8 hb hx1
       go_wp2_with (fail)
       all_goals
        refine (inRange_any _ _ _ _).mono ?_
        rintro e w2 ⟨he, rfl⟩
        obtain rfl : e = .returned (.bool true) := by
         rw [he, ← Hpr.out]
         unfold par
         congr 3
         omega
        clear he
        obtain ⟨_, e1, _⟩ := (H2.out p _ (bx_get (l := l) (i := p) (by omega))).below hb1 hbl
        rw [show off + p * 9 + 1 = off + (bx l k).parent.toNat * 9 + 1 from by rw [Hpc.out]; simp] at e1
        go_wp2
        go_ret
        exact ⟨by rw [vld_spec_no hlt hng.out]; rfl, hb1⟩
      ·have hlf' : ((bx l p).kind == 0) = false := by simp [hlf]
       have Hlf := Lib.hid hlf
       clear hlf
       go_wp2_with (fail)
       refine (validBox_any (bx l k) _).mono ?_
       rintro e w1 ⟨he, hx1⟩
       rw [hok'] at he
       subst he
       have hb1 := after hb hx1 (Nat.le_refl _)
       obtain ⟨d0, d1, d2, d3, d4, d5, d6, d7, d8⟩ := (H2.out k _ (bx_get hlt)).below hb1 hbl
       clear c0 c1 c2 c3 c4 c5 c6 c7 c8 hb hx1
       go_wp2_with (fail)
       all_goals
        refine (inRange_any _ _ _ _).mono ?_
        rintro e w2 ⟨he, rfl⟩
        obtain rfl : e = .returned (.bool true) := by
         rw [he, ← Hpr.out]
         unfold par
         congr 3
         omega
        clear he
        obtain ⟨_, e1, _⟩ := (H2.out p _ (bx_get (l := l) (i := p) (by omega))).below hb1 hbl
        rw [show off + p * 9 + 1 = off + (bx l k).parent.toNat * 9 + 1 from by rw [Hpc.out]; simp] at e1
        go_wp2_with (fail)
        refine (skids_any (l := l) (i := (bx l k).parent) _ (by omega) (by omega) (hrd.below hb1 (Nat.le_refl _)) hl).mono ?_
        rintro e w3 ⟨vq, rfl, hoq, hx3⟩
        obtain ⟨aq, cq, rfl, hnq, hcq, _⟩ := hoq.rd.ints
        unfold maxLen at hcq
        simp only [ni_length, show (bx l k).parent.toNat = p from by rw [Hpc.out]; simp] at *
        have hb3 := after hb1 hx3 (Nat.le_refl _)
        clear hoq hx3 d0 d1 d2 d3 d4 d5 d6 d7 d8 e1
        by_cases h8 : (skid l p).length ≤ 8
        ·go_wp2_with (fail)
         refine (depth_any (l := l) (i := (k : Int)) _ (by omega) (by omega) (hrd.below hb3 (Nat.le_refl _)) (by simpa using hdn.out) hl).mono ?_
         rintro e w4 ⟨rfl, rfl⟩
         simp only [Int.toNat_natCast] at *
         by_cases h5 : dep l k ≤ 5
         ·have hgk : sGood l k := ⟨hok', Hpr.out, fun _ => by rw [Hpp.out, Int.toNat_natCast]; exact Hlf.out, fun _ => by rw [Hpp.out, Int.toNat_natCast]; exact h8, fun _ => h5⟩
          have hg2 : Hid (∀ j, j < k + 1 → sGood l j) := fun j hj => by
           rcases Nat.lt_or_ge j k with h | h
           ·exact hg.out j h
           ·obtain rfl : j = k := by omega
            exact hgk
          clear hgk
          go_wp2
          go_roundw
          case rel => exact ⟨k + 1, by omega, by go_num, hg2, hb3⟩
          case measure => simp [intOf]; omega
         ·have hng : Hid (¬ sGood l k) := fun h => h5 (h.deep hkp)
          go_wp2
          go_ret
          exact ⟨by rw [vld_spec_no hlt hng.out]; rfl, hb3⟩
        ·have hng : Hid (¬ sGood l k) := fun h => by
          have := h.many hkp
          rw [Hpp.out, Int.toNat_natCast] at this
          exact h8 this
         go_wp2
         go_ret
         exact ⟨by rw [vld_spec_no hlt hng.out]; rfl, hb3⟩
    ·have hpr' : inR (par l k) (min (k : Int) 1 - 1) ((k : Int) - 1) = false := by simpa using hpr
     have Hpr := Lib.hid hpr'
     have hng : Hid (¬ sGood l k) := fun h => hpr h.prt
     clear hpr hpr'
     go_wp2_with (fail)
     refine (validBox_any (bx l k) _).mono ?_
     rintro e w1 ⟨he, hx1⟩
     rw [hok'] at he
     subst he
     have hb1 := after hb hx1 (Nat.le_refl _)
     obtain ⟨d0, d1, d2, d3, d4, d5, d6, d7, d8⟩ := (H2.out k _ (bx_get hlt)).below hb1 hbl
     clear c0 c1 c2 c3 c4 c5 c6 c7 c8 hb hx1
     go_wp2_with (fail)
     all_goals
      refine (inRange_any _ _ _ _).mono ?_
      rintro e w2 ⟨he, rfl⟩
      obtain rfl : e = .returned (.bool false) := by
       rw [he, ← Hpr.out]
       unfold par
       congr 3
       omega
      clear he
      go_wp2
      go_ret
      exact ⟨by rw [vld_spec_no hlt hng.out]; rfl, hb1⟩
   ·have hok' : okB (bx l k) = false := by simpa using hok
    have hng : Hid (¬ sGood l k) := fun h => hok h.ok
    clear hok
    go_wp2_with (fail)
    refine (validBox_any (bx l k) _).mono ?_
    rintro e w1 ⟨he, hx1⟩
    rw [hok'] at he
    subst he
    go_wp2
    go_ret
    exact ⟨by rw [vld_spec_no hlt hng.out]; rfl, after hb hx1 (Nat.le_refl _)⟩
  ·obtain rfl : k = l.length := by omega
   by_cases hin : inR (l.length : Int) 1 16 = true
   ·have hd : ∀ k, k < l.length → par l k < k := fun k hk => (hg.out k hk).lt
    have hpz : ∀ k, 0 < k → k < l.length → 0 ≤ par l k := fun i h0 hi => by
     have := inR_iff.1 (hg.out i hi).prt
     omega
    have Hd := Lib.hid hd
    have Hpz := Lib.hid hpz
    clear hd hpz
    go_wp2_with (fail)
    refine (inRange_any _ _ _ _).mono ?_
    rintro e w2 ⟨he, rfl⟩
    rw [hin] at he
    subst he
    go_wp2_with (fail)
    refine (inOrder_any (l := l) _ (hrd.below hb (Nat.le_refl _)) Hd.out Hpz.out hl).mono ?_
    rintro e w3 ⟨rfl, rfl⟩
    go_wp2
    go_ret
    exact ⟨by rw [vld_spec_yes hg.out, hin]; rfl, hb⟩
   ·have hin' : inR (l.length : Int) 1 16 = false := by simpa using hin
    clear hin
    go_wp2_with (fail)
    refine (inRange_any _ _ _ _).mono ?_
    rintro e w2 ⟨he, rfl⟩
    rw [hin'] at he
    subst he
    go_wp2
    go_ret
    exact ⟨by rw [vld_spec_yes hg.out, hin']; rfl, hb⟩
/-- what one box more adds -/
def addK (b : Bx) (k : Nat) (acc s : Int × Int) : Int × Int :=
 if b.kind = 2 then (acc.1 + (if k = 0 then 0 else b.gap) + s.1, max acc.2 s.2) else (max acc.1 s.1, acc.2 + (if k = 0 then 0 else b.gap) + s.2)
def foldK (b : Bx) : Nat → Int × Int → List (Int × Int) → Int × Int
 | _, acc, [] => acc
 | k, acc, s :: r => foldK b (k + 1) (addK b k acc s) r
def natF (l : List Bx) : Nat → Nat → Int × Int
 | 0, _ => (0, 0)
 | f + 1, i => ((foldK (bx l i) 0 ((bx l i).w, (bx l i).h) ((kid l (i : Int)).map (natF l f))).1 + 2 * (bx l i).pad, (foldK (bx l i) 0 ((bx l i).w, (bx l i).h) ((kid l (i : Int)).map (natF l f))).2 + 2 * (bx l i).pad)
/-- the size that box i needs -/
def natS (l : List Bx) (i : Nat) : Int × Int := natF l (l.length - i) i
theorem natF_enough {l : List Bx} (hd : ∀ k, k < l.length → par l k < k) : ∀ (f g i : Nat), l.length - i ≤ f → l.length - i ≤ g → i < l.length → natF l f i = natF l g i
 | 0, _, _, h, _, hi => by omega
 | _ + 1, 0, _, _, h, hi => by omega
 | f + 1, g + 1, i, hf, hg, hi => by
  have : (kid l (i : Int)).map (natF l f) = (kid l (i : Int)).map (natF l g) := by
   apply List.map_congr_left
   intro k hk
   obtain ⟨hkl, hkp⟩ := mem_kid.1 hk
   have := hd k hkl
   exact natF_enough hd f g k (by omega) (by omega) hkl
  simp only [natF, this]
/-- the sizes of the boxes directly in box i -/
def kidS (l : List Bx) (i : Nat) : List (Int × Int) := (kid l (i : Int)).map (natS l)
theorem natS_eq {l : List Bx} (hd : ∀ k, k < l.length → par l k < k) {i : Nat} (hi : i < l.length) :
 natS l i = ((foldK (bx l i) 0 ((bx l i).w, (bx l i).h) (kidS l i)).1 + 2 * (bx l i).pad, (foldK (bx l i) 0 ((bx l i).w, (bx l i).h) (kidS l i)).2 + 2 * (bx l i).pad) := by
 have : (kid l (i : Int)).map (natF l (l.length - i - 1)) = kidS l i := by
  apply List.map_congr_left
  intro k hk
  obtain ⟨hkl, hkp⟩ := mem_kid.1 hk
  have := hd k hkl
  exact natF_enough hd _ _ k (by omega) (by omega) hkl
 unfold natS
 rw [show l.length - i = (l.length - i - 1) + 1 from by omega]
 simp only [natF, this]
theorem okB_bounds {b : Bx} (h : okB b = true) : 0 ≤ b.kind ∧ b.kind ≤ 3 ∧ 0 ≤ b.w ∧ b.w ≤ 100 ∧ 0 ≤ b.h ∧ b.h ≤ 100 ∧ 0 ≤ b.pad ∧ b.pad ≤ 50 ∧ 0 ≤ b.gap ∧ b.gap ≤ 50 ∧ 0 ≤ b.grow ∧ b.grow ≤ 10 ∧ 0 ≤ b.shrink ∧ b.shrink ≤ 10 ∧ 0 ≤ b.justify ∧ b.justify ≤ 3 := by
 rw [okB_eq] at h
 simp only [Bool.and_eq_true, inR_iff] at h
 omega
/-- both numbers in 0 to m -/
def Sz (m : Int) (s : Int × Int) : Prop := 0 ≤ s.1 ∧ s.1 ≤ m ∧ 0 ≤ s.2 ∧ s.2 ≤ m
theorem addK_sz {b : Bx} (hb : okB b = true) {k : Nat} {acc s : Int × Int} {m n : Int} (ha : Sz m acc) (hs : Sz n s) : Sz (m + n + 50) (addK b k acc s) := by
 have := okB_bounds hb
 obtain ⟨a1, a2, a3, a4⟩ := ha
 obtain ⟨s1, s2, s3, s4⟩ := hs
 unfold addK Sz
 split <;> (dsimp only; split <;> omega)
theorem foldK_sz {b : Bx} (hb : okB b = true) {n : Int} (hn : 0 ≤ n) : ∀ (r : List (Int × Int)) (k : Nat) (acc : Int × Int) (m : Int), Sz m acc → (∀ s, s ∈ r → Sz n s) → Sz (m + r.length * (n + 50)) (foldK b k acc r)
 | [], _, _, _, ha, _ => by simpa [foldK] using ha
 | s :: r, k, acc, m, ha, hr => by
  have h := foldK_sz hb hn r (k + 1) _ _ (addK_sz hb (k := k) ha (hr s List.mem_cons_self)) (fun s' hs' => hr s' (List.mem_cons_of_mem _ hs'))
  have e : m + n + 50 + (r.length : Int) * (n + 50) = m + ((s :: r).length : Int) * (n + 50) := by
   rw [List.length_cons]
   push_cast
   rw [Int.add_mul]
   omega
  rw [e] at h
  exact h
def bnd : Nat → Int
 | 0 => 0
 | f + 1 => 8 * bnd f + 600
theorem bnd_pos : ∀ f, 0 ≤ bnd f
 | 0 => by simp [bnd]
 | f + 1 => by have := bnd_pos f; simp only [bnd]; omega
theorem bnd_mono {f g : Nat} (h : f ≤ g) : bnd f ≤ bnd g := by
 induction g with
 | zero => obtain rfl : f = 0 := by omega
           exact Int.le_refl _
 | succ g ih =>
  rcases Nat.lt_or_ge g f with h1 | h1
  ·obtain rfl : f = g + 1 := by omega
   exact Int.le_refl _
  ·have := ih h1
   have := bnd_pos g
   simp only [bnd]
   omega
theorem bnd_16 : bnd 16 = 24126426575199000 := by decide
theorem Sz.mono {m n : Int} {s : Int × Int} (h : Sz m s) (hm : m ≤ n) : Sz n s := by
 obtain ⟨a, b, c, d⟩ := h
 exact ⟨a, by omega, c, by omega⟩
theorem natF_sz {l : List Bx} (hv : Valid l) : ∀ (f i : Nat), i < l.length → Sz (bnd f) (natF l f i)
 | 0, _, _ => ⟨by simp [natF], by simp [natF, bnd], by simp [natF], by simp [natF, bnd]⟩
 | f + 1, i, hi => by
  have hb := okB_bounds (hv.ok i hi)
  have h := foldK_sz (hv.ok i hi) (bnd_pos f) ((kid l (i : Int)).map (natF l f)) 0 ((bx l i).w, (bx l i).h) 100 ⟨by dsimp only; omega, by dsimp only; omega, by dsimp only; omega, by dsimp only; omega⟩ (fun s hs => by
   rw [List.mem_map] at hs
   obtain ⟨k, hk, rfl⟩ := hs
   exact natF_sz hv f k (mem_kid.1 hk).1)
  rw [List.length_map] at h
  have hk := (hv.kids i hi).1
  have hp := bnd_pos f
  have hm : ((kid l (i : Int)).length : Int) * (bnd f + 50) ≤ 8 * (bnd f + 50) := Int.mul_le_mul_of_nonneg_right (by omega) (by omega)
  obtain ⟨a, b, c, d⟩ := h
  simp only [natF, bnd, Sz]
  omega
theorem natS_sz {l : List Bx} (hv : Valid l) {i : Nat} (hi : i < l.length) : Sz 24126426575199000 (natS l i) := by
 have h := natF_sz hv (l.length - i) i hi
 rw [← bnd_16]
 exact h.mono (bnd_mono (by have := hv.hi; omega))
theorem foldK_snoc (b : Bx) : ∀ (r : List (Int × Int)) (k : Nat) (acc s : Int × Int), foldK b k acc (r ++ [s]) = addK b (k + r.length) (foldK b k acc r) s
 | [], _, _, _ => rfl
 | t :: r, k, acc, s => by
  simp only [List.cons_append, foldK, List.length_cons]
  rw [foldK_snoc b r (k + 1)]
  congr 1
  omega
/-- behind j boxes -/
def natTo (l : List Bx) (i j : Nat) : Int × Int := foldK (bx l i) 0 ((bx l i).w, (bx l i).h) ((kidS l i).take j)
theorem natTo_succ {l : List Bx} {i j k : Nat} (hk : (kid l (i : Int))[j]? = some k) : natTo l i (j + 1) = addK (bx l i) j (natTo l i j) (natS l k) := by
 have hj : j < (kidS l i).length := by
  unfold kidS
  rw [List.length_map]
  exact (List.getElem?_eq_some_iff.1 hk).1
 have : (kidS l i).take (j + 1) = (kidS l i).take j ++ [natS l k] := by
  rw [List.take_add_one]
  simp [kidS, hk]
 unfold natTo
 rw [this, foldK_snoc, List.length_take]
 congr 1
 omega
theorem natTo_full {l : List Bx} (i : Nat) : natTo l i (kid l (i : Int)).length = foldK (bx l i) 0 ((bx l i).w, (bx l i).h) (kidS l i) := by
 unfold natTo
 rw [List.take_of_length_le (by simp [kidS])]
theorem natTo_sz {l : List Bx} (hv : Valid l) {i j : Nat} (hi : i < l.length) : Sz (8 * 24126426575199000 + 600) (natTo l i j) := by
 have hb := okB_bounds (hv.ok i hi)
 have h := foldK_sz (hv.ok i hi) (n := 24126426575199000) (by omega) ((kidS l i).take j) 0 ((bx l i).w, (bx l i).h) 100 ⟨by dsimp only; omega, by dsimp only; omega, by dsimp only; omega, by dsimp only; omega⟩ (fun s hs => by
  have hs := List.mem_of_mem_take hs
  unfold kidS at hs
  rw [List.mem_map] at hs
  obtain ⟨k, hk, rfl⟩ := hs
  exact natS_sz hv (mem_kid.1 hk).1)
 have hk := (hv.kids i hi).1
 have hlen : ((kidS l i).take j).length ≤ 8 := by
  rw [List.length_take]
  unfold kidS
  rw [List.length_map]
  omega
 exact h.mono (by omega)
theorem kidS_length (l : List Bx) (i : Nat) : (kidS l i).length = (kid l (i : Int)).length := by simp [kidS]
/-- what impl.natural keeps in memory: its result, the box, what it has reckoned -/
structure NatMem (B : Nat) (w : World) (x : Bx) (s : Int × Int) : Prop where
 size : B + 1 + 1 < w.heap.size
 r : ∃ e, w.heap[B]? = some (.cells #[.int .i64 0, .int .i64 0] e)
 b : ∃ e, w.heap[B + 1]? = some (.cells x.arr e)
 i : ∃ e, w.heap[B + 1 + 1]? = some (.cells #[.int .i64 s.1, .int .i64 s.2] e)
theorem NatMem.ext {B : Nat} {w w' : World} {x : Bx} {s : Int × Int} (h : NatMem B w x s) (hx : Ext w w') : NatMem B w' x s := by
 obtain ⟨h1, ⟨e1, h2⟩, ⟨e2, h3⟩, ⟨e3, h4⟩⟩ := h
 exact ⟨Nat.lt_of_lt_of_le h1 hx.size, ⟨e1, by rw [hx.block B (by omega)]; exact h2⟩, ⟨e2, by rw [hx.block (B + 1) (by omega)]; exact h3⟩, ⟨e3, by rw [hx.block (B + 1 + 1) (by omega)]; exact h4⟩⟩
theorem NatMem.store {B : Nat} {w : World} {x : Bx} {s : Int × Int} (h : NatMem B w x s) (a b : Int) : NatMem B ((w.setCell ⟨B + 1 + 1, 0, none⟩ (.int .i64 a)).setCell ⟨B + 1 + 1, 1, none⟩ (.int .i64 b)) x (a, b) := by
 obtain ⟨h1, ⟨e1, h2⟩, ⟨e2, h3⟩, ⟨e3, h4⟩⟩ := h
 refine ⟨by simpa [World.setCell] using h1, ⟨e1, ?_⟩, ⟨e2, ?_⟩, ⟨e3, ?_⟩⟩
 ·rw [Below.heap_setCell _ _ _ _ (by simp; omega), Below.heap_setCell _ _ _ _ (by simp; omega)]
  exact h2
 ·rw [Below.heap_setCell _ _ _ _ (by simp), Below.heap_setCell _ _ _ _ (by simp)]
  exact h3
 ·simp only [World.setCell, Array.getElem?_modify]
  simp [h4]
theorem heap_new3 (w : World) (o1 o2 o3 : Obj) : (((w.alloc o1).alloc o2).alloc o3).heap[w.heap.size]? = some o1 ∧ (((w.alloc o1).alloc o2).alloc o3).heap[w.heap.size + 1]? = some o2 ∧ (((w.alloc o1).alloc o2).alloc o3).heap[w.heap.size + 1 + 1]? = some o3 := by
 refine ⟨?_, ?_, ?_⟩
 ·show (((w.heap.push o1).push o2).push o3)[_]? = _
  simp only [Array.getElem?_push, Array.size_push]
  rw [if_neg (by omega), if_neg (by omega), if_pos trivial]
 ·show (((w.heap.push o1).push o2).push o3)[_]? = _
  simp only [Array.getElem?_push, Array.size_push]
  rw [if_neg (by omega), if_pos trivial]
 ·show (((w.heap.push o1).push o2).push o3)[_]? = _
  simp only [Array.getElem?_push, Array.size_push]
  rw [if_pos trivial]
theorem NatMem.congr {B : Nat} {w : World} {x : Bx} {s s' : Int × Int} (h : NatMem B w x s) (e : s = s') : NatMem B w x s' := e ▸ h
theorem Own.setBelow {w : World} {base size : Nat} {v : Value} {xs : List Value} (h : Own w base size v xs) {p : Addr} (hp : p.block < base) (u : Value) : Own (w.setCell p u) base size v xs :=
 h.setOther (fun e => by have := (h.lt _ e).1; omega) u
theorem addK_row {b : Bx} (hk : b.kind = 2) (k : Nat) (acc s : Int × Int) : addK b k acc s = (acc.1 + (if k = 0 then 0 else b.gap) + s.1, max acc.2 s.2) := by
 unfold addK
 rw [if_pos hk]
theorem addK_col {b : Bx} (hk : ¬ b.kind = 2) (k : Nat) (acc s : Int × Int) : addK b k acc s = (max acc.1 s.1, acc.2 + (if k = 0 then 0 else b.gap) + s.2) := by
 unfold addK
 rw [if_neg hk]
set_option maxRecDepth 100000 in
set_option maxHeartbeats 4000000 in
theorem natural_ind {v : Value} {l : List Bx} (hv : Valid l) : ∀ (f i : Nat), l.length - i ≤ f → i < l.length → ∀ (w : World), Rd w 9 v (Bs l) →
 Calls Tryz.prog 133 #[v, .int .i64 (i : Int)] w fun e w' => e = .returned (.agg #[.int .i64 (natS l i).1, .int .i64 (natS l i).2]) ∧ Ext w w'
 | 0, _, h, hi, _, _ => by omega
 | f + 1, i, hf, hi, w, hr => by
  have hrd := hr
  obtain ⟨a, c, rfl, hn, hc, hcell⟩ := hr.boxes
  unfold maxLen at hc
  have ih := Lib.hid (natural_ind (v := .slice a l.length c) hv f)
  obtain ⟨b, off, rfl, hbl, hC⟩ := hcell i _ (bx_get hi)
  obtain ⟨c0, c1, c2, c3, c4, c5, c6, c7, c8⟩ := hC i _ (bx_get hi)
  have Hl := Lib.hid hv.hi
  clear hcell hr hC
  go_enter Tryz.func133, Tryz.ntmps133
  go_wp2_with (fail)
  have hbx : Below w.heap.size w ((w.alloc (.cells #[.int .i64 0, .int .i64 0] 150)).alloc (.cells #[.int .i64 (bx l i).parent, .int .i64 (bx l i).kind, .int .i64 (bx l i).w, .int .i64 (bx l i).h, .int .i64 (bx l i).pad, .int .i64 (bx l i).gap, .int .i64 (bx l i).grow, .int .i64 (bx l i).shrink, .int .i64 (bx l i).justify] 39) |>.alloc (.cells #[.int .i64 (bx l i).w, .int .i64 (bx l i).h] 150)) :=
   (((Below.refl _ _).alloc (Nat.le_refl _) _).alloc (by simp) _).alloc (by simp; omega) _
  refine (kids_any (l := l) (i : Int) _ (hrd.below hbx (Nat.le_refl _)) (by have := Hl.out; omega)).mono ?_
  rintro e w1 ⟨vk, rfl, hok, hx⟩
  obtain ⟨aq, cq, rfl, hnq, hcq, hcell⟩ := hok.rd.ints
  have Hq := Lib.hid hcell
  unfold maxLen at hcq
  simp only [ni_length] at *
  have hm0 : NatMem w.heap.size w1 (bx l i) ((bx l i).w, (bx l i).h) := by
   have hz := hx.size
   simp at hz
   refine ⟨by omega, ⟨150, ?_⟩, ⟨39, ?_⟩, ⟨150, ?_⟩⟩
   ·rw [hx.block _ (by simp; omega)]
    exact (heap_new3 _ _ _ _).1
   ·rw [hx.block _ (by simp)]
    exact (heap_new3 _ _ _ _).2.1
   ·rw [hx.block _ (by simp)]
    exact (heap_new3 _ _ _ _).2.2
  have hb1 := after hbx hx (Nat.le_refl _)
  have hbd := okB_bounds (hv.ok i hi)
  have hok2 : Own w1 (w.heap.size + 1 + 1 + 1) 1 (.slice aq (kid l (i : Int)).length cq) (Is (ni (kid l (i : Int)))) := hok.weak (by simp)
  clear hok hx hbx hcell Hq c0 c1 c2 c3 c4 c5 c6 c7 c8
  go_wp2
  go_loopw [26] (fun i' wr => ∃ j : Nat, j ≤ (kid l (i : Int)).length ∧ i' = .int .i64 j ∧ NatMem w.heap.size wr (bx l i) (natTo l i j) ∧ Below w.heap.size w wr ∧ Own wr (w.heap.size + 1 + 1 + 1) 1 (.slice aq (kid l (i : Int)).length cq) (Is (ni (kid l (i : Int))))) (fun i' _ => (kid l (i : Int)).length - (intOf i').toNat)
  case atStart => exact ⟨0, Nat.zero_le _, rfl, hm0, hb1, hok2⟩
  case round =>
   clear hm0 hb1 hok2
   obtain ⟨j, hj, rfl, hm, hb, ho⟩ := hrel
   have hsz := hb.size
   by_cases hlt : j < (kid l (i : Int)).length
   ·obtain ⟨k, hk⟩ : ∃ k, (kid l (i : Int))[j]? = some k := ⟨_, List.getElem?_eq_getElem hlt⟩
    obtain ⟨hkl, hkp⟩ := mem_kid.1 (List.mem_of_getElem? hk)
    have hdk := hv.down hkl k (Nat.le_refl _)
    have hik : i < k := by omega
    obtain ⟨aq', cq', eq, _, _, hcq2⟩ := ho.rd.ints
    simp only [ni_length, Value.slice.injEq] at eq
    obtain ⟨rfl, _, rfl⟩ := eq
    obtain ⟨gq, oq, rfl, hcq3⟩ := hcq2 j (k : Int) (by simp [ni, hk])
    have cq2 := hcq3 j (k : Int) (by simp [ni, hk])
    have hns := natS_sz hv hkl
    have hts := natTo_sz hv (j := j) hi
    have Hsucc := Lib.hid (natTo_succ (l := l) (i := i) hk)
    obtain ⟨n1, n2, n3, n4⟩ := hns
    obtain ⟨t1, t2, t3, t4⟩ := hts
    have Hih := Lib.hid (ih.out k (by omega) hkl wr (hrd.below hb (Nat.le_refl _)))
    have Hk2 := Lib.hid hk
    clear hcq2 hcq3 hkp hk
    go_wp2_with (fail)
    refine Hih.out.mono ?_
    rintro e w2 ⟨rfl, hx2⟩
    have hm2 := hm.ext hx2
    have hb2 := after hb hx2 (Nat.le_refl _)
    have ho2 := ho.below hx2 (Nat.le_refl _)
    have Hm2 := Lib.hid hm2
    obtain ⟨s1, _, ⟨e2, hB⟩, ⟨e3, hI⟩⟩ := hm2
    have s0 : w.heap.size + 1 < w2.heap.size := by omega
    have kk : w2.cell? ⟨w.heap.size + 1, 1, none⟩ = some (.int .i64 (bx l i).kind) := by rw [cell_of_heap hB]; rfl
    have kg : w2.cell? ⟨w.heap.size + 1, 5, none⟩ = some (.int .i64 (bx l i).gap) := by rw [cell_of_heap hB]; rfl
    have k0 : w2.cell? ⟨w.heap.size + 1 + 1, 0, none⟩ = some (.int .i64 (natTo l i j).1) := by rw [cell_of_heap hI]; rfl
    have k1 : w2.cell? ⟨w.heap.size + 1 + 1, 1, none⟩ = some (.int .i64 (natTo l i j).2) := by rw [cell_of_heap hI]; rfl
    have f0 : w2.frozen? ⟨w.heap.size + 1 + 1, 0, none⟩ = false := frozen_of_heap hI
    have f1 : w2.frozen? ⟨w.heap.size + 1 + 1, 1, none⟩ = false := frozen_of_heap hI
    clear hm hb ho hx2 cq2 hB hI
    by_cases hj0 : j = 0
    ·have hj0' : ((j : Int) == 0) = true := by simp [hj0]
     have Hj0 := Lib.hid hj0
     clear hj0
     by_cases hkd : (bx l i).kind = 2
     ·have hkd' : ((bx l i).kind == 2) = true := by simp [hkd]
      have Hkd := Lib.hid hkd
      clear hkd
      go_wp2
      go_roundw
      case rel =>
       refine ⟨j + 1, by omega, by go_num, ((Hm2.out.store _ _).ext (Below.of_alloc _ _)).congr ?_, ((hb2.setCell (p := ⟨w.heap.size + 1 + 1, 0, none⟩) (by simp; omega) _).setCell (p := ⟨w.heap.size + 1 + 1, 1, none⟩) (by simp; omega) _).alloc (by simp [World.setCell]; omega) _, ((ho2.setBelow (p := ⟨w.heap.size + 1 + 1, 0, none⟩) (by simp) _).setBelow (p := ⟨w.heap.size + 1 + 1, 1, none⟩) (by simp) _).alloc _⟩
       rw [Hsucc.out, addK_row Hkd.out, if_pos Hj0.out]
       refine Prod.ext ?_ ?_ <;> dsimp only <;> (try rw [Int.max_def]) <;> (try split) <;> (try split) <;> omega
      case measure => simp [intOf]; omega
     ·have hkd' : ((bx l i).kind == 2) = false := by simp [hkd]
      have Hkd := Lib.hid hkd
      clear hkd
      go_wp2
      go_roundw
      case rel =>
       refine ⟨j + 1, by omega, by go_num, ((Hm2.out.store _ _).ext (Below.of_alloc _ _)).congr ?_, ((hb2.setCell (p := ⟨w.heap.size + 1 + 1, 0, none⟩) (by simp; omega) _).setCell (p := ⟨w.heap.size + 1 + 1, 1, none⟩) (by simp; omega) _).alloc (by simp [World.setCell]; omega) _, ((ho2.setBelow (p := ⟨w.heap.size + 1 + 1, 0, none⟩) (by simp) _).setBelow (p := ⟨w.heap.size + 1 + 1, 1, none⟩) (by simp) _).alloc _⟩
       rw [Hsucc.out, addK_col Hkd.out, if_pos Hj0.out]
       refine Prod.ext ?_ ?_ <;> dsimp only <;> (try rw [Int.max_def]) <;> (try split) <;> (try split) <;> omega
      case measure => simp [intOf]; omega
    ·have hj0' : ((j : Int) == 0) = false := by simp [hj0]
     have Hj0 := Lib.hid hj0
     clear hj0
     by_cases hkd : (bx l i).kind = 2
     ·have hkd' : ((bx l i).kind == 2) = true := by simp [hkd]
      have Hkd := Lib.hid hkd
      clear hkd
      go_wp2
      go_roundw
      case rel =>
       refine ⟨j + 1, by omega, by go_num, ((Hm2.out.store _ _).ext (Below.of_alloc _ _)).congr ?_, ((hb2.setCell (p := ⟨w.heap.size + 1 + 1, 0, none⟩) (by simp; omega) _).setCell (p := ⟨w.heap.size + 1 + 1, 1, none⟩) (by simp; omega) _).alloc (by simp [World.setCell]; omega) _, ((ho2.setBelow (p := ⟨w.heap.size + 1 + 1, 0, none⟩) (by simp) _).setBelow (p := ⟨w.heap.size + 1 + 1, 1, none⟩) (by simp) _).alloc _⟩
       rw [Hsucc.out, addK_row Hkd.out, if_neg Hj0.out]
       refine Prod.ext ?_ ?_ <;> dsimp only <;> (try rw [Int.max_def]) <;> (try split) <;> (try split) <;> omega
      case measure => simp [intOf]; omega
     ·have hkd' : ((bx l i).kind == 2) = false := by simp [hkd]
      have Hkd := Lib.hid hkd
      clear hkd
      go_wp2
      go_roundw
      case rel =>
       refine ⟨j + 1, by omega, by go_num, ((Hm2.out.store _ _).ext (Below.of_alloc _ _)).congr ?_, ((hb2.setCell (p := ⟨w.heap.size + 1 + 1, 0, none⟩) (by simp; omega) _).setCell (p := ⟨w.heap.size + 1 + 1, 1, none⟩) (by simp; omega) _).alloc (by simp [World.setCell]; omega) _, ((ho2.setBelow (p := ⟨w.heap.size + 1 + 1, 0, none⟩) (by simp) _).setBelow (p := ⟨w.heap.size + 1 + 1, 1, none⟩) (by simp) _).alloc _⟩
       rw [Hsucc.out, addK_col Hkd.out, if_neg Hj0.out]
       refine Prod.ext ?_ ?_ <;> dsimp only <;> (try rw [Int.max_def]) <;> (try split) <;> (try split) <;> omega
      case measure => simp [intOf]; omega
   ·obtain rfl : j = (kid l (i : Int)).length := by omega
    have hts := natTo_sz hv (j := (kid l (i : Int)).length) hi
    obtain ⟨t1, t2, t3, t4⟩ := hts
    obtain ⟨s1, ⟨e1, hR⟩, ⟨e2, hB⟩, ⟨e3, hI⟩⟩ := hm
    have s0 : w.heap.size + 1 < wr.heap.size := by omega
    have kp : wr.cell? ⟨w.heap.size + 1, 4, none⟩ = some (.int .i64 (bx l i).pad) := by rw [cell_of_heap hB]; rfl
    have k0 : wr.cell? ⟨w.heap.size + 1 + 1, 0, none⟩ = some (.int .i64 (natTo l i (kid l (i : Int)).length).1) := by rw [cell_of_heap hI]; rfl
    have k1 : wr.cell? ⟨w.heap.size + 1 + 1, 1, none⟩ = some (.int .i64 (natTo l i (kid l (i : Int)).length).2) := by rw [cell_of_heap hI]; rfl
    have r0 : wr.cell? ⟨w.heap.size, 0, none⟩ = some (.int .i64 0) := by rw [cell_of_heap hR]; rfl
    have r1 : wr.cell? ⟨w.heap.size, 1, none⟩ = some (.int .i64 0) := by rw [cell_of_heap hR]; rfl
    have f0 : wr.frozen? ⟨w.heap.size, 0, none⟩ = false := frozen_of_heap hR
    have f1 : wr.frozen? ⟨w.heap.size, 1, none⟩ = false := frozen_of_heap hR
    have Hfin := Lib.hid (natS_eq (fun k hk => hv.down hk k (Nat.le_refl _)) hi)
    have Hfull := Lib.hid (natTo_full (l := l) i)
    clear hR hB hI
    go_wp2
    refine bodyPost_ret (v := .agg #[.int .i64 ((natTo l i (kid l (i : Int)).length).1 + 2 * (bx l i).pad), .int .i64 ((natTo l i (kid l (i : Int)).length).2 + 2 * (bx l i).pad)]) ?_ rfl ⟨?_, ?_⟩
    ·simp [results, Tryz.results133, go_sem, r0, r1]
    ·rw [Hfin.out, ← Hfull.out]
    ·exact (hb.setCell (p := ⟨w.heap.size, 0, none⟩) (by simp) _).setCell (p := ⟨w.heap.size, 1, none⟩) (by simp) _
theorem natural_any {v : Value} {l : List Bx} (hv : Valid l) {i : Int} (w : World) (h0 : 0 ≤ i) (hi : i < l.length) (hr : Rd w 9 v (Bs l)) :
 Calls Tryz.prog 133 #[v, .int .i64 i] w fun e w' => e = .returned (.agg #[.int .i64 (natS l i.toNat).1, .int .i64 (natS l i.toNat).2]) ∧ Ext w w' := by
 obtain ⟨i, rfl⟩ := Int.eq_ofNat_of_zero_le h0
 exact natural_ind hv _ i (Nat.le_refl _) (by omega) w hr
theorem anc_le {l : List Bx} : ∀ (i : Nat), Down l i → ∀ a, a ∈ anc l i → a ≤ i := by
 intro i
 induction i using Nat.strongRecOn with
 | _ i ih =>
  intro hd a ha
  rw [anc_eq hd] at ha
  rcases List.mem_cons.1 ha with h | h
  ·omega
  ·split at h
   ·have hp := hd i (Nat.le_refl _)
    have := ih (par l i).toNat (by omega) (hd.mono (by omega)) a h
    omega
   ·cases h
theorem arB_self {l : List Bx} {i : Nat} (hd : Down l i) : arB l i i = true := by
 unfold arB
 rw [anc_eq hd]
 simp
theorem arB_up {l : List Bx} {a i : Nat} (hd : Down l i) (h : a < i) : arB l a i = (decide (0 ≤ par l i) && arB l a (par l i).toNat) := by
 unfold arB
 rw [anc_eq hd]
 by_cases hp : 0 ≤ par l i
 ·rw [if_pos hp]
  have : ¬ a = i := by omega
  simp [hp, this]
 ·rw [if_neg hp]
  have : ¬ a = i := by omega
  simp [hp, this]
theorem arB_low {l : List Bx} {a i : Nat} (hd : Down l i) (h : i ≤ a) : arB l a i = decide (i = a) := by
 unfold arB
 rw [decide_eq_decide]
 constructor
 ·intro hm
  have := anc_le i hd a hm
  omega
 ·rintro rfl
  have := arB_self hd
  unfold arB at this
  simpa using this
set_option maxHeartbeats 1000000 in
theorem saround_any {v : Value} {l : List Bx} {a i : Int} (w : World) (ha : 0 ≤ a) (h0 : 0 ≤ i) (hi : i < l.length) (hv : Rd w 9 v (Bs l)) (hd : Down l i.toNat) :
 Calls Tryz.prog 122 #[v, .int .i64 a, .int .i64 i] w fun e w' => e = .returned (.bool (arB l a.toNat i.toNat)) ∧ w = w' := by
 obtain ⟨i, rfl⟩ := Int.eq_ofNat_of_zero_le h0
 obtain ⟨a, rfl⟩ := Int.eq_ofNat_of_zero_le ha
 simp only [Int.toNat_natCast] at hd ⊢
 obtain ⟨ad, c, rfl, hn, hc, hcell⟩ := hv.boxes
 unfold maxLen at hc
 have hi' : i < l.length := by omega
 obtain ⟨b, off, rfl, hbl, hC⟩ := hcell i _ (bx_get hi')
 have HC := Lib.hid hC
 clear hcell hv hC
 go_enter Tryz.func122, Tryz.ntmps122
 go_wp2
 go_loop [2] (fun x => ∃ k : Int, x = .int .i64 k ∧ k ≤ i ∧ Hid (arB l a i = (decide (0 ≤ k) && arB l a k.toNat))) (fun x => (intOf x + 1).toNat)
 case atStart => exact ⟨i, rfl, Int.le_refl _, by show _ = _; simp⟩
 case round =>
  obtain ⟨k, rfl, hk, hq⟩ := hrel
  by_cases hlt : (a : Int) < k
  ·obtain ⟨k, rfl⟩ := Int.eq_ofNat_of_zero_le (show 0 ≤ k by omega)
   obtain ⟨c0, _⟩ := HC.out k _ (bx_get (l := l) (i := k) (by omega))
   have hpk := hd k (by omega)
   have hq2 : Hid (arB l a i = (decide (0 ≤ par l k) && arB l a (par l k).toNat)) := by
    show _ = _
    rw [hq.out, ← arB_up (hd.mono (by omega)) (by omega)]
    simp
   have hpc : (bx l k).parent < (k : Int) := hpk
   clear hpk
   go_wp2
   go_round
   case rel => exact ⟨_, rfl, by omega, hq2⟩
   case measure => simp [intOf]; omega
  ·by_cases hke : k = a
   ·have hkb : (k == (a : Int)) = true := by simp [hke]
    have hfin : Hid (arB l a i = true) := by
     show _ = _
     rw [hq.out, hke, Int.toNat_natCast, arB_self (hd.mono (by omega))]
     simp
    clear hke
    go_wp2
    go_ret
    exact ⟨by rw [hfin.out]; rfl, rfl⟩
   ·have hkb : (k == (a : Int)) = false := by simp [hke]
    have hfin : Hid (arB l a i = false) := by
     show _ = _
     rw [hq.out]
     by_cases h0k : 0 ≤ k
     ·rw [arB_low (hd.mono (by omega)) (by omega)]
      have : ¬ k.toNat = a := by omega
      simp [this]
     ·simp [h0k]
    clear hke
    go_wp2
    go_ret
    exact ⟨by rw [hfin.out]; rfl, rfl⟩
/-- how many boxes from a on lie in a, up to the first that does not -/
def cntS (l : List Bx) (a : Nat) : Nat := ((List.range' a (l.length - a)).takeWhile fun i => arB l a i).length
theorem takeWhile_range {p : Nat → Bool} : ∀ (n a j : Nat), j ≤ n → (∀ t, t < j → p (a + t) = true) → (j = n ∨ p (a + j) = false) → ((List.range' a n).takeWhile p).length = j
 | 0, a, j, hj, _, _ => by
  obtain rfl : j = 0 := by omega
  rfl
 | n + 1, a, 0, _, _, h => by
  rcases h with h | h
  ·omega
  ·rw [List.range'_succ, List.takeWhile_cons]
   simp at h
   simp [h]
 | n + 1, a, j + 1, hj, h1, h2 => by
  have h0 := h1 0 (by omega)
  simp at h0
  rw [List.range'_succ, List.takeWhile_cons, h0]
  simp only [if_true, List.length_cons]
  rw [takeWhile_range n (a + 1) j (by omega) (fun t ht => by have := h1 (t + 1) (by omega); rw [← Nat.add_assoc] at this; rw [Nat.add_right_comm]; exact this) (by
   rcases h2 with h2 | h2
   ·exact .inl (by omega)
   ·exact .inr (by rw [Nat.add_right_comm]; rw [← Nat.add_assoc] at h2; exact h2))]
theorem cntS_le (l : List Bx) (a : Nat) : cntS l a ≤ l.length - a := by
 have h := (List.takeWhile_sublist (fun i => arB l a i) (l := List.range' a (l.length - a))).length_le
 rw [List.length_range'] at h
 exact h
set_option maxHeartbeats 1000000 in
theorem scount_any {v : Value} {l : List Bx} {a : Int} (w : World) (ha : 0 ≤ a) (hal : a < l.length) (hr : Rd w 9 v (Bs l)) (hv : Valid l) :
 Calls Tryz.prog 98 #[v, .int .i64 a] w fun e w' => e = .returned (.int .i64 (cntS l a.toNat : Nat)) ∧ w = w' := by
 obtain ⟨a, rfl⟩ := Int.eq_ofNat_of_zero_le ha
 simp only [Int.toNat_natCast]
 have hrd := hr
 obtain ⟨ad, c, rfl, hn, hc, _⟩ := hr.boxes
 unfold maxLen at hc
 have Hv := Lib.hid hv
 have Hl := Lib.hid hv.hi
 clear hr hv
 go_enter Tryz.func98, Tryz.ntmps98
 go_wp2
 go_loop [5, 6] (fun n i => ∃ j : Nat, n = .int .i64 j ∧ i = .int .i64 ((a : Int) + j) ∧ a + j ≤ l.length ∧ Hid (∀ t, t < j → arB l a (a + t) = true)) (fun n _ => l.length - (intOf n).toNat)
 case atStart => exact ⟨0, rfl, by simp, by omega, fun t ht => by omega⟩
 case round =>
  obtain ⟨j, rfl, rfl, hj, hq⟩ := hrel
  by_cases hlt : a + j < l.length
  ·have hlti : (a : Int) + j < l.length := by omega
   by_cases har : arB l a (a + j) = true
   ·go_wp2_with (fail)
    refine (saround_any (l := l) (a := (a : Int)) (i := (a : Int) + j) _ (by omega) (by omega) (by omega) hrd (Hv.out.down (by omega))).mono ?_
    rintro e w2 ⟨he, rfl⟩
    rw [Int.toNat_natCast, show ((a : Int) + j).toNat = a + j from by omega, har] at he
    subst he
    have hq2 : Hid (∀ t, t < j + 1 → arB l a (a + t) = true) := fun t ht => by
     rcases Nat.lt_or_ge t j with h | h
     ·exact hq.out t h
     ·obtain rfl : t = j := by omega
      exact har
    clear har
    go_wp2
    go_round
    case rel => exact ⟨j + 1, by go_num, by rw [show (a : Int) + j + 1 = (a : Int) + ((j + 1 : Nat) : Int) from by omega], by omega, hq2⟩
    case measure => simp [intOf]; omega
   ·have har' : arB l a (a + j) = false := by simpa using har
    have hfin : Hid (cntS l a = j) := takeWhile_range _ a j (by omega) hq.out (.inr har')
    clear har
    go_wp2_with (fail)
    refine (saround_any (l := l) (a := (a : Int)) (i := (a : Int) + j) _ (by omega) (by omega) (by omega) hrd (Hv.out.down (by omega))).mono ?_
    rintro e w2 ⟨he, rfl⟩
    rw [Int.toNat_natCast, show ((a : Int) + j).toNat = a + j from by omega, har'] at he
    subst he
    go_wp2
    go_ret
    exact ⟨by rw [hfin.out]; rfl, rfl⟩
  ·have hfin : Hid (cntS l a = j) := takeWhile_range _ a j (by omega) hq.out (.inl (by omega))
   have hlti : ¬ ((a : Int) + j < l.length) := by omega
   go_wp2
   go_ret
   exact ⟨by rw [hfin.out]; rfl, rfl⟩
theorem toInt_any (t : Bool) (w : World) : Calls Tryz.prog 99 #[.bool t] w fun e w' => e = .returned (.int .i64 (if t then 1 else 0)) ∧ w = w' := by
 cases t
 ·go_enter Tryz.func99, Tryz.ntmps99
  go_wp2
  go_ret
  exact ⟨rfl, rfl⟩
 ·go_enter Tryz.func99, Tryz.ntmps99
  go_wp2
  go_ret
  exact ⟨rfl, rfl⟩
end Go.Proofs.YthkkgleoikpfgaaGreatDoor
