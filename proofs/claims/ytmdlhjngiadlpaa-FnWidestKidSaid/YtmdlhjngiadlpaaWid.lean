/-
  WidestKid, of the program and of the reference; the laws FnWidestKid and FnWidestKidWidth.
-/
import Derived.Test.YtmdlhjngiadlpaaLNat2
namespace Go.Proofs.Ytmdlhjngiadlpaa
open Go Go.RowKit

/-- the widest box directly in a box, or -1 -/
def wkI (l : List Bx) (i : Int) : Int := if inB l i then wkF l i else -1
theorem wkTo_rng {l : List Bx} {i : Int} {j : Nat} (hj : j ≤ (kid l i).length) : -1 ≤ wkTo l i j ∧ wkTo l i j < l.length ∧ (0 ≤ wkTo l i j → 0 < j) := by
  obtain ⟨h1, h2⟩ := wkTo_spec (l := l) (i := i) j hj
  rcases Nat.eq_zero_or_pos j with h0 | h0
  · rw [h1 h0]
    refine ⟨by omega, by omega, fun h => by omega⟩
  · obtain ⟨k, t, e, ht, hk, _⟩ := h2 h0
    have := (mem_kid.1 (List.mem_of_getElem? hk)).1
    rw [e]
    exact ⟨by omega, by omega, fun _ => h0⟩

set_option maxHeartbeats 4000000 in
theorem WidestKid_any {v : Value} {l : List Bx} (i : Int) (w : World) (hv : Rd w 9 v (Bs l)) :
    Calls Try.prog 32 #[v, .int .i64 i] w fun e w' => e = .returned (.int .i64 (wkI l i)) ∧ Ext w w' := by
  have hrd := hv
  obtain ⟨a, c, rfl, hn, hc, _⟩ := hv.boxes
  unfold maxLen at hc
  clear hv
  have hfd : ∀ (a b : Int) (w : World), (Instr.field 59 (.agg #[.int .i64 a, .int .i64 b]) 0).run Try.prog w = .ok (.int .i64 a) w := fun _ _ _ => by kernel_rfl
  by_cases h : inB l i = true
  · obtain ⟨hval, h0, hi⟩ := inB_iff.1 h
    have HV := Lib.hid hval
    have hkl : (ni (kid l i)).length ≤ 8 := by
      obtain ⟨k, rfl⟩ := Int.eq_ofNat_of_zero_le h0
      rw [ni_length]
      exact (hval.kids k (by omega)).1
    have hK : Hid (kidsL l i = kid l i) := by
      show _ = _
      unfold kidsL
      rw [if_pos h]
    have hfin : Hid (wkTo l i (ni (kid l i)).length = wkI l i) := by
      show _ = _
      unfold wkI
      rw [if_pos h, ni_length]
      rfl
    clear hval h
    go_enter Try.func32, Try.ntmps32
    go_wp2_with (fail)
    refine (KidsOf_any (l := l) i _ hrd).mono ?_
    rintro e w1 ⟨v1, rfl, ho1, hb⟩
    rw [hK.out] at ho1
    have hrK := ho1.rd
    replace hrd := hrd.below hb (Nat.le_refl _)
    obtain ⟨a4, q4, rfl, hn4, hc4⟩ := hrK.len
    have hc4' : q4 ≤ maxLen := hc4
    unfold maxLen at hc4'
    clear ho1
    go_wp2
    go_loopw [5, 12] (fun s n wr => ∃ k : Nat, n = .int .i64 k ∧ k ≤ (ni (kid l i)).length ∧ s = .int .i64 (wkTo l i k) ∧ Rd wr 1 (.slice a4 (ni (kid l i)).length q4) (Is (ni (kid l i))) ∧ Rd wr 9 (.slice a l.length c) (Bs l) ∧ Below w.heap.size w wr) (fun _ n _ => (ni (kid l i)).length - (intOf n).toNat)
    case atStart => exact ⟨0, rfl, Nat.zero_le _, by rw [wkTo_zero], hrK, hrd, hb⟩
    case round =>
      clear hrK hrd hb
      obtain ⟨k, rfl, hk, rfl, hrK, hrd, hb⟩ := hrel
      obtain ⟨hB1, hBl, _⟩ := wkTo_rng (l := l) (i := i) (j := k) (by rw [ni_length] at hk; exact hk)
      by_cases hlt : k < (ni (kid l i)).length
      · have hlti : (k : Int) < (ni (kid l i)).length := by omega
        obtain ⟨x, hx⟩ : ∃ x, (ni (kid l i))[k]? = some x := ⟨_, List.getElem?_eq_getElem hlt⟩
        obtain ⟨m, hm, rfl⟩ := mem_ni.1 (List.mem_of_getElem? hx)
        have hml := (mem_kid.1 hm).1
        have hst := wkTo_succ (ni_get hx)
        unfold wkStep at hst
        obtain ⟨a4', c4', e4, _, _, hcell⟩ := hrK.ints
        cases e4
        obtain ⟨b4, off4, rfl, hcc⟩ := hcell k _ hx
        have ck := hcc k _ hx
        have HST := Lib.hid hst
        clear hcell hcc hx hm hst
        generalize wkTo l i k = B at *
        by_cases hB0 : 0 ≤ B
        · have hBd : decide (B < 0) = false := by simp; omega
          by_cases hgt : (natS l B.toNat).1 < (natS l m).1
          · have hS : Hid (wkTo l i (k + 1) = (m : Int)) := by
              show _ = _
              rw [HST.out, if_pos (.inr hgt)]
            go_wp2_with (fail)
            refine (natural_any (i := (m : Int)) HV.out _ (by omega) (by omega) hrd).mono ?_
            rintro e w5 ⟨rfl, hx⟩
            replace hb := after hb hx (Nat.le_refl _)
            replace hrd := hrd.below hx (Nat.le_refl _)
            replace hrK := hrK.below hx (Nat.le_refl _)
            clear hx ck
            rw [Int.toNat_natCast]
            go_wp2_with (fail)
            refine (natural_any (i := B) HV.out _ hB0 hBl hrd).mono ?_
            rintro e w6 ⟨rfl, hx⟩
            replace hb := after hb hx (Nat.le_refl _)
            replace hrd := hrd.below hx (Nat.le_refl _)
            replace hrK := hrK.below hx (Nat.le_refl _)
            clear hx
            generalize natS l m = s1 at *
            generalize natS l B.toNat = s2 at *
            go_wp2
            go_roundw
            case rel => exact ⟨k + 1, by go_num, by omega, by rw [hS.out], hrK, hrd, hb⟩
            case measure => simp [intOf]; omega
          · have hS : Hid (wkTo l i (k + 1) = B) := by
              show _ = _
              rw [HST.out, if_neg (by omega)]
            go_wp2_with (fail)
            refine (natural_any (i := (m : Int)) HV.out _ (by omega) (by omega) hrd).mono ?_
            rintro e w5 ⟨rfl, hx⟩
            replace hb := after hb hx (Nat.le_refl _)
            replace hrd := hrd.below hx (Nat.le_refl _)
            replace hrK := hrK.below hx (Nat.le_refl _)
            clear hx ck
            rw [Int.toNat_natCast]
            go_wp2_with (fail)
            refine (natural_any (i := B) HV.out _ hB0 hBl hrd).mono ?_
            rintro e w6 ⟨rfl, hx⟩
            replace hb := after hb hx (Nat.le_refl _)
            replace hrd := hrd.below hx (Nat.le_refl _)
            replace hrK := hrK.below hx (Nat.le_refl _)
            clear hx
            generalize natS l m = s1 at *
            generalize natS l B.toNat = s2 at *
            go_wp2
            go_roundw
            case rel => exact ⟨k + 1, by go_num, by omega, by rw [hS.out], hrK, hrd, hb⟩
            case measure => simp [intOf]; omega
        · have hS : Hid (wkTo l i (k + 1) = (m : Int)) := by
            show _ = _
            rw [HST.out, if_pos (.inl (by omega))]
          go_wp2
          go_roundw
          case rel => exact ⟨k + 1, by go_num, by omega, by rw [hS.out], hrK, hrd, hb⟩
          case measure => simp [intOf]; omega
      · obtain rfl : k = (ni (kid l i)).length := by omega
        rw [hfin.out]
        go_wp2
        go_ret
        exact ⟨rfl, hb⟩
  · have h' : inB l i = false := by simpa using h
    have hK : Hid (kidsL l i = []) := by
      show _ = _
      unfold kidsL
      rw [h']
      rfl
    have hfin : Hid (wkI l i = -1) := by
      show _ = _
      unfold wkI
      rw [h']
      rfl
    clear h h'
    go_enter Try.func32, Try.ntmps32
    go_wp2_with (fail)
    refine (KidsOf_any (l := l) i _ hrd).mono ?_
    rintro e w1 ⟨v1, rfl, ho1, hb⟩
    rw [hK.out] at ho1
    obtain ⟨a4, q4, rfl, hn4, hc4⟩ := ho1.rd.len
    have hc4' : q4 ≤ maxLen := hc4
    unfold maxLen at hc4'
    clear ho1 hrd
    go_wp2
    go_loop [5, 12] (fun s n => s = .int .i64 (-1) ∧ n = .int .i64 0) (fun _ _ => 0)
    case atStart => exact ⟨rfl, rfl⟩
    case round =>
      obtain ⟨rfl, rfl⟩ := hrel
      go_wp2
      go_ret
      exact ⟨by rw [hfin.out]; rfl, hb⟩
def mostOf (l : List Bx) (b : Int) : Int := if b < 0 then -1 else (natS l b.toNat).1
theorem wkStep_most {l : List Bx} (hv : Valid l) {b : Int} {k : Nat} (hk : k < l.length) : wkStep l b k = if mostOf l b < (natS l k).1 then (k : Int) else b := by
  have := (natS_pos hv hk).1
  unfold wkStep mostOf
  by_cases h : b < 0
  · rw [if_pos (.inl h), if_pos h, if_pos (by omega)]
  · by_cases h2 : (natS l b.toNat).1 < (natS l k).1
    · rw [if_pos (.inr h2), if_neg h, if_pos h2]
    · rw [if_neg (by omega), if_neg h, if_neg h2]

set_option maxHeartbeats 2000000 in
theorem sKidsOf_any {v : Value} {l : List Bx} (i : Int) (w : World) (hv : Rd w 9 v (Bs l)) (hl : l.length ≤ 1048576) :
    Calls Try.prog 69 #[v, .int .i64 i] w fun e w' => ∃ v', e = .returned v' ∧ Own w' w.heap.size 1 v' (Is (ni (kidsL l i))) ∧ Ext w w' := by
  have hrd := hv
  obtain ⟨a, c, rfl, hn, hc, _⟩ := hv.boxes
  unfold maxLen at hc
  clear hv
  by_cases hvb : vldB l = true
  · by_cases hin : inR i 0 ((l.length : Int) - 1) = true
    · have h : inB l i = true := by unfold inB; rw [hvb, hin]; rfl
      obtain ⟨hval, h0, hi⟩ := inB_iff.1 h
      have hK : Hid (skid l i.toNat = kidsL l i) := by
        show _ = _
        unfold kidsL
        rw [if_pos h, skid_valid hval, show ((i.toNat : Nat) : Int) = i by omega]
      clear hval h
      go_enter Try.func69, Try.ntmps69
      go_wp2_with (fail)
      refine (validTree_any (l := l) _ hrd (by omega)).mono ?_
      rintro e w1 ⟨he, hb⟩
      rw [hvb] at he
      subst he
      replace hrd := hrd.below hb (Nat.le_refl _)
      go_wp2_with (fail)
      refine (inRange_any _ _ _ _).mono ?_
      rintro e w2 ⟨he, rfl⟩
      rw [hin] at he
      subst he
      go_wp2_with (fail)
      refine (skids_any (l := l) (i := i) _ h0 hi hrd (by omega)).mono ?_
      rintro e w2 ⟨v2, rfl, ho2, hx⟩
      rw [hK.out] at ho2
      go_wp2
      go_ret
      exact ⟨_, rfl, ho2.weak hb.size, after hb hx (Nat.le_refl _)⟩
    · have hin' : inR i 0 ((l.length : Int) - 1) = false := by simpa using hin
      have hK : Hid (kidsL l i = []) := by
        show _ = _
        unfold kidsL inB
        rw [hvb, hin']
        rfl
      clear hin
      go_enter Try.func69, Try.ntmps69
      go_wp2_with (fail)
      refine (validTree_any (l := l) _ hrd (by omega)).mono ?_
      rintro e w1 ⟨he, hb⟩
      rw [hvb] at he
      subst he
      go_wp2_with (fail)
      refine (inRange_any _ _ _ _).mono ?_
      rintro e w2 ⟨he, rfl⟩
      rw [hin'] at he
      subst he
      go_wp2
      go_ret
      exact ⟨_, rfl, by rw [hK.out]; exact Own.nil _ _ _, hb⟩
  · have hvb' : vldB l = false := by simpa using hvb
    have hK : Hid (kidsL l i = []) := by
      show _ = _
      unfold kidsL inB
      rw [hvb']
      rfl
    clear hvb
    go_enter Try.func69, Try.ntmps69
    go_wp2_with (fail)
    refine (validTree_any (l := l) _ hrd (by omega)).mono ?_
    rintro e w1 ⟨he, hb⟩
    rw [hvb'] at he
    subst he
    go_wp2
    go_ret
    exact ⟨_, rfl, by rw [hK.out]; exact Own.nil _ _ _, hb⟩

set_option maxHeartbeats 4000000 in
theorem sWidestKid_any {v : Value} {l : List Bx} (i : Int) (w : World) (hv : Rd w 9 v (Bs l)) (hl : l.length ≤ 1048576) :
    Calls Try.prog 33 #[v, .int .i64 i] w fun e w' => e = .returned (.int .i64 (wkI l i)) ∧ Ext w w' := by
  have hrd := hv
  obtain ⟨a, c, rfl, hn, hc, _⟩ := hv.boxes
  unfold maxLen at hc
  clear hv
  by_cases h : inB l i = true
  · obtain ⟨hval, h0, hi⟩ := inB_iff.1 h
    have HV := Lib.hid hval
    have hkl : (ni (kid l i)).length ≤ 8 := by
      obtain ⟨k, rfl⟩ := Int.eq_ofNat_of_zero_le h0
      rw [ni_length]
      exact (hval.kids k (by omega)).1
    have hK : Hid (kidsL l i = kid l i) := by
      show _ = _
      unfold kidsL
      rw [if_pos h]
    have hfin : Hid (wkTo l i (ni (kid l i)).length = wkI l i) := by
      show _ = _
      unfold wkI
      rw [if_pos h, ni_length]
      rfl
    clear hval h
    go_enter Try.func33, Try.ntmps33
    go_wp2_with (fail)
    refine (sKidsOf_any (l := l) i _ hrd hl).mono ?_
    rintro e w1 ⟨v1, rfl, ho1, hb⟩
    rw [hK.out] at ho1
    have hrK := ho1.rd
    replace hrd := hrd.below hb (Nat.le_refl _)
    obtain ⟨a4, q4, rfl, hn4, hc4⟩ := hrK.len
    have hc4' : q4 ≤ maxLen := hc4
    unfold maxLen at hc4'
    clear ho1
    go_wp2
    go_loopw [5, 6, 8] (fun s s2 n wr => ∃ k : Nat, n = .int .i64 k ∧ k ≤ (ni (kid l i)).length ∧ s = .int .i64 (wkTo l i k) ∧ s2 = .int .i64 (mostOf l (wkTo l i k)) ∧ Rd wr 1 (.slice a4 (ni (kid l i)).length q4) (Is (ni (kid l i))) ∧ Rd wr 9 (.slice a l.length c) (Bs l) ∧ Below w.heap.size w wr) (fun _ _ n _ => (ni (kid l i)).length - (intOf n).toNat)
    case atStart => exact ⟨0, rfl, Nat.zero_le _, by rw [wkTo_zero], by rw [wkTo_zero]; rfl, hrK, hrd, hb⟩
    case round =>
      clear hrK hrd hb
      obtain ⟨k, rfl, hk, rfl, rfl, hrK, hrd, hb⟩ := hrel
      by_cases hlt : k < (ni (kid l i)).length
      · have hlti : (k : Int) < (ni (kid l i)).length := by omega
        obtain ⟨x, hx⟩ : ∃ x, (ni (kid l i))[k]? = some x := ⟨_, List.getElem?_eq_getElem hlt⟩
        obtain ⟨m, hm, rfl⟩ := mem_ni.1 (List.mem_of_getElem? hx)
        have hml := (mem_kid.1 hm).1
        have hst := wkTo_succ (ni_get hx)
        rw [wkStep_most HV.out hml] at hst
        obtain ⟨a4', c4', e4, _, _, hcell⟩ := hrK.ints
        cases e4
        obtain ⟨b4, off4, rfl, hcc⟩ := hcell k _ hx
        have ck := hcc k _ hx
        have HST := Lib.hid hst
        clear hcell hcc hx hm hst
        generalize wkTo l i k = B at *
        have hMO : Hid (mostOf l (m : Int) = (natS l m).1) := by
          show _ = _
          unfold mostOf
          rw [if_neg (by omega), Int.toNat_natCast]
        by_cases hgt : mostOf l B < (natS l m).1
        · have hS : Hid (wkTo l i (k + 1) = (m : Int)) := by
            show _ = _
            rw [HST.out, if_pos hgt]
          have hMm : Hid (mostOf l (wkTo l i (k + 1)) = (natS l m).1) := by
            show _ = _
            rw [hS.out, hMO.out]
          go_wp2_with (fail)
          refine (snatural_any (i := (m : Int)) HV.out _ (by omega) (by omega) hrd).mono ?_
          rintro e w5 ⟨rfl, hx⟩
          replace hb := after hb hx (Nat.le_refl _)
          replace hrd := hrd.below hx (Nat.le_refl _)
          replace hrK := hrK.below hx (Nat.le_refl _)
          replace ck : w5.cell? ⟨b4, off4 + k, none⟩ = some (.int .i64 (m : Int)) := by
            rw [hx.cell (World.block_lt_of_cell? _ _ ck)]
            exact ck
          clear hx
          rw [Int.toNat_natCast]
          generalize natS l m = s1 at *
          go_wp2
          go_roundw
          case rel => exact ⟨k + 1, by go_num, by omega, by rw [hS.out], by rw [hMm.out], hrK, hrd, hb⟩
          case measure => simp [intOf]; omega
        · have hS : Hid (wkTo l i (k + 1) = B) := by
            show _ = _
            rw [HST.out, if_neg hgt]
          have hMm : Hid (mostOf l (wkTo l i (k + 1)) = mostOf l B) := by
            show _ = _
            rw [hS.out]
          go_wp2_with (fail)
          refine (snatural_any (i := (m : Int)) HV.out _ (by omega) (by omega) hrd).mono ?_
          rintro e w5 ⟨rfl, hx⟩
          replace hb := after hb hx (Nat.le_refl _)
          replace hrd := hrd.below hx (Nat.le_refl _)
          replace hrK := hrK.below hx (Nat.le_refl _)
          replace ck : w5.cell? ⟨b4, off4 + k, none⟩ = some (.int .i64 (m : Int)) := by
            rw [hx.cell (World.block_lt_of_cell? _ _ ck)]
            exact ck
          clear hx
          rw [Int.toNat_natCast]
          generalize natS l m = s1 at *
          go_wp2
          go_roundw
          case rel => exact ⟨k + 1, by go_num, by omega, by rw [hS.out], by rw [hMm.out], hrK, hrd, hb⟩
          case measure => simp [intOf]; omega
      · obtain rfl : k = (ni (kid l i)).length := by omega
        rw [hfin.out]
        go_wp2
        go_ret
        exact ⟨rfl, hb⟩
  · have h' : inB l i = false := by simpa using h
    have hK : Hid (kidsL l i = []) := by
      show _ = _
      unfold kidsL
      rw [h']
      rfl
    have hfin : Hid (wkI l i = -1) := by
      show _ = _
      unfold wkI
      rw [h']
      rfl
    clear h h'
    go_enter Try.func33, Try.ntmps33
    go_wp2_with (fail)
    refine (sKidsOf_any (l := l) i _ hrd hl).mono ?_
    rintro e w1 ⟨v1, rfl, ho1, hb⟩
    rw [hK.out] at ho1
    obtain ⟨a4, q4, rfl, hn4, hc4⟩ := ho1.rd.len
    have hc4' : q4 ≤ maxLen := hc4
    unfold maxLen at hc4'
    clear ho1 hrd
    go_wp2
    go_loop [5, 8] (fun s n => s = .int .i64 (-1) ∧ n = .int .i64 0) (fun _ _ => 0)
    case atStart => exact ⟨rfl, rfl⟩
    case round =>
      obtain ⟨rfl, rfl⟩ := hrel
      go_wp2
      go_ret
      exact ⟨by rw [hfin.out]; rfl, hb⟩

set_option maxHeartbeats 1000000 in
theorem DrawWidestKid_any {v : Value} (w : World) (hv : RdBytes w v) :
    Calls Try.prog 31 #[v] w fun e w' => ∃ (v' : Value) (i : Int), e = .returned (.tuple #[v', .int .i64 i]) ∧ ∃ l : List Bx, l.length ≤ 16 ∧ -1 ≤ i ∧ i ≤ 16 ∧ Own w' w.heap.size 9 v' (Bs l) ∧ Ext w w' := by
  go_enter Try.func31, Try.ntmps31
  go_wp2_with (fail)
  refine (DrawKidsOf_any _ hv).mono ?_
  rintro e w1 ⟨v1, i, rfl, l, hl, h0, h1, ho, hx⟩
  go_wp2
  go_ret2
  exact ⟨_, i, rfl, l, hl, h0, h1, ho, hx⟩

/-- the widest box is one directly in the box -/
theorem wkI_spec {l : List Bx} {i : Int} (h : 0 ≤ wkI l i) : ∃ (a k : Nat), i = (a : Int) ∧ inB l (a : Int) = true ∧ wkI l i = (k : Int) ∧ k ∈ kid l (a : Int) ∧ ∀ k', k' ∈ kid l (a : Int) → nW l (k' : Int) ≤ nW l (k : Int) ∧ (k' < k → nW l (k' : Int) < nW l (k : Int)) := by
  unfold wkI at h ⊢
  by_cases hb : inB l i = true
  · rw [if_pos hb] at h ⊢
    obtain ⟨a, rfl⟩ := Int.eq_ofNat_of_zero_le (inB_iff.1 hb).2.1
    obtain ⟨k, e, hk, hall⟩ := wkF_spec h
    refine ⟨a, k, rfl, hb, e, hk, fun k' hk' => ?_⟩
    rw [nW_nat (mem_inB hb hk), nW_nat (mem_inB hb hk')]
    exact hall k' hk'
  · rw [if_neg hb] at h
    omega

end Go.Proofs.Ytmdlhjngiadlpaa
