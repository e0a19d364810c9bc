/-
  PartOf, of the program and of the reference.
-/
import Derived.Test.YtbkhbmcoococmaaAg
namespace Go.Proofs.Ytbkhbmcoococmaa
open Go Go.RowKit

theorem Rd.sub {w : World} {b off n c : Nat} {l : List Bx} (h : Rd w 9 (.slice (some ⟨b, off, none⟩) n c) (Bs l)) {i m : Nat} (hm : i + m ≤ l.length) :
    Rd w 9 (.slice (some ⟨b, off + i * 9, none⟩) m (c - i)) (Bs ((l.drop i).take m)) := by
  obtain ⟨a', n', c', e, hl, hn, hc, hx⟩ := h
  cases e
  rw [Bs_length] at hl
  refine ⟨_, m, c - i, rfl, by rw [Bs_length, List.length_take, List.length_drop, Nat.min_eq_left (by omega)], by omega, by omega, ?_⟩
  rcases hx with hx | ⟨b', off', e', hx⟩
  · left
    have := congrArg List.length hx
    rw [Bs_length, List.length_nil] at this
    have h2 : m = 0 := by omega
    subst h2
    simp [Bs]
  · cases e'
    right
    refine ⟨b, off + i * 9, rfl, fun j y hj => ?_⟩
    have e1 : Bs l = Bs (l.take i) ++ Bs (l.drop i) := by rw [← Bs_append, List.take_append_drop]
    have e2 : Bs (l.drop i) = Bs ((l.drop i).take m) ++ Bs ((l.drop i).drop m) := by rw [← Bs_append, List.take_append_drop]
    have hl1 : (Bs (l.take i)).length = i * 9 := by rw [Bs_length, List.length_take, Nat.min_eq_left (by omega)]
    have := hx (i * 9 + j) y (by
      rw [e1, List.getElem?_append_right (by omega), hl1, Nat.add_sub_cancel_left, e2, List.getElem?_append_left (List.getElem?_eq_some_iff.1 hj).1]
      exact hj)
    rw [← Nat.add_assoc] at this
    exact this
theorem Bx.eta_parent (x : Bx) : { x with parent := x.parent } = x := rfl
theorem orNo_t (l : List Bx) : orNo true l = l := rfl
theorem orNo_f (l : List Bx) : orNo false l = [] := rfl

set_option maxRecDepth 100000 in
set_option maxHeartbeats 2000000 in
theorem PartOf_any {v : Value} {l : List Bx} (i : Int) (w : World) (hv : Rd w 9 v (Bs l)) :
    Calls Try.prog 32 #[v, .int .i64 i] w fun e w' => ∃ v', e = .returned (.tuple #[v', .bool (inB l i)]) ∧ Own w' w.heap.size 9 v' (Bs (orNo (inB l i) (partL l i.toNat))) ∧ Ext w w' := by
  by_cases h : inB l i = true
  · obtain ⟨hval, h0, hi⟩ := inB_iff.1 h
    obtain ⟨i, rfl⟩ := Int.eq_ofNat_of_zero_le h0
    have hi' : i < l.length := by omega
    have hrd := hv
    obtain ⟨a, c, rfl, hn, hc, hcell⟩ := hv.boxes
    obtain ⟨b, off, rfl, hbl, _⟩ := hcell i _ (bx_get hi')
    unfold maxLen at hc
    have Hv := Lib.hid hval
    have H := Lib.hid h
    have hle := cntS_le l i
    have hpos := cntS_pos hval hi'
    have hl16 := hval.hi
    have hin : i + cntS l i ≤ l.length := by omega
    have hz : Hid ((l.drop i).take (cntS l i) = partTo l i 0) := partTo_zero.symm
    clear hcell hv hval
    go_enter Try.func32, Try.ntmps32
    go_wp2_with (fail)
    refine (boxIn_any (l := l) (i : Int) _ hrd).mono ?_
    rintro e w1 ⟨he, hb⟩
    rw [h] at he
    subst he
    clear h
    replace hrd := hrd.below hb (Nat.le_refl _)
    go_wp2_with (fail)
    refine (count_any (l := l) (a := (i : Int)) Hv.out _ (by omega) hi hrd).mono ?_
    rintro e w2 ⟨rfl, hx⟩
    rw [Int.toNat_natCast]
    replace hb := after hb hx (Nat.le_refl _)
    replace hrd := hrd.below hx (Nat.le_refl _)
    clear hx
    have hsub := hrd.sub hin
    rw [hz.out] at hsub
    have hci : (i : Int) + (cntS l i : Nat) ≤ c := by omega
    have hlt : (i : Int) < c := by omega
    have hsn : i + cntS l i - i = cntS l i := by omega
    go_wp2_with (fail)
    refine (CloneB_any (l := partTo l i 0) _ hsub (by rw [partTo_length]; omega)).mono ?_
    rintro e w3 ⟨v3, rfl, ho, hx⟩
    have ho := ho.weak hb.size
    replace hb := after hb hx (Nat.le_refl _)
    have hl0 := partTo_length l i 0
    obtain ⟨b3, off3, n3, c3, rfl, hn3, hbk3, hbb3, hbs3, _, _, _⟩ := ho.cells (by
      intro e
      have := congrArg List.length e
      rw [Bs_length, List.length_nil] at this
      omega)
    rw [Bs_length, hl0] at hn3
    obtain rfl : n3 = cntS l i := by omega
    clear hsub hrd hx hl0
    go_wp2
    go_loopw [23] (fun n wr => ∃ k : Nat, n = .int .i64 k ∧ k ≤ cntS l i ∧ Own wr w.heap.size 9 (.slice (some ⟨b3, off3, none⟩) (cntS l i) c3) (Bs (partTo l i k)) ∧ Below w.heap.size w wr) (fun n _ => cntS l i - (intOf n).toNat)
    case atStart => exact ⟨0, rfl, Nat.zero_le _, ho, hb⟩
    case round =>
      clear ho hb
      obtain ⟨k, rfl, hk, ho, hb⟩ := hrel
      by_cases hlt : k < cntS l i
      · obtain ⟨hC, hF⟩ := ho.cellF (i := k) (by rw [partTo_length]; exact hlt)
        have hpl := Hv.out.parLt (k := i + k) (by omega)
        have e0 : (bx (partTo l i k) k).parent = (bx l (i + k)).parent := by
          rw [partTo_bx hlt]
          unfold partToBx
          rw [if_neg (Nat.lt_irrefl k)]
        have c0 := hC.c0
        rw [e0] at c0
        have f0 := hF 0
        simp only [Nat.add_zero] at f0
        have hset := ho.set1 rfl (i := k) (f := 0) (by rw [partTo_length]; exact hlt) (by omega) (u := .int .i64 ((bx l (i + k)).parent - i)) (y := { bx (partTo l i k) k with parent := par l (i + k) - i }) rfl
        rw [partTo_succ, Nat.add_zero] at hset
        have hb2 := hb.setCell (p := ⟨b3, off3 + k * 9, none⟩) hbb3 (.int .i64 ((bx l (i + k)).parent - i))
        clear hC hF e0 ho hb
        go_wp2
        go_roundw
        case rel => exact ⟨k + 1, by go_num, by omega, hset, hb2⟩
        case measure => simp [intOf]; omega
      · obtain rfl : k = cntS l i := by omega
        obtain ⟨hC, hF⟩ := ho.cellF (i := 0) (by rw [partTo_length]; omega)
        have c0 := hC.c0
        have f0 := hF 0
        simp only [Nat.zero_mul, Nat.add_zero] at f0 c0
        have hset := ho.set1 rfl (i := 0) (f := 0) (by rw [partTo_length]; omega) (by omega) (u := .int .i64 (-1)) (y := { bx (partTo l i (cntS l i)) 0 with parent := -1 }) rfl
        rw [partTo_full (by omega)] at hset
        try simp only [Nat.zero_mul, Nat.add_zero] at hset
        have hb2 := hb.setCell (p := ⟨b3, off3, none⟩) hbb3 (.int .i64 (-1))
        have hvp : vldB (partL l i) = true := vldB_iff.2 (part_valid Hv.out hi')
        clear hC hF ho hb
        go_wp2_with (fail)
        refine (made_any (l := partL l i) _ hset (by have := hb2.size; exact this)).mono ?_
        rintro e w5 ⟨v5, he, ho5, hx5⟩
        rw [hvp] at he ho5
        subst he
        clear hvp
        go_wp2
        go_ret2
        exact ⟨_, by rw [H.out]; rfl, by rw [H.out, orNo_t, Int.toNat_natCast]; exact ho5, after hb2 hx5 (Nat.le_refl _)⟩
  · have h' : inB l i = false := by simpa using h
    have H := Lib.hid h'
    clear h
    go_enter Try.func32, Try.ntmps32
    go_wp2_with (fail)
    refine (boxIn_any (l := l) i _ hv).mono ?_
    rintro e w1 ⟨he, hb⟩
    rw [h'] at he
    subst he
    clear h'
    go_wp2
    go_ret2
    exact ⟨_, by rw [H.out]; rfl, by rw [H.out]; exact Own.nil _ _ _, hb⟩

end Go.Proofs.Ytbkhbmcoococmaa
