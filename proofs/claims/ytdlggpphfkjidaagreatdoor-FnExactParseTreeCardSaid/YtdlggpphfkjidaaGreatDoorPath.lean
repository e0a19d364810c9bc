/-
  The path to a box (impl), the boxes directly in a box (impl).
-/
import Derived.Test.YtdlggpphfkjidaaGreatDoorScal
import Derived.Test.YtdlggpphfkjidaaGreatDoorSlices
namespace Go.Proofs.YtdlggpphfkjidaaGreatDoor
open Go Go.RowKit

theorem up_length (l : List Bx) : ∀ (f i : Nat), (up l f i).length ≤ f
  | 0, _ => Nat.le_refl _
  | f + 1, i => by
    simp only [up, List.length_cons]
    split
    · have := up_length l f (par l i).toNat
      omega
    · simp
theorem anc_length (l : List Bx) (i : Nat) : (anc l i).length ≤ i + 1 := up_length l _ _

theorem bx_of {l : List Bx} {i : Nat} {x : Bx} (h : l[i]? = some x) : bx l i = x := by simp [bx, List.getD, h]
theorem bx_get {l : List Bx} {i : Nat} (h : i < l.length) : l[i]? = some (bx l i) := by
  rw [List.getElem?_eq_getElem h]
  simp [bx, List.getD, h]

set_option maxHeartbeats 1000000 in
theorem path_any {v : Value} {l : List Bx} {i : Nat} (w : World) (hv : Rd w 9 v (Bs l)) (hi : i < l.length) (hd : Down l i) (hl : l.length ≤ 1048577) :
    Calls Tryz.prog 20 #[v, .int .i64 (i : Int)] w fun e w' => ∃ v', e = .returned v' ∧ Own w' w.heap.size 1 v' (Is (ni (anc l i).reverse)) ∧ Ext w w' := by
  obtain ⟨a, c, rfl, hn, hc, hcell⟩ := hv.boxes
  obtain ⟨b, off, rfl, hbl, hC⟩ := hcell i _ (bx_get hi)
  clear hcell hv
  unfold maxLen at hc
  have hal := anc_length l i
  have HC := Lib.hid hC
  clear hC
  go_enter Tryz.func20, Tryz.ntmps20
  go_wp2
  go_loopw [1, 5] (fun a o wr => ∃ (k : Int) (done : List Nat), a = .int .i64 k ∧ k ≤ i ∧ Own wr w.heap.size 1 o (Is (ni done)) ∧ Hid (done ++ (if 0 ≤ k then anc l k.toNat else []) = anc l i) ∧ done.length ≤ i + 1 ∧ Below w.heap.size w wr) (fun a _ _ => (intOf a + 1).toNat)
  case atStart =>
    refine ⟨i, [], rfl, by omega, ?_, ?_, by simp, Below.of_alloc _ _⟩
    · exact Own.empty _ _ _ _
    · show _ = _
      simp
  case round =>
    obtain ⟨k, done, rfl, hk2, ho, hdone, hdl, hb⟩ := hrel
    by_cases hk0 : 0 ≤ k
    · obtain ⟨n, rfl⟩ := Int.eq_ofNat_of_zero_le hk0
      have hsz := hb.size
      have h1 := hd n (by omega)
      have hC1 : Cells9 wr b (off + n * 9) (bx l n) := (HC.out n _ (bx_get (by omega))).below hb hbl
      have hx := bx_get (l := l) (i := n) (by omega)
      go_wp2_with (at_builtin; refine wpList_app rfl _ _ _ rfl el_int rfl (ho.alloc _) rfl (Rd.oneAt _ _ (by simp)) (Is_one [(n : Int)]) ?hl ?hb ?hK)
      case hl => rw [Is_length, ni_length]; omega
      case hb => simp; omega
      intro v' w1 ho1 hg1 hf1
      have hb1 := below_app (hb.alloc (by omega) _) (ho.alloc _) hg1 (by simp; omega) (Nat.le_refl _)
      have hc0 := ((HC.out n _ hx).below hb1 hbl).c0
      clear ho hg1 hf1 hb hx hC1
      go_wp2
      go_roundw
      case rel =>
        have hlt := hd n (by omega)
        have hd1 := hdone.out
        rw [if_pos (by omega)] at hd1
        have hlen := congrArg List.length hd1
        rw [List.length_append] at hlen
        have hpos : 0 < (anc l n).length := by rw [anc_eq (hd.mono (by omega))]; simp
        simp only [Int.toNat_natCast] at hlen
        refine ⟨par l n, done ++ [n], rfl, by omega, ?_, ?_, ?_, hb1⟩
        · rw [ni_append, Is_append]
          exact ho1
        · show _ = _
          rw [← hd1]
          simp only [Int.toNat_natCast]
          rw [anc_eq (l := l) (i := n) (hd.mono (by omega)), List.append_assoc]
          rfl
        · rw [List.length_append, List.length_singleton]
          omega
      case measure =>
        have hlt := hd n (by omega)
        have : par l n = (bx l n).parent := rfl
        simp [intOf]
        omega
    · have hdd := hdone.out
      rw [if_neg hk0, List.append_nil] at hdd
      subst hdd
      go_wp2_with (fail)
      refine (Reverse_any _ ho (by rw [ni_length]; omega)).mono ?_
      rintro e w2 ⟨rfl, ho2, hb2, _⟩
      clear ho
      go_wp2_with (fail)
      refine (ClipI_any _ ho2).mono ?_
      rintro e w3 ⟨v3, rfl, ho3, rfl⟩
      go_wp2
      go_ret
      exact ⟨_, rfl, by rw [ni_reverse]; exact ho3, hb.trans hb2⟩
theorem path_int {v : Value} {l : List Bx} {i : Int} (w : World) (h0 : 0 ≤ i) (hi : i < l.length) (hv : Rd w 9 v (Bs l)) (hd : Down l i.toNat) (hl : l.length ≤ 1048577) :
    Calls Tryz.prog 20 #[v, .int .i64 i] w fun e w' => ∃ v', e = .returned v' ∧ Own w' w.heap.size 1 v' (Is (ni (anc l i.toNat).reverse)) ∧ Ext w w' := by
  obtain ⟨n, rfl⟩ := Int.eq_ofNat_of_zero_le h0
  exact path_any w hv (by omega) hd hl

set_option maxHeartbeats 1000000 in
theorem kids_any {v : Value} {l : List Bx} (i : Int) (w : World) (hv : Rd w 9 v (Bs l)) (hl : l.length ≤ 1048577) :
    Calls Tryz.prog 38 #[v, .int .i64 i] w fun e w' => ∃ v', e = .returned v' ∧ Own w' w.heap.size 1 v' (Is (ni (kid l i))) ∧ Ext w w' := by
  obtain ⟨a, c, rfl, hn, hc, hcell⟩ := hv.boxes
  unfold maxLen at hc
  have HC := Lib.hid hcell
  clear hcell hv
  go_enter Tryz.func38, Tryz.ntmps38
  go_wp2
  go_loopw [5, 11] (fun o i' wr => ∃ k : Nat, k ≤ l.length ∧ i' = .int .i64 k ∧ Own wr w.heap.size 1 o (Is (ni (kidTo l i k))) ∧ Below w.heap.size w wr) (fun _ i' _ => l.length - (intOf i').toNat)
  case atStart => exact ⟨0, by omega, rfl, Own.empty _ _ _ _, Below.of_alloc _ _⟩
  case round =>
    obtain ⟨k, hk, rfl, ho, hb⟩ := hrel
    by_cases hlt : k < l.length
    · obtain ⟨b, off, rfl, hbl, hC⟩ := HC.out k _ (bx_get hlt)
      obtain ⟨c0, c1, c2, c3, c4, c5, c6, c7, c8⟩ := (hC k _ (bx_get hlt)).below hb hbl
      clear hC
      have hsz := hb.size
      have hkl := kidTo_length l i k
      have Hs := Lib.hid (kidTo_succ l i k)
      by_cases hp : par l k = i
      · have hp' : ((bx l k).parent == i) = true := by simpa [par] using hp
        have Hp := Lib.hid hp
        clear hp
        go_wp2_with (at_builtin; refine wpList_app rfl _ _ _ rfl el_int rfl ((ho.alloc _).alloc _) rfl (Rd.oneAt _ _ (by simp)) (Is_one [(k : Int)]) ?hl ?hb ?hK)
        case hl => rw [Is_length, ni_length]; omega
        case hb => simp; omega
        intro v' w1 ho1 hg1 hf1
        have hb1 := below_app ((hb.alloc (by omega) _).alloc (by simp; omega) _) ((ho.alloc _).alloc _) hg1 (by simp; omega) (Nat.le_refl _)
        clear ho hg1 hf1 hb
        go_wp2
        go_roundw
        case rel =>
          refine ⟨k + 1, by omega, by go_num, ?_, hb1⟩
          rw [Hs.out, if_pos Hp.out, ni_append, Is_append]
          exact ho1
        case measure => simp [intOf]; omega
      · have hp' : ((bx l k).parent == i) = false := by simpa [par] using hp
        have Hp := Lib.hid hp
        clear hp
        go_wp2
        go_roundw
        case rel =>
          refine ⟨k + 1, by omega, by go_num, ?_, hb.alloc (by omega) _⟩
          rw [Hs.out, if_neg Hp.out, List.append_nil]
          exact ho.alloc _
        case measure => simp [intOf]; omega
    · obtain rfl : k = l.length := by omega
      go_wp2_with (fail)
      refine (ClipI_any _ ho).mono ?_
      rintro e w3 ⟨v3, rfl, ho3, rfl⟩
      go_wp2
      go_ret
      exact ⟨_, rfl, ho3, hb⟩
end Go.Proofs.YtdlggpphfkjidaaGreatDoor
