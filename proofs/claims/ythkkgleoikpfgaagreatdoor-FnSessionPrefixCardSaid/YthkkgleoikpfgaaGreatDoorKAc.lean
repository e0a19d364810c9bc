/-
  Parts of the proof: Spec.
-/
import Derived.Test.YthkkgleoikpfgaaGreatDoorKAa
import Derived.Deep.LoopGhost
namespace Go.Proofs.YthkkgleoikpfgaaGreatDoor
open Go Go.RowKit
def skidTo (l : List Bx) (i n : Nat) : List Nat := (List.range n).filter fun k => decide (i + 1 ≤ k ∧ par l k = i)
/-- the boxes behind a box that are directly in it -/
def skid (l : List Bx) (i : Nat) : List Nat := skidTo l i l.length
theorem skidTo_length (l : List Bx) (i n : Nat) : (skidTo l i n).length ≤ n := by
 have := List.length_filter_le (fun k => decide (i + 1 ≤ k ∧ par l k = i)) (List.range n)
 rw [List.length_range] at this
 exact this
theorem skidTo_succ (l : List Bx) (i n : Nat) (h : i + 1 ≤ n) : skidTo l i (n + 1) = skidTo l i n ++ (if par l n = i then [n] else []) := by
 unfold skidTo
 rw [List.range_succ, List.filter_append]
 by_cases h1 : par l n = i <;> simp [h1, h]
theorem skidTo_zero (l : List Bx) (i : Nat) : skidTo l i (i + 1) = [] := by
 unfold skidTo
 rw [List.filter_eq_nil_iff]
 intro k hk
 rw [List.mem_range] at hk
 simp
 omega
set_option maxHeartbeats 1000000 in
theorem skids_any {v : Value} {l : List Bx} {i : Int} (w : World) (h0 : 0 ≤ i) (hi : i < l.length) (hv : Rd w 9 v (Bs l)) (hl : l.length ≤ 1048577) :
 Calls Tryz.prog 119 #[v, .int .i64 i] w fun e w' => ∃ v', e = .returned v' ∧ Own w' w.heap.size 1 v' (Is (ni (skid l i.toNat))) ∧ Ext w w' := by
 obtain ⟨i, rfl⟩ := Int.eq_ofNat_of_zero_le h0
 rw [Int.toNat_natCast]
 obtain ⟨a, c, rfl, hn, hc, hcell⟩ := hv.boxes
 unfold maxLen at hc
 have hi' : i < l.length := by omega
 obtain ⟨b, off, rfl, hbl, hC⟩ := hcell i _ (bx_get hi')
 have HC := Lib.hid hC
 clear hcell hv hC
 go_enter Tryz.func119, Tryz.ntmps119
 go_wp2
 go_loopw [5, 6] (fun o i' wr => ∃ k : Nat, i + 1 ≤ k ∧ k ≤ l.length ∧ i' = .int .i64 k ∧ Own wr w.heap.size 1 o (Is (ni (skidTo l i k))) ∧ Below w.heap.size w wr) (fun _ i' _ => l.length - (intOf i').toNat)
 case atStart => exact ⟨i + 1, by omega, by omega, by go_num, by rw [skidTo_zero]; exact Own.empty _ _ _ _, Below.of_alloc _ _⟩
 case round =>
  obtain ⟨k, hik, hk, rfl, ho, hb⟩ := hrel
  by_cases hlt : k < l.length
  ·obtain ⟨c0, _⟩ := (HC.out k _ (bx_get hlt)).below hb hbl
   have hsz := hb.size
   have hkl := skidTo_length l i k
   have Hs := Lib.hid (skidTo_succ l i k hik)
   by_cases hp : par l k = i
   ·have hp' : ((bx l k).parent == (i : Int)) = true := by simpa [par] using hp
    have Hp := Lib.hid hp
    clear hp
    go_wp2_with (at_builtin; refine wpList_app rfl _ _ _ rfl el_int rfl (ho.alloc _) rfl (Rd.oneAt _ _ (by simp)) (Is_one [(k : Int)]) ?hl ?hb ?hK)
    case hl => rw [Is_length, ni_length]; omega
    case hb => simp; omega
    intro v' w1 ho1 hg1 hf1
    have hb1 := below_app (hb.alloc (by omega) _) (ho.alloc _) hg1 (by simp; omega) (Nat.le_refl _)
    clear ho hg1 hf1 hb c0
    go_wp2
    go_roundw
    case rel =>
     refine ⟨k + 1, by omega, by omega, by go_num, ?_, hb1⟩
     rw [Hs.out, if_pos Hp.out, ni_append, Is_append]
     exact ho1
    case measure => simp [intOf]; omega
   ·have hp' : ((bx l k).parent == (i : Int)) = false := by simpa [par] using hp
    have Hp := Lib.hid hp
    clear hp
    go_wp2
    go_roundw
    case rel =>
     refine ⟨k + 1, by omega, by omega, by go_num, ?_, hb⟩
     rw [Hs.out, if_neg Hp.out, List.append_nil]
     exact ho
    case measure => simp [intOf]; omega
  ·obtain rfl : k = l.length := by omega
   go_wp2
   go_ret
   exact ⟨_, rfl, ho, hb⟩
set_option maxHeartbeats 1000000 in
theorem depth_any {v : Value} {l : List Bx} {i : Int} (w : World) (h0 : 0 ≤ i) (hi : i < l.length) (hv : Rd w 9 v (Bs l)) (hd : Down l i.toNat) (hl : l.length ≤ 1048577) :
 Calls Tryz.prog 120 #[v, .int .i64 i] w fun e w' => e = .returned (.int .i64 (dep l i.toNat : Nat)) ∧ w = w' := by
 obtain ⟨i, rfl⟩ := Int.eq_ofNat_of_zero_le h0
 rw [Int.toNat_natCast] at hd ⊢
 obtain ⟨a, c, rfl, hn, hc, hcell⟩ := hv.boxes
 unfold maxLen at hc
 have hi' : i < l.length := by omega
 obtain ⟨b, off, rfl, hbl, hC⟩ := hcell i _ (bx_get hi')
 have HC := Lib.hid hC
 have hal := anc_length l i
 clear hcell hv hC
 go_enter Tryz.func120, Tryz.ntmps120
 go_wp2
 go_loop [1, 5] (fun a n => ∃ k m : Nat, a = .int .i64 k ∧ k ≤ i ∧ n = .int .i64 m ∧ Hid (m + (anc l k).length = (anc l i).length)) (fun a _ => (intOf a).toNat)
 case atStart => exact ⟨i, 0, rfl, Nat.le_refl _, rfl, by show _ = _; omega⟩
 case round =>
  obtain ⟨k, m, rfl, hk, rfl, hm⟩ := hrel
  have hlt := hd k hk
  obtain ⟨c0, _⟩ := HC.out k _ (bx_get (l := l) (i := k) (by omega))
  have hml : m ≤ i + 1 := by have := hm.out; omega
  by_cases hp : 0 ≤ par l k
  ·obtain ⟨p, hpp⟩ := Int.eq_ofNat_of_zero_le hp
   have ha : Hid ((anc l k).length = (anc l p).length + 1) := by
    show _ = _
    rw [anc_up (hd.mono hk) hpp]
    rfl
   have hpc : (bx l k).parent = (p : Int) := hpp
   have hlp : p < k := by omega
   rw [hpc] at c0
   clear hpp hpc hp hlt
   go_wp2
   go_round
   case rel => exact ⟨p, m + 1, rfl, by omega, by go_num, by show _ = _; have := hm.out; have := ha.out; omega⟩
   case measure => simp [intOf]; omega
  ·have ha : Hid (anc l k = [k]) := anc_root (hd.mono hk) (by omega)
   have hpc : ¬ (0 ≤ (bx l k).parent) := hp
   clear hp
   go_wp2
   go_ret
   refine ⟨?_, rfl⟩
   have h1 := hm.out
   have h2 := ha.out
   rw [h2] at h1
   simp at h1
   show _ = Ending.returned (.int .i64 ((dep l i : Nat) : Int))
   rw [show dep l i = m from by unfold dep; omega]
   rfl
def ordAt (l : List Bx) (k : Nat) : Prop := (par l k).toNat ∈ anc l (k - 1)
def ordB (l : List Bx) : Bool := (List.range l.length).all fun i => decide (i = 0) || decide ((par l i).toNat ∈ anc l (i - 1))
theorem ordB_iff {l : List Bx} : ordB l = true ↔ ∀ i, 0 < i → i < l.length → ordAt l i := by
 unfold ordB
 simp only [List.all_eq_true, List.mem_range, Bool.or_eq_true, decide_eq_true_eq]
 constructor
 ·intro h i h0 hi
  rcases h i hi with h | h
  ·omega
  ·exact h
 ·intro h i hi
  rcases Nat.eq_zero_or_pos i with h0 | h0
  ·exact .inl h0
  ·exact .inr (h i h0 hi)
set_option maxHeartbeats 2000000 in
theorem inOrder_any {v : Value} {l : List Bx} (w : World) (hv : Rd w 9 v (Bs l)) (hd : ∀ k, k < l.length → par l k < k) (hp : ∀ k, 0 < k → k < l.length → 0 ≤ par l k) (_hl : l.length ≤ 1048577) :
 Calls Tryz.prog 121 #[v] w fun e w' => e = .returned (.bool (ordB l)) ∧ w = w' := by
 obtain ⟨a, c, rfl, hn, hc, hcell⟩ := hv.boxes
 unfold maxLen at hc
 have HC := Lib.hid hcell
 have Hp := Lib.hid hp
 clear hcell hv hp
 go_enter Tryz.func121, Tryz.ntmps121
 go_wp2
 go_loop [3] (fun i' => ∃ k : Nat, 1 ≤ k ∧ i' = .int .i64 k ∧ Hid (∀ j, 0 < j → j < k → ordAt l j)) (fun i' => l.length - (intOf i').toNat)
 case atStart => exact ⟨1, Nat.le_refl _, rfl, fun j h1 h2 => by omega⟩
 case round =>
  obtain ⟨k, hk1, rfl, hq⟩ := hrel
  by_cases hlt : k < l.length
  ·obtain ⟨b, off, rfl, hbl, hC⟩ := HC.out k _ (bx_get hlt)
   have H2 := Lib.hid hC
   obtain ⟨ck, _⟩ := hC k _ (bx_get hlt)
   clear hC
   have hpk := Hp.out k (by omega) hlt
   have hpk2 := hd k hlt
   obtain ⟨p, hpp⟩ := Int.eq_ofNat_of_zero_le hpk
   have hpc : (bx l k).parent = (p : Int) := hpp
   have hlp : p < k := by omega
   rw [hpc] at ck
   have Hpp := Lib.hid hpp
   clear hpp hpk hpk2 hpc
   go_wp2
   go_loop [4] (fun a' => ∃ z : Int, a' = .int .i64 z ∧ z ≤ k - 1 ∧ Hid (p ∈ anc l (k - 1) ↔ 0 ≤ z ∧ p ∈ anc l z.toNat)) (fun a' => (intOf a' + 1).toNat)
   case atStart => exact ⟨(k : Int) - 1, rfl, Int.le_refl _, by
    show _ ↔ _
    rw [show ((k : Int) - 1).toNat = k - 1 from by omega]
    exact ⟨fun h => ⟨by omega, h⟩, fun h => h.2⟩⟩
   case round =>
    obtain ⟨z, rfl, hz, hm⟩ := hrel
    by_cases hz0 : 0 ≤ z
    ·obtain ⟨z, rfl⟩ := Int.eq_ofNat_of_zero_le hz0
     have hz' : z < k := by omega
     obtain ⟨cz, _⟩ := H2.out z _ (bx_get (l := l) (i := z) (by omega))
     have hdz := hd z (by omega)
     by_cases he : z = p
     ·have heb : ((z : Int) != (p : Int)) = false := by simp [he]
      have hq2 : Hid (∀ j, 0 < j → j < k + 1 → ordAt l j) := fun j h1 h2 => by
       rcases Nat.lt_or_ge j k with h | h
       ·exact hq.out j h1 h
       ·obtain rfl : j = k := by omega
        unfold ordAt
        rw [Hpp.out]
        refine hm.out.2 ⟨by omega, ?_⟩
        simp only [Int.toNat_natCast]
        rw [he, anc_eq (fun i hi => hd i (by omega))]
        exact List.mem_cons_self
      clear he
      go_wp2
      go_round
      case rel => exact ⟨k + 1, by omega, by go_num, hq2⟩
      case measure => simp [intOf]; omega
     ·have heb : ((z : Int) != (p : Int)) = true := by simp; omega
      have hm2 : Hid (p ∈ anc l (k - 1) ↔ 0 ≤ par l z ∧ p ∈ anc l (par l z).toNat) := by
       refine hm.out.trans ?_
       simp only [Int.toNat_natCast]
       rw [anc_eq (l := l) (i := z) (fun i hi => hd i (by omega))]
       constructor
       ·rintro ⟨_, h⟩
        rcases List.mem_cons.1 h with h | h
        ·exact absurd h.symm he
        ·split at h
         ·exact ⟨by assumption, h⟩
         ·cases h
       ·rintro ⟨h1, h2⟩
        exact ⟨by omega, List.mem_cons_of_mem _ (by rw [if_pos h1]; exact h2)⟩
      clear he
      have hpz : (bx l z).parent < z := hdz
      go_wp2
      go_round
      case rel => exact ⟨_, rfl, by omega, hm2⟩
      case measure => simp [intOf]; omega
    ·have hno : Hid (¬ ordAt l k) := fun h => by
      unfold ordAt at h
      rw [Hpp.out] at h
      have := (hm.out.1 h).1
      omega
     go_wp2
     go_ret
     refine ⟨?_, rfl⟩
     rw [show ordB l = false from by
      rw [Bool.eq_false_iff]
      intro h
      exact hno.out (ordB_iff.1 h k (by omega) hlt)]
     rfl
  ·go_wp2
   go_ret
   refine ⟨?_, rfl⟩
   rw [ordB_iff.2 fun i h0 hi => hq.out i h0 (by omega)]
   rfl
end Go.Proofs.YthkkgleoikpfgaaGreatDoor
