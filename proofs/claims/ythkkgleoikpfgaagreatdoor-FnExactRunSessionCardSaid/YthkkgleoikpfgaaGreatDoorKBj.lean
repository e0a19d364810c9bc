/-
  Parts of the proof: Exs.
-/
import Derived.Test.YthkkgleoikpfgaaGreatDoorKBd
import Derived.Test.YthkkgleoikpfgaaGreatDoorKBb
namespace Go.Proofs.YthkkgleoikpfgaaGreatDoor
open Go Go.RowKit
set_option maxRecDepth 100000 in
set_option maxHeartbeats 1000000 in
theorem szStringS_any {v : Value} {l : List (List UInt8)} (w : World) (hv : Rd w 1 v (Ss l)) (hlen : ∀ x, x ∈ l → x.length ≤ maxLen) :
 Calls Tryz.prog 12 #[v, .int .i64 1048576] w fun e w' => ∃ r : Int, e = .returned (.int .i64 r) ∧ (0 ≤ r → l.length ≤ 1048576 ∧ ∀ x, x ∈ l → x.length ≤ 1048576) ∧ w = w' := by
 obtain ⟨a, c, rfl, hn, hc, hC⟩ := hv.strs
 unfold maxLen at hc
 have HC := Lib.hid hC
 have HLEN := Lib.hid hlen
 clear hC hv hlen
 by_cases hl : l.length ≤ 1048576
 ·have h0 : ¬ (1048576 : Int) - l.length < 0 := by omega
  go_enter Tryz.func12, Tryz.ntmps12
  go_wp2
  go_loopw [1, 5] (fun s i wr => ∃ (k : Nat) (r : Int), i = .int .i64 k ∧ k ≤ l.length ∧ s = .int .i64 r ∧ 0 ≤ r ∧ r ≤ 1048576 ∧ (∀ x, x ∈ l.take k → x.length ≤ 1048576) ∧ wr = w) (fun _ i _ => l.length - (intOf i).toNat)
  case atStart => exact ⟨0, _, rfl, Nat.zero_le _, rfl, by omega, by omega, fun x hx => absurd hx (by simp), rfl⟩
  case round =>
   obtain ⟨k, r, rfl, hk, rfl, hr0, hr1, hall, rfl⟩ := hrel
   by_cases hlt : k < l.length
   ·have hki : (k : Int) < l.length := by omega
    have hk0 : (0 : Int) ≤ (k : Int) := by omega
    obtain ⟨x, hx⟩ : ∃ x, l[k]? = some x := ⟨_, List.getElem?_eq_getElem hlt⟩
    obtain ⟨b, off, rfl, hcl⟩ := HC.out k x hx
    have e0 := hcl k x hx
    unfold sv at e0
    have hxl := HLEN.out x (List.mem_of_getElem? hx)
    unfold maxLen at hxl
    have HT := Lib.hid (List.take_add_one (l := l) (i := k))
    have HA := Lib.hid hall
    clear hcl hall
    by_cases hlt2 : r < x.length
    ·have hneg : r - (x.length : Int) < 0 := by omega
     have hneg2 : ¬ (0 : Int) ≤ r - (x.length : Int) := by omega
     clear hx HT HA
     go_wp2
     go_ret
     exact ⟨_, rfl, fun h => absurd h (by omega), rfl⟩
    ·have hpos : ¬ r - (x.length : Int) < 0 := by omega
     have HN : Hid (∀ y, y ∈ l.take (k + 1) → y.length ≤ 1048576) := fun y hy => by
      rw [HT.out, hx] at hy
      rcases List.mem_append.1 hy with hy | hy
      ·exact HA.out y hy
      ·simp at hy
       subst hy
       omega
     clear hx HT HA
     go_wp2
     go_roundw
     case rel => exact ⟨k + 1, r - x.length, by go_num, by omega, rfl, by omega, by omega, HN.out, by first | trivial | rfl⟩
     case measure => simp [intOf]; omega
   ·obtain rfl : k = l.length := by omega
    rw [List.take_length] at hall
    have HA := Lib.hid hall
    clear hall
    go_wp2
    go_ret
    exact ⟨r, rfl, fun _ => ⟨hl, HA.out⟩, rfl⟩
 ·have h0 : (1048576 : Int) - l.length < 0 := by omega
  go_enter Tryz.func12, Tryz.ntmps12
  go_wp2
  go_ret
  exact ⟨_, rfl, fun h => absurd h (by omega), rfl⟩
theorem below_setCell {B b o : Nat} {w0 w : World} (h : Below B w0 w) (hb : B ≤ b) (u : Value) : Below B w0 (w.setCell ⟨b, o, none⟩ u) :=
 ⟨h.os, h.tape, h.output, by have := h.size; simp [World.setCell]; omega, fun k hk => (Below.heap_setCell w ⟨b, o, none⟩ u k (show k ≠ b by omega)).trans (h.block k hk)⟩
theorem made_texts (n : Nat) : (madeCells #[Value.string ⟨#[]⟩] n).toList = Ss (List.replicate n []) := by
 rw [madeCells_list]
 apply List.ext_getElem?
 intro i
 by_cases hi : i < n
 ·simp [Ss, sv, hi, Nat.mod_one]
 ·rw [List.getElem?_eq_none (by simp; omega), List.getElem?_eq_none (by rw [Ss_length]; simp; omega)]
theorem Own.madeTexts (W : World) (base n : Nat) (hb : base ≤ W.heap.size) (hn : n ≤ 1048576) :
 Own (W.alloc (.cells (madeCells #[Value.string ⟨#[]⟩] n) 9)) base 1 (.slice (some ⟨W.heap.size, 0, none⟩) n n) (Ss (List.replicate n [])) := by
 have h := Own.made W (madeCells #[Value.string ⟨#[]⟩] n) 9 base 1 n n hb (Nat.le_refl _) (by unfold maxLen; omega) (by rw [size_madeCells, Nat.mul_one])
 rw [made_texts, Nat.mul_one, List.take_of_length_le (by rw [Ss_length, List.length_replicate]; exact Nat.le_refl _)] at h
 exact h
/-- the first k texts copied -/
def cpS (l : List (List UInt8)) (k : Nat) : List (List UInt8) := l.take k ++ List.replicate (l.length - k) []
theorem cpS_length {l : List (List UInt8)} {k : Nat} (hk : k ≤ l.length) : (cpS l k).length = l.length := by
 unfold cpS
 rw [List.length_append, List.length_take, List.length_replicate]
 omega
theorem cpS_zero (l : List (List UInt8)) : cpS l 0 = List.replicate l.length [] := by simp [cpS]
theorem cpS_full (l : List (List UInt8)) : cpS l l.length = l := by simp [cpS]
theorem cpS_succ {l : List (List UInt8)} {k : Nat} {x : List UInt8} (hx : l[k]? = some x) : (cpS l k).set k x = cpS l (k + 1) := by
 have hk : k < l.length := (List.getElem?_eq_some_iff.1 hx).1
 apply List.ext_getElem?
 intro j
 unfold cpS
 rw [List.getElem?_set, List.length_append, List.length_take, List.length_replicate]
 rcases Nat.lt_trichotomy j k with h | h | h
 ·rw [if_neg (by omega), List.getElem?_append_left (by rw [List.length_take]; omega), List.getElem?_append_left (by rw [List.length_take]; omega), List.getElem?_take, List.getElem?_take, if_pos h, if_pos (by omega)]
 ·subst h
  rw [if_pos rfl, if_pos (by omega), List.getElem?_append_left (by rw [List.length_take]; omega), List.getElem?_take, if_pos (by omega), hx]
 ·rw [if_neg (by omega), List.getElem?_append_right (by rw [List.length_take]; omega), List.getElem?_append_right (by rw [List.length_take]; omega), List.length_take, List.length_take, List.getElem?_replicate, List.getElem?_replicate]
  split <;> split <;> first | rfl | (exfalso; omega)
set_option maxRecDepth 100000 in
set_option maxHeartbeats 1000000 in
theorem toStringS_any {v : Value} {l : List (List UInt8)} (w : World) (hv : Rd w 1 v (Ss l)) (hl : l.length ≤ 1048576) :
 Calls Tryz.prog 13 #[v] w fun e w' => ∃ v', e = .returned v' ∧ Own w' w.heap.size 1 v' (Ss l) ∧ Ext w w' := by
 obtain ⟨a, c, rfl, hn, hc, hC⟩ := hv.strs
 unfold maxLen at hc
 have HC := Lib.hid hC
 have hmk := fun W => mk_run (P := Tryz.prog) el_str l.length l.length (Nat.le_refl _) hl W
 clear hC hv
 go_enter Tryz.func13, Tryz.ntmps13
 go_upto_region 2 with fail
 have ho1 := Own.madeTexts w w.heap.size l.length (Nat.le_refl _) hl
 rw [← cpS_zero] at ho1
 have hb := Below.of_alloc w (.cells (madeCells #[Value.string ⟨#[]⟩] l.length) 9)
 have HFULL := Lib.hid (cpS_full l)
 clear hmk
 generalize w.alloc (.cells (madeCells #[Value.string ⟨#[]⟩] l.length) 9) = W1 at *
 go_wp2
 go_loopw [4] (fun i wr => ∃ k : Nat, i = .int .i64 k ∧ k ≤ l.length ∧ Own wr w.heap.size 1 (.slice (some ⟨w.heap.size, 0, none⟩) l.length l.length) (Ss (cpS l k)) ∧ Below w.heap.size w wr) (fun i _ => l.length - (intOf i).toNat)
 case atStart => exact ⟨0, rfl, Nat.zero_le _, ho1, hb⟩
 case round =>
  clear ho1 hb
  obtain ⟨k, rfl, hk, ho, hb⟩ := hrel
  by_cases hlt : k < l.length
  ·have hki : (k : Int) < l.length := by omega
   have hk0 : (0 : Int) ≤ (k : Int) := by omega
   obtain ⟨x, hx⟩ : ∃ x, l[k]? = some x := ⟨_, List.getElem?_eq_getElem hlt⟩
   obtain ⟨b, off, rfl, hcl⟩ := HC.out k x hx
   have e0 : wr.cell? ⟨b, off + k, none⟩ = some (sv x) := cellB hb (hcl k x hx)
   have hkc : k < (Ss (cpS l k)).length := by rw [Ss_length, cpS_length hk]; exact hlt
   obtain ⟨b2, off2, n2, c2, e2, _, hbk, _, _, hcell, hfz, hset⟩ := ho.cells (fun h => by rw [h] at hkc; simp at hkc)
   simp only [Value.slice.injEq, Option.some.injEq, Addr.mk.injEq] at e2
   obtain ⟨⟨rfl, rfl, _⟩, rfl, rfl⟩ := e2
   obtain ⟨u9, hu9⟩ : ∃ u, (Ss (cpS l k))[k]? = some u := ⟨_, List.getElem?_eq_getElem hkc⟩
   have e1 := hcell k u9 hu9
   have f1 := hfz k
   have hs := hset k (sv x) hkc
   have hss : (Ss (cpS l k)).set k (sv x) = Ss (cpS l (k + 1)) := by rw [← cpS_succ hx]; simp [Ss, List.map_set]
   rw [hss] at hs
   have hsb : Below w.heap.size w (wr.setCell ⟨w.heap.size, 0 + k, none⟩ (sv x)) := below_setCell hb (Nat.le_refl _) _
   have HO := Lib.hid (And.intro hs hsb)
   simp only [Nat.zero_add] at e1 f1 HO
   unfold sv at e0 HO
   clear hcl hx ho hb hkc hcell hfz hset hu9 hs hss hsb
   go_wp2
   go_roundw
   case rel => exact ⟨k + 1, by go_num, by omega, HO.out.1, HO.out.2⟩
   case measure => simp [intOf]; omega
  ·obtain rfl : k = l.length := by omega
   rw [HFULL.out] at ho
   go_wp2
   go_ret
   exact ⟨_, rfl, ho, hb⟩
set_option maxRecDepth 100000 in
set_option maxHeartbeats 1000000 in
theorem eqStringS_any {v u : Value} {l : List (List UInt8)} (w : World) (hv : Rd w 1 v (Ss l)) (hu : Rd w 1 u (Ss l)) :
 Calls Tryz.prog 14 #[v, u] w fun e w' => e = .returned (.bool true) ∧ Ext w w' := by
 obtain ⟨a, c, rfl, hn, hc, hC⟩ := hv.strs
 obtain ⟨a2, c2, rfl, hn2, hc2, hD⟩ := hu.strs
 unfold maxLen at hc hc2
 have HC := Lib.hid hC
 have HD := Lib.hid hD
 clear hC hD hv hu
 go_enter Tryz.func14, Tryz.ntmps14
 go_wp2
 go_loopw [5] (fun i' wr => ∃ k : Nat, i' = .int .i64 k ∧ k ≤ l.length ∧ Below w.heap.size w wr) (fun i' _ => l.length - (intOf i').toNat)
 case atStart => exact ⟨0, rfl, Nat.zero_le _, Below.refl _ _⟩
 case round =>
  obtain ⟨k, rfl, hk, hb⟩ := hrel
  by_cases hlt : k < l.length
  ·have hki : (k : Int) < l.length := by omega
   have hk0 : (0 : Int) ≤ (k : Int) := by omega
   obtain ⟨x, hx⟩ : ∃ x, l[k]? = some x := ⟨_, List.getElem?_eq_getElem hlt⟩
   obtain ⟨b, off, rfl, hcl⟩ := HC.out k x hx
   obtain ⟨b2, off2, rfl, hdl⟩ := HD.out k x hx
   have e0 : wr.cell? ⟨b, off + k, none⟩ = some (sv x) := cellB hb (hcl k x hx)
   have e1 : wr.cell? ⟨b2, off2 + k, none⟩ = some (sv x) := cellB hb (hdl k x hx)
   unfold sv at e0 e1
   clear hcl hdl hx
   go_upto_region 6 with fail
   refine wp_region_held_drew (S := fun w' => Below wr.heap.size wr w') (by kernel_rfl) (Below.refl _ _).drew (fun hS => ?_)
   refine hTk hS 0 17 rfl (v := ?_) ?_ ?_
   rotate_left
   ·intro _ _; go_simp; first | done | with_reducible rfl
   simp only [Act.put, lsA, ls0, ls1]
   refine hTk hS 1 18 rfl (v := ?_) ?_ ?_
   rotate_left
   ·intro _ _; go_simp; first | done | with_reducible rfl
   simp only [Act.put, lsA, ls0, ls1]
   refine hTk hS 2 19 rfl (v := ?_) ?_ ?_
   rotate_left
   ·intro _ _; go_simp; first | done | with_reducible rfl
   simp only [Act.put, lsA, ls0, ls1]
   refine hTk hS 3 20 rfl (v := ?_) ?_ ?_
   rotate_left
   ·intro w9 hS9; have q := cellB hS9 e0; go_simp; first | done | with_reducible rfl
   simp only [Act.put, lsA, ls0, ls1]
   refine hTk hS 4 21 rfl (v := ?_) ?_ ?_
   rotate_left
   ·intro _ _; go_simp; first | done | with_reducible rfl
   simp only [Act.put, lsA, ls0, ls1]
   refine hTk hS 5 22 rfl (v := ?_) ?_ ?_
   rotate_left
   ·intro _ _; go_simp; first | done | with_reducible rfl
   simp only [Act.put, lsA, ls0, ls1]
   refine hTk hS 6 23 rfl (v := ?_) ?_ ?_
   rotate_left
   ·intro _ _; go_simp; first | done | with_reducible rfl
   simp only [Act.put, lsA, ls0, ls1]
   refine hTk hS 7 24 rfl (v := ?_) ?_ ?_
   rotate_left
   ·intro w9 hS9; have q := cellB hS9 e1; go_simp; first | done | with_reducible rfl
   simp only [Act.put, lsA, ls0, ls1]
   refine hTk hS 8 25 rfl (v := ?_) ?_ ?_
   rotate_left
   ·intro _ _; go_simp; first | done | with_reducible rfl
   simp only [Act.put, lsA, ls0, ls1]
   refine wpAnyH_done (by kernel_rfl) ?_ _
   have hb2 := after hb hS (Nat.le_refl _)
   clear hS e0 e1
   go_wp2
   go_roundw
   case rel => exact ⟨k + 1, by go_num, by omega, hb2⟩
   case measure => simp [intOf]; omega
  ·obtain rfl : k = l.length := by omega
   go_wp2
   go_ret
   exact ⟨rfl, hb⟩
set_option maxRecDepth 100000 in
set_option maxHeartbeats 1600000 in
theorem FnExactRunSession_any {v : Value} {l : List (List UInt8)} (w : World) (hv : Rd w 1 v (Ss l)) (hlen : ∀ x, x ∈ l → x.length ≤ maxLen) (hlaid : LaidP w) :
 Calls Tryz.prog 6 #[v] w fun e w' => e = .returned (.bool true) ∧ Ext w w' := by
 have HLD : Hid (LaidP w) := hlaid
 have HLEN := Lib.hid hlen
 clear hlaid hlen
 go_enter Tryz.func6, Tryz.ntmps6
 go_wp2_with (fail)
 refine (szStringS_any (l := l) _ hv HLEN.out).mono ?_
 rintro e w1 ⟨r, rfl, hr, rfl⟩
 by_cases h0 : 0 ≤ r
 ·have hneg : ¬ r < 0 := by omega
  obtain ⟨hl, hl2⟩ := hr h0
  have HL2 : Hid (∀ x, x ∈ l → x.length ≤ 2000000) := fun x hx => by have := hl2 x hx; omega
  clear hr hl2 HLEN
  go_wp2_with (fail)
  refine (toStringS_any (l := l) _ hv hl).mono ?_
  rintro e w2 ⟨v2, rfl, ho2, hb⟩
  have hr2 := ho2.rd
  clear ho2
  go_wp2_with (fail)
  refine (sRunSession_any l _ hr2 HL2.out).mono ?_
  rintro e w3 ⟨rfl, hx⟩
  replace hb := after hb hx (Nat.le_refl _)
  clear hx hr2
  go_wp2_with (fail)
  refine (toStringS_any (l := l) _ (hv.below hb (Nat.le_refl _)) hl).mono ?_
  rintro e w4 ⟨v4, rfl, ho4, hx⟩
  have hr4 := ho4.rd
  replace hb := after hb hx (Nat.le_refl _)
  clear hx ho4
  go_wp2_with (fail)
  refine (RunSession_any l _ hr4 (HLD.out.below hb) HL2.out).mono ?_
  rintro e w5 ⟨rfl, hx⟩
  replace hb := after hb hx (Nat.le_refl _)
  replace hr4 := hr4.below hx (Nat.le_refl _)
  clear hx
  generalize runS (l.take 20) st0 = R at *
  unfold sv
  go_wp2_with (fail)
  refine (toStringS_any (l := l) _ (hv.below hb (Nat.le_refl _)) hl).mono ?_
  rintro e w6 ⟨v6, rfl, ho6, hx⟩
  have hr6 := ho6.rd
  replace hb := after hb hx (Nat.le_refl _)
  replace hr4 := hr4.below hx (Nat.le_refl _)
  clear hx ho6
  go_wp2_with (fail)
  refine (eqStringS_any (l := l) _ hr4 hr6).mono ?_
  rintro e w7 ⟨rfl, hx⟩
  replace hb := after hb hx (Nat.le_refl _)
  clear hx hr4 hr6
  go_wp2
  go_ret
  exact ⟨rfl, hb⟩
 ·have hneg : r < 0 := by omega
  clear hr h0
  go_wp2
  go_ret
  exact ⟨rfl, Below.refl _ _⟩
end Go.Proofs.YthkkgleoikpfgaaGreatDoor
