/-
  Parts of the proof: SesD.
-/
import Derived.Deep.Cut
import Derived.IntWalk
import Derived.Test.YthkkgleoikpfgaaGreatDoorKBe
import Derived.Test.YthkkgleoikpfgaaGreatDoorKAs
import Derived.Test.YthkkgleoikpfgaaGreatDoorKAi
import Derived.Test.YthkkgleoikpfgaaGreatDoorKAa
import Derived.Test.YthkkgleoikpfgaaGreatDoorKBf
namespace Go.Proofs.YthkkgleoikpfgaaGreatDoor
open Go Go.RowKit
def ofQ : List (List UInt8) := [[114, 101, 99, 116, 32, 48], [114, 101, 99, 116, 32, 49], [114, 101, 99, 116, 32, 50], [104, 105, 116, 32, 53, 32, 53], [104, 105, 116, 32, 53, 48, 32, 50, 48], [99, 111, 117, 110, 116]]
def ofL : List (List UInt8) := [[115, 105, 122, 101, 32, 50, 48, 48, 32, 49, 48, 48], [115, 105, 122, 101, 32, 53, 48, 32, 53, 48], [115, 105, 122, 101, 32, 120, 32, 53], [114, 101, 109, 111, 118, 101, 32, 49], [114, 101, 109, 111, 118, 101, 32, 48], [114, 101, 109, 111, 118, 101, 32, 50], [115, 116, 121, 108, 101, 32, 49, 32, 108, 101, 97, 102, 32, 50, 48, 32, 50, 48, 32, 103, 114, 111, 119, 32, 49], [115, 116, 121, 108, 101, 32, 48, 32, 114, 111, 119, 32, 103, 97, 112, 32, 53], [115, 116, 121, 108, 101, 32, 48, 32, 99, 111, 108, 117, 109, 110], [], [104, 101, 108, 112], [97, 100, 100, 32, 48, 32, 108, 101, 97, 102, 32, 53], [104, 105, 116, 32, 120, 32, 49], [97, 100, 100, 32, 48, 32, 114, 111, 119]]
set_option maxRecDepth 100000 in
set_option maxHeartbeats 4000000 in
theorem DrawRunSession_any {v : Value} (w : World) (hv : RdBytes w v) :
 Calls Tryz.prog 9 #[v] w fun e w' => ∃ v' L, e = .returned v' ∧ Own w' w.heap.size 1 v' (Ss L) ∧ L.length ≤ 16 ∧ (∀ x, x ∈ L → x.length ≤ 2010) ∧ Ext w w' := by
 go_enter Tryz.func9, Tryz.ntmps9
 go_wp2_with (fail)
 refine (newReader_any _ hv).mono ?_
 rintro e w1 ⟨rfl, hr1, hx1⟩
 have hRl := hr1.lt
 go_wp2_with (fail)
 have hx2 := bel_alloc (bel_alloc (Bel.refl w.heap.size w1.heap.size w1) (Nat.le_refl _) (.cells #[] 9)) (Nat.le_refl _) (.cells (Is [6, 8, 10, 4, 0, 16]).toArray 3)
 refine (one_any (l := [6, 8, 10, 4, 0, 16]) _ ((hr1.ext (Below.of_alloc _ _)).ext (Below.of_alloc _ _)) (by omega) (heapAt _ (by simp)) (by omega) (by simp) (by simp)).mono ?_
 rintro e w2 ⟨n, rfl, hn, hr2, hx3⟩
 have hx := afterR hx2 hx3 (Nat.le_refl _)
 have hn16 : 0 ≤ n ∧ n ≤ 16 := by
  simp at hn
  omega
 obtain ⟨n, rfl⟩ := Int.eq_ofNat_of_zero_le hn16.1
 have hn' : n ≤ 16 := by omega
 clear hr1 hx2 hx3 hn hn16
 go_wp2
 go_loopw [4, 5] (fun u i wr => ∃ (k : Nat) (L : List (List UInt8)) (m : Nat), i = .int .i64 k ∧ L.length + k ≤ 16 ∧ k ≤ 16 ∧ m + 10 * k ≤ 170 ∧ (∀ x, x ∈ L → x.length ≤ 2000) ∧ Own wr w1.heap.size 1 u (Ss L) ∧ Rdr w.heap.size wr m ∧ ExtR w.heap.size w1 wr) (fun _ i _ => (intOf i).toNat)
 case atStart => exact ⟨n, [], 1, rfl, by simp; omega, hn', by omega, fun _ h => absurd h List.not_mem_nil, Own.empty _ _ _ _, hr2, hx⟩
 case round =>
  obtain ⟨k, L, m, rfl, hLk, hk16, hmk, hLn, ho, hrd, hx⟩ := hrel
  by_cases hk : 0 < k
  ·have hki : (0 : Int) < k := by omega
   go_wp2_with (fail)
   refine (pick_any 3 _ hrd (by omega)).mono ?_
   rintro e w3 ⟨q, rfl, ⟨q0, q1⟩, hr3, hx3⟩
   replace q1 := q1 (by omega)
   replace hx := afterR hx hx3 (Nat.le_refl _)
   replace ho := ho.bel hx3 hRl
   clear hrd hx3
   have hq : q = 0 ∨ q = 1 ∨ q = 2 := by omega
   rcases hq with rfl | rfl | rfl
   ·-- a box is added
    go_wp2_with (fail)
    refine (pick_any 4 _ hr3 (by omega)).mono ?_
    rintro e w4 ⟨p, rfl, ⟨p0, p1⟩, hr4, hx4⟩
    replace p1 := p1 (by omega)
    obtain ⟨p, rfl⟩ := Int.eq_ofNat_of_zero_le p0
    replace hx := afterR hx hx4 (Nat.le_refl _)
    replace ho := ho.bel hx4 hRl
    clear hr3 hx4
    go_wp2_with (fail)
    refine (sdec_any p _ (by omega)).mono ?_
    rintro e w5 ⟨rfl, hx5⟩
    replace hx := afterE hx hx5 (Nat.le_refl _)
    replace ho := ho.below hx5 (Nat.le_refl _)
    replace hr4 := hr4.ext hx5
    have hdl : (Lib.decDigits p).length ≤ p + 1 := dec_len p
    generalize Lib.decDigits p = D at *
    clear hx5
    unfold sv
    have l1 : ¬ 9223372036854775807 < 4 + D.length := by omega
    have l2 : ¬ 9223372036854775807 < 4 + D.length + 1 := by omega
    go_wp2_with (fail)
    refine (someBox_any _ hr4 (by omega)).mono ?_
    rintro e w6 ⟨b, rfl, hb, hrd, hx6⟩
    replace hx := afterR hx hx6 (Nat.le_refl _)
    replace ho := ho.bel hx6 hRl
    clear hr4 hx6
    have HBT := Lib.hid (fun w => sboxText_any (b := b) w hb)
    have hbl := box_len hb
    unfold Bx.agg at HBT ⊢
    go_wp2_with (fail)
    refine (HBT.out _).mono ?_
    rintro e w7 ⟨rfl, hx7⟩
    replace hx := afterE hx hx7 (Nat.le_refl _)
    replace ho := ho.below hx7 (Nat.le_refl _)
    replace hrd := hrd.ext hx7
    generalize boxT b = T at *
    clear hx7 HBT hb
    unfold sv
    have HZ : Hid ((⟨#[97, 100, 100, 32]⟩ ++ ⟨D.toArray⟩ ++ ⟨#[32]⟩ ++ ⟨T.toArray⟩ : ByteArray) = ⟨([97, 100, 100, 32] ++ D ++ [32] ++ T).toArray⟩) := by
     show _ = _
     rw [show (⟨#[97, 100, 100, 32]⟩ : ByteArray) = ⟨[97, 100, 100, 32].toArray⟩ from rfl, show (⟨#[32]⟩ : ByteArray) = ⟨[32].toArray⟩ from rfl]
     simp only [ba_append]
    have hXl : ([97, 100, 100, 32] ++ D ++ [32] ++ T).length ≤ 2000 := by
     simp only [List.length_append, List.length_cons, List.length_nil]
     omega
    have l3 : ¬ 9223372036854775807 < 4 + D.length + 1 + T.length := by omega
    generalize [97, 100, 100, 32] ++ D ++ [32] ++ T = X at *
    clear hdl hbl l1 l2
    go_wp2_with (at_builtin; rw [HZ.out]; refine wpList_app rfl _ _ _ rfl el_str rfl (ho.alloc _) rfl (show Rd _ 1 _ (Ss [X]) from Rd.oneAt _ _ rfl) (Ss_one _) ?hla ?hba ?hKa)
    case hla => rw [Ss_length, Ss_length]; simp only [List.length_cons, List.length_nil]; omega
    case hba => have := hx.size; simp; omega
    intro v9 w9 ho9 hg9 hf9
    rw [← Ss_append] at ho9
    have hrow : ∀ q, blk u4 = some q → w1.heap.size ≤ q := fun q hq => (ho.lt q hq).1
    have hr9 := (hrd.ext (Below.of_alloc _ _)).grown hg9 (fun q hq => by have := hrow q hq; omega)
    have hx9 := bel_grown (bel_alloc hx (Nat.le_refl _) _) hg9 (by have := hx.size; simp; omega) (fun q hq => by have := hrow q hq; omega)
    clear ho hrd hx hg9 hf9 hrow
    go_wp2
    go_roundw
    case rel => exact ⟨k - 1, L ++ [X], _, by go_num, by simp; omega, by omega, by omega, fun y hy => by
     rcases List.mem_append.1 hy with hy | hy
     ·exact hLn y hy
     ·simp at hy
      rw [hy]
      omega, ho9, hr9, hx9⟩
    case measure => simp [intOf]; omega
   ·-- a question
    go_wp2_with (fail)
    replace hx := bel_alloc hx (Nat.le_refl _) (.cells (Ss ofQ).toArray 9)
    replace ho := ho.alloc (.cells (Ss ofQ).toArray 9)
    have kQ := heapAt (w := w3) (.cells (Ss ofQ).toArray 9) rfl
    have hRw := hr3.lt
    replace hr3 := hr3.ext (Below.of_alloc _ (.cells (Ss ofQ).toArray 9))
    change Calls _ _ _ (w3.alloc (.cells (Ss ofQ).toArray 9)) _
    generalize w3.alloc (.cells (Ss ofQ).toArray 9) = W4 at *
    refine (of_any (l := ofQ) _ hr3 (by omega) kQ (by omega) (by decide) (by decide)).mono ?_
    rintro e w5 ⟨X, rfl, hXm, hrd, hx5⟩
    replace hx := afterR hx hx5 (Nat.le_refl _)
    replace ho := ho.bel hx5 hRl
    have hXl : X.length ≤ 2000 := (show ∀ y ∈ ofQ, y.length ≤ 2000 by decide) X hXm
    clear hr3 hx5 kQ hXm
    unfold sv
    go_wp2_with (at_builtin; skip; refine wpList_app rfl _ _ _ rfl el_str rfl (ho.alloc _) rfl (show Rd _ 1 _ (Ss [X]) from Rd.oneAt _ _ rfl) (Ss_one _) ?hlb ?hbb ?hKb)
    case hlb => rw [Ss_length, Ss_length]; simp only [List.length_cons, List.length_nil]; omega
    case hbb => have := hx.size; simp; omega
    intro v9 w9 ho9 hg9 hf9
    rw [← Ss_append] at ho9
    have hrow : ∀ q, blk u4 = some q → w1.heap.size ≤ q := fun q hq => (ho.lt q hq).1
    have hr9 := (hrd.ext (Below.of_alloc _ _)).grown hg9 (fun q hq => by have := hrow q hq; omega)
    have hx9 := bel_grown (bel_alloc hx (Nat.le_refl _) _) hg9 (by have := hx.size; simp; omega) (fun q hq => by have := hrow q hq; omega)
    clear ho hrd hx hg9 hf9 hrow
    go_wp2
    go_roundw
    case rel => exact ⟨k - 1, L ++ [X], _, by go_num, by simp; omega, by omega, by omega, fun y hy => by
     rcases List.mem_append.1 hy with hy | hy
     ·exact hLn y hy
     ·simp at hy
      rw [hy]
      omega, ho9, hr9, hx9⟩
    case measure => simp [intOf]; omega
   ·-- another line
    go_wp2_with (fail)
    replace hx := bel_alloc hx (Nat.le_refl _) (.cells (Ss ofL).toArray 9)
    replace ho := ho.alloc (.cells (Ss ofL).toArray 9)
    have kQ := heapAt (w := w3) (.cells (Ss ofL).toArray 9) rfl
    have hRw := hr3.lt
    replace hr3 := hr3.ext (Below.of_alloc _ (.cells (Ss ofL).toArray 9))
    change Calls _ _ _ (w3.alloc (.cells (Ss ofL).toArray 9)) _
    generalize w3.alloc (.cells (Ss ofL).toArray 9) = W4 at *
    refine (of_any (l := ofL) _ hr3 (by omega) kQ (by omega) (by decide) (by decide)).mono ?_
    rintro e w5 ⟨X, rfl, hXm, hrd, hx5⟩
    replace hx := afterR hx hx5 (Nat.le_refl _)
    replace ho := ho.bel hx5 hRl
    have hXl : X.length ≤ 2000 := (show ∀ y ∈ ofL, y.length ≤ 2000 by decide) X hXm
    clear hr3 hx5 kQ hXm
    unfold sv
    go_wp2_with (at_builtin; skip; refine wpList_app rfl _ _ _ rfl el_str rfl (ho.alloc _) rfl (show Rd _ 1 _ (Ss [X]) from Rd.oneAt _ _ rfl) (Ss_one _) ?hlc ?hbc ?hKc)
    case hlc => rw [Ss_length, Ss_length]; simp only [List.length_cons, List.length_nil]; omega
    case hbc => have := hx.size; simp; omega
    intro v9 w9 ho9 hg9 hf9
    rw [← Ss_append] at ho9
    have hrow : ∀ q, blk u4 = some q → w1.heap.size ≤ q := fun q hq => (ho.lt q hq).1
    have hr9 := (hrd.ext (Below.of_alloc _ _)).grown hg9 (fun q hq => by have := hrow q hq; omega)
    have hx9 := bel_grown (bel_alloc hx (Nat.le_refl _) _) hg9 (by have := hx.size; simp; omega) (fun q hq => by have := hrow q hq; omega)
    clear ho hrd hx hg9 hf9 hrow
    go_wp2
    go_roundw
    case rel => exact ⟨k - 1, L ++ [X], _, by go_num, by simp; omega, by omega, by omega, fun y hy => by
     rcases List.mem_append.1 hy with hy | hy
     ·exact hLn y hy
     ·simp at hy
      rw [hy]
      omega, ho9, hr9, hx9⟩
    case measure => simp [intOf]; omega
  ·obtain rfl : k = 0 := by omega
   have hrow := hx.size
   by_cases hL0 : L = []
   ·subst hL0
    obtain ⟨av, nv, cv, rfl, hnv, _, _, _⟩ := id ho
    have hnv0 : nv = 0 := by simpa [Ss] using hnv.symm
    subst hnv0
    clear hnv
    go_wp2
    go_ret
    exact ⟨_, [], rfl, ho.weak (by omega), by simp, fun _ h => absurd h List.not_mem_nil, below_of_bel (afterR (bel_of hx1) hx (Nat.le_refl _)) (Nat.le_refl _)⟩
   ·have hLp := List.length_pos_iff.2 hL0
    obtain ⟨b, off, nv, cv, rfl, hnv, hbk, hbb, hbl, hcl, hfz, hset⟩ := ho.cells (by simp [Ss, hL0])
    have hnv' : nv = L.length := by
     have : (Ss L).length = L.length := by simp [Ss]
     omega
    subst hnv'
    clear hnv
    have hki : (0 : Int) < L.length := by omega
    have HO := Lib.hid ho
    clear ho
    go_wp2_with (fail)
    refine (pick_any 5 _ hrd (by omega)).mono ?_
    rintro e w3 ⟨q, rfl, _, hr3, hx3⟩
    have ho3 := HO.out.bel hx3 hRl
    replace hx := afterR hx hx3 (Nat.le_refl _)
    clear hrd hx3 hcl hfz hset
    by_cases hq : q = 0
    ·subst hq
     go_wp2_with (fail)
     refine (pick_any (L.length : Int) _ hr3 (by omega)).mono ?_
     rintro e w4 ⟨j, rfl, ⟨j0, j1⟩, hr4, hx4⟩
     replace j1 := j1 (by omega)
     obtain ⟨j, rfl⟩ := Int.eq_ofNat_of_zero_le j0
     replace ho3 := ho3.bel hx4 hRl
     replace hx := afterR hx hx4 (Nat.le_refl _)
     clear hr3 hx4 HO
     have hjl : j < L.length := by omega
     have hjx : L[j]? = some L[j] := List.getElem?_eq_getElem hjl
     have hjn := hLn _ (List.getElem_mem hjl)
     obtain ⟨b', off', n', c', e', _, _, _, _, hcl, _, _⟩ := ho3.cells (by simp [Ss, hL0])
     simp only [Value.slice.injEq, Option.some.injEq, Addr.mk.injEq] at e'
     obtain ⟨⟨rfl, rfl, _⟩, rfl, rfl⟩ := e'
     have e0 : w4.cell? ⟨b, off + j, none⟩ = some (.string ⟨L[j].toArray⟩) := hcl j _ (by rw [show Ss L = L.map sv from rfl, List.getElem?_map, hjx]; rfl)
     generalize L[j] = S at *
     clear hcl hjx j0
     go_wp2_with (fail)
     refine (mutate_any S _ hr4 (by omega) (by omega)).mono ?_
     rintro e w5 ⟨S', rfl, hS', hx5⟩
     replace ho3 := ho3.bel hx5 hRl
     replace hx := afterR hx hx5 (Nat.le_refl _)
     clear hr4 hx5 e0
     obtain ⟨b', off', n', c', e', hn', hbk', hbb', hbl', hcl, hfz, hset⟩ := ho3.cells (by simp [Ss, hL0])
     simp only [Value.slice.injEq, Option.some.injEq, Addr.mk.injEq] at e'
     obtain ⟨⟨rfl, rfl, _⟩, rfl, rfl⟩ := e'
     obtain ⟨u9, hu9⟩ : ∃ u, (Ss L)[j]? = some u := ⟨_, List.getElem?_eq_getElem (by simp [Ss]; exact hjl)⟩
     have e1 := hcl j _ hu9
     have f1 := hfz j
     have HOO : Hid (Own (w5.setCell ⟨b, off + j, none⟩ (sv S')) w1.heap.size 1 (.slice (some ⟨b, off, none⟩) L.length cv) (Ss (L.set j S'))) := by
      have h1 := hset j (sv S') (by simp [Ss]; exact hjl)
      have h2 : Ss (L.set j S') = (Ss L).set j (sv S') := by simp [Ss, List.map_set]
      rw [h2]
      exact h1
     have HX := Lib.hid (bel_setCell hx (p := ⟨b, off + j, none⟩) (show w1.heap.size ≤ b by omega) (sv S'))
     clear hcl hfz hset hu9 ho3 hx hr2
     unfold sv
     go_wp2
     go_ret
     refine ⟨_, L.set j S', rfl, HOO.out.weak (by omega), by simpa using (show L.length ≤ 16 by omega), fun y hy => ?_, below_of_bel (afterR (bel_of hx1) HX.out (Nat.le_refl _)) (Nat.le_refl _)⟩
     rcases List.mem_or_eq_of_mem_set hy with hy | rfl
     ·have := hLn y hy
      omega
     ·omega
    ·have hqb : (q == 0) = false := beq_eq_false_iff_ne.2 hq
     clear hr3 HO
     go_wp2
     go_ret
     exact ⟨_, L, rfl, ho3.weak (by omega), by omega, fun y hy => by have := hLn y hy; omega, below_of_bel (afterR (bel_of hx1) hx (Nat.le_refl _)) (Nat.le_refl _)⟩
end Go.Proofs.YthkkgleoikpfgaaGreatDoor
