/-
  Parts of the proof: ISp ISn IPb.
-/
import Derived.Deep.Cut
import Derived.IntWalk
import Derived.Lib.IndexLaws
import Derived.Test.YthkkgleoikpfgaaGreatDoorKAr
import Derived.Test.YthkkgleoikpfgaaGreatDoorKAs
import Derived.Test.YthkkgleoikpfgaaGreatDoorKAa
import Derived.Test.YthkkgleoikpfgaaGreatDoorKAi
import Derived.StillTailTactics
namespace Go.Proofs.YthkkgleoikpfgaaGreatDoor
open Go Go.RowKit
theorem splitB_nex (c : UInt8) (s : List UInt8) : ∃ h r, splitB c s = h :: r := by
 cases h : splitB c s with
 | nil => exact absurd h (splitB_ne c s)
 | cons a b => exact ⟨a, b, rfl⟩
theorem splitB_num (c : UInt8) : ∀ s : List UInt8, (splitB c s).length = s.count c + 1
 | [] => rfl
 | x :: t => by
  have ih := splitB_num c t
  unfold splitB
  by_cases h : x = c
  ·rw [if_pos h, List.length_cons, ih, h, List.count_cons_self]
  ·rw [if_neg h, List.count_cons_of_ne h]
   obtain ⟨a, r, e⟩ := splitB_nex c t
   rw [e] at ih ⊢
   exact ih
theorem idx_hit {s : List UInt8} {c : UInt8} {o : Nat} (h : Lib.indexByte s c = o) : o < s.length ∧ splitB c s = s.take o :: splitB c (s.drop (o + 1)) ∧ s.count c = (s.drop (o + 1)).count c + 1 := by
 obtain ⟨h1, h2⟩ := Lib.indexByte_some h
 obtain ⟨hl, hx⟩ := List.getElem?_eq_some_iff.1 h1
 have e : s = s.take o ++ c :: s.drop (o + 1) := by
  conv => lhs; rw [← List.take_append_drop o s]
  congr 1
  rw [← hx]
  exact List.drop_eq_getElem_cons hl
 have hs : splitB c s = s.take o :: splitB c (s.drop (o + 1)) := by
  conv => lhs; rw [e]
  refine splitB_app c _ _ fun y hy => ?_
  obtain ⟨j, hj⟩ := List.getElem?_of_mem hy
  rintro rfl
  have hjl := (List.getElem?_eq_some_iff.1 hj).1
  rw [List.length_take] at hjl
  rw [List.getElem?_take, if_pos (by omega)] at hj
  exact h2 j (by omega) hj
 refine ⟨hl, hs, ?_⟩
 have n1 := splitB_num c s
 have n2 := splitB_num c (s.drop (o + 1))
 rw [hs, List.length_cons] at n1
 omega
theorem idx_miss {s : List UInt8} {c : UInt8} (h : Lib.indexByte s c = -1) : s.count c = 0 ∧ splitB c s = [s] := by
 have h2 := Lib.indexByte_none h
 have hs := splitB_word c s fun y hy e => by
  obtain ⟨j, hj⟩ := List.getElem?_of_mem hy
  subst e
  exact h2 j hj
 refine ⟨?_, hs⟩
 have n1 := splitB_num c s
 rw [hs] at n1
 simp at n1
 omega
theorem idx_of {s : List UInt8} {c : UInt8} (h : 0 < s.count c) : ∃ o : Nat, Lib.indexByte s c = o := by
 have hge := Lib.indexByte_ge s c
 by_cases e : Lib.indexByte s c = -1
 ·have := (idx_miss e).1
  omega
 ·exact ⟨(Lib.indexByte s c).toNat, by omega⟩
/-- the pieces so far, and room for the others -/
def fillTo (done : List (List UInt8)) (n : Nat) : Array Value := (Ss done ++ List.replicate (n - done.length) (Value.string ⟨#[]⟩)).toArray
theorem fill_store (done : List (List UInt8)) (x : List UInt8) {n : Nat} (h : done.length < n) : (fillTo done n).setIfInBounds done.length (sv x) = fillTo (done ++ [x]) n := by
 unfold fillTo
 obtain ⟨m, hm⟩ : ∃ m, n - done.length = m + 1 := ⟨n - done.length - 1, by omega⟩
 rw [List.setIfInBounds_toArray, hm, List.length_append, List.length_singleton, show n - (done.length + 1) = m by omega, List.set_append_right _ _ (by rw [Ss_length]; exact Nat.le_refl _), Ss_length, Nat.sub_self, List.replicate_succ, List.set_cons_zero, Ss_append, List.append_assoc]
 rfl
theorem fill_full (done : List (List UInt8)) : fillTo done done.length = (Ss done).toArray := by
 unfold fillTo
 rw [Nat.sub_self, List.replicate_zero, List.append_nil]
theorem fill_nil (n : Nat) : fillTo [] n = madeCells #[Value.string ⟨#[]⟩] n := by
 apply Array.toList_inj.1
 rw [madeCells_list]
 unfold fillTo
 rw [List.length_nil, Nat.sub_zero]
 show [] ++ List.replicate n (Value.string ⟨#[]⟩) = _
 rw [List.nil_append]
 apply List.ext_getElem?
 intro i
 by_cases hi : i < n
 ·rw [List.getElem?_map, List.getElem?_range hi, List.getElem?_replicate, if_pos hi]
  simp [Nat.mod_one]
 ·rw [List.getElem?_eq_none (by simp; omega), List.getElem?_eq_none (by simp; omega)]
theorem ba_take (s : List UInt8) (k : Nat) : (⟨s.toArray⟩ : ByteArray).extract 0 k = ⟨(s.take k).toArray⟩ := ba_extract s 0 k
theorem ba_drop (s : List UInt8) (k : Nat) : (⟨s.toArray⟩ : ByteArray).extract k s.length = ⟨(s.drop k).toArray⟩ := (ba_extract s k s.length).trans (by rw [← List.length_drop, List.take_length])
theorem mk_big {P : Program} {t e : TypeId} {z : Value} {size bytes : Nat} (E : EL P t e z size bytes) (n : Nat) (hc : n ≤ 4194304) (W : World) :
 (Instr.makeSlice t (.int .i64 (n : Int)) (.int .i64 (n : Int))).run P W = .ok (.slice (some ⟨W.heap.size, 0, none⟩) n n) (W.alloc (.cells (madeCells z.cells (n * size)) e)) := by
 obtain ⟨i, hi, hz, hsz, hby⟩ := E.info
 have hsm := E.small
 have hb : (i.bytes : Int) * (n : Int) ≤ 281474976710656 := by
  have h1 : i.bytes * n ≤ 1024 * 4194304 := Nat.mul_le_mul (by omega) hc
  have h : ((i.bytes * n : Nat) : Int) ≤ 281474976710656 := by omega
  rwa [Int.natCast_mul] at h
 have hr := run_make (P := P) W t e i z E.und hi hz .i64 .i64 n n (by omega) (by omega) hb (by omega)
 simp only [Int.toNat_natCast, hsz] at hr
 exact hr
set_option maxRecDepth 100000 in
set_option maxHeartbeats 1600000 in
theorem genSplit_any (s : List UInt8) (c : UInt8) (w : World) (hs : s.length ≤ 2000000) :
 Calls Tryz.prog 56 #[.string ⟨s.toArray⟩, .string ⟨#[c]⟩, .int .i64 0, .int .i64 (-1)] w fun e w' => e = .returned (.slice (some ⟨w.heap.size, 0, none⟩) (splitB c s).length (splitB c s).length) ∧ Keep w.heap.size (.cells (Ss (splitB c s)).toArray 9) w' ∧ Ext w w' := by
 have hn := splitB_num c s
 have hcl := List.count_le_length (a := c) (l := s)
 have HC := Lib.hid (fun w => Tryz.strings_Count_one ⟨s.toArray⟩ c w)
 obtain ⟨L, hL⟩ : ∃ L, L = splitB c s := ⟨_, rfl⟩
 have HL0 : Hid (splitB c s = L) := hL.symm
 rw [← hL] at hn ⊢
 obtain ⟨n, hnn⟩ : ∃ n, s.count c = n := ⟨_, rfl⟩
 have HN0 : Hid (s.count c = n) := hnn
 have HN1 : Hid (Lib.countByte (⟨s.toArray⟩ : ByteArray).data.toList c = n) := hnn
 rw [hnn] at hn hcl
 rw [hn]
 clear hL hnn
 go_enter Tryz.func56, Tryz.ntmps56
 go_wp2_with (fail)
 refine (HC.out _).mono ?_
 rintro e w1 ⟨rfl, rfl⟩
 rw [HN1.out]
 clear HC HN1
 have hmin : min (n : Int) (s.length : Int) = n := Int.min_eq_left (by omega)
 have hmn : (n : Int) ≤ s.length := by omega
 have hc0 : (0 : Int) ≤ (n : Int) := by omega
 go_upto_region 8 with fail
 obtain ⟨N, hN⟩ : ∃ N, N = n + 1 := ⟨_, rfl⟩
 have hmk := fun W => mk_big (P := Tryz.prog) el_str N (by omega) W
 have hNi : (n : Int) + 1 = N := by omega
 rw [hNi]
 have hN0 : (0 : Int) ≤ (N : Int) := by omega
 have hNm : (N : Int) ≤ 2000001 := by omega
 replace hN : Hid (N = n + 1) := hN
 clear hmin hNi
 go_upto_region 10 with fail
 rw [show (N : Int) - 1 = n by have := hN.out; omega, ← fill_nil]
 have hx0 := Below.of_alloc w1 (.cells (fillTo [] N) 9)
 have kx0 := Keep.new w1 (.cells (fillTo [] N) 9)
 generalize w1.alloc (.cells (fillTo [] N) 9) = W0 at *
 generalize hgg : w1.heap.size = g at *
 clear hmk
 go_wp2
 go_loopw [0, 10] (fun u i wr => ∃ (done : List (List UInt8)) (r : List UInt8), i = .int .i64 done.length ∧ u = .string ⟨r.toArray⟩ ∧ done ++ splitB c r = L ∧ done.length + r.count c = n ∧ r.length ≤ 2000000 ∧ Keep g (.cells (fillTo done N) 9) wr ∧ Below g w1 wr) (fun _ i _ => n - (intOf i).toNat)
 case atStart => exact ⟨[], s, rfl, rfl, by rw [← HL0.out]; rfl, by rw [← HN0.out]; simp, hs, kx0, hx0⟩
 case round =>
  obtain ⟨done, r, rfl, rfl, hdl, hdn, hr, kx, hb⟩ := hrel
  have HI := Lib.hid (fun w => Tryz.strings_Index_one ⟨r.toArray⟩ c w)
  by_cases hlt : done.length < n
  ·have hki : (done.length : Int) < n := by omega
   obtain ⟨o, ho⟩ := idx_of (s := r) (c := c) (by omega)
   obtain ⟨hol, hsp, hct⟩ := idx_hit ho
   have HO : Hid (Lib.indexByte (⟨r.toArray⟩ : ByteArray).data.toList c = (o : Int)) := ho
   clear ho
   go_wp2_with (fail)
   refine (HI.out _).mono ?_
   rintro e w4 ⟨rfl, rfl⟩
   rw [HO.out]
   clear HO HI
   have hzr : (⟨r.toArray⟩ : ByteArray).size = r.length := rfl
   have hdN : done.length < N := by have := hN.out; omega
   have hki2 : (done.length : Int) < N := by omega
   have f0 := kx.frozen done.length
   have c0 : ∃ x, w4.cell? ⟨g, done.length, none⟩ = some x := by
    rw [kx.cell done.length]
    refine ⟨_, Array.getElem?_eq_getElem ?_⟩
    unfold fillTo
    rw [List.size_toArray, List.length_append, Ss_length, List.length_replicate]
    omega
   obtain ⟨x0, c0⟩ := c0
   have KS := Lib.hid (kx.store done.length (sv (r.take o)))
   have HS := Lib.hid (fill_store done (r.take o) hdN)
   have BS := Lib.hid (hb.setCell (p := ⟨g, done.length, none⟩) (Nat.le_refl _) (sv (r.take o)))
   have HT := Lib.hid (ba_take r o)
   have HD := Lib.hid (ba_drop r (o + 1))
   have hli : (o : Int) < r.length := by omega
   have hl0 : (0 : Int) ≤ o := by omega
   have hli1 : (o : Int) + 1 ≤ r.length := by omega
   clear kx hb
   go_wp2
   replace HS := HS.out
   replace KS := KS.out
   rw [HS] at KS
   go_roundw
   case rel =>
    refine ⟨done ++ [r.take o], r.drop (o + 1), by simp, by first | (rw [HD.out]; done) | (rw [← HD.out]; rfl), by rw [List.append_assoc, ← hdl, hsp]; try rfl, by rw [List.length_append, List.length_singleton]; omega, by rw [List.length_drop]; omega, ?_, ?_⟩
    ·first | (rw [HT.out]; exact KS) | exact KS
    ·first | (rw [HT.out]; exact BS.out) | exact BS.out
   case measure => simp [intOf]; omega
  ·obtain rfl : n = done.length := by omega
   have hct : r.count c = 0 := by omega
   have hsp : splitB c r = [r] := by
    refine (idx_miss (s := r) (c := c) ?_).2
    by_cases e : Lib.indexByte r c = -1
    ·exact e
    ·have hge := Lib.indexByte_ge r c
     have := (idx_hit (s := r) (c := c) (o := (Lib.indexByte r c).toNat) (by omega)).2.2
     omega
   rw [hsp] at hdl
   have hdN : done.length < N := by have := hN.out; omega
   have hki2 : (done.length : Int) < N := by omega
   have hki3 : (done.length : Int) + 1 ≤ N := by omega
   have f0 := kx.frozen done.length
   have c0 : ∃ x, wr.cell? ⟨g, done.length, none⟩ = some x := by
    rw [kx.cell done.length]
    refine ⟨_, Array.getElem?_eq_getElem ?_⟩
    unfold fillTo
    rw [List.size_toArray, List.length_append, Ss_length, List.length_replicate]
    omega
   obtain ⟨x0, c0⟩ := c0
   have KS := kx.store done.length (sv r)
   rw [fill_store done r hdN, hdl, hN.out, ← hn, fill_full] at KS
   have BS := Lib.hid (hb.setCell (p := ⟨g, done.length, none⟩) (Nat.le_refl _) (sv r))
   replace KS := Lib.hid KS
   have HL1 := Lib.hid hn
   clear kx hb HI hdl hdn hsp hct hn
   go_wp2
   go_ret
   subst hgg
   refine ⟨?_, KS.out, BS.out⟩
   obtain rfl := hN.out
   first | rfl | (congr 1; simp)
theorem split_any (s : List UInt8) (c : UInt8) (w : World) (hs : s.length ≤ 2000000) :
 Calls Tryz.prog 38 #[.string ⟨s.toArray⟩, .string ⟨#[c]⟩] w fun e w' => e = .returned (.slice (some ⟨w.heap.size, 0, none⟩) (splitB c s).length (splitB c s).length) ∧ Keep w.heap.size (.cells (Ss (splitB c s)).toArray 9) w' ∧ Ext w w' := by
 have HG := Lib.hid (fun w => genSplit_any s c w hs)
 go_enter Tryz.func38, Tryz.ntmps38
 go_wp2_with (fail)
 refine (HG.out _).mono ?_
 rintro e w1 ⟨rfl, kx, hx⟩
 clear HG
 obtain ⟨n, hn⟩ : ∃ n, n = (splitB c s).length := ⟨_, rfl⟩
 rw [← hn]
 replace hn : Hid (n = (splitB c s).length) := hn
 go_wp2
 go_ret
 exact ⟨by rw [← hn.out]; rfl, kx, hx⟩
/-- at most k cuts at the byte c -/
def splitK (c : UInt8) : Nat → List UInt8 → List (List UInt8)
 | 0, s => [s]
 | k + 1, s => if Lib.indexByte s c = -1 then [s] else s.take (Lib.indexByte s c).toNat :: splitK c k (s.drop ((Lib.indexByte s c).toNat + 1))
theorem splitK_hit {c : UInt8} {k o : Nat} {s : List UInt8} (h : Lib.indexByte s c = (o : Int)) : splitK c (k + 1) s = s.take o :: splitK c k (s.drop (o + 1)) := by
 show (if Lib.indexByte s c = -1 then [s] else s.take (Lib.indexByte s c).toNat :: splitK c k (s.drop ((Lib.indexByte s c).toNat + 1))) = _
 rw [if_neg (by omega), h, Int.toNat_natCast]
theorem splitK_miss {c : UInt8} {s : List UInt8} (h : Lib.indexByte s c = -1) : ∀ k, splitK c k s = [s]
 | 0 => rfl
 | k + 1 => by
  show (if Lib.indexByte s c = -1 then [s] else s.take (Lib.indexByte s c).toNat :: splitK c k (s.drop ((Lib.indexByte s c).toNat + 1))) = _
  rw [if_pos h]
theorem splitK_len (c : UInt8) : ∀ (k : Nat) (s : List UInt8), 1 ≤ (splitK c k s).length ∧ (splitK c k s).length ≤ k + 1
 | 0, _ => ⟨Nat.le_refl _, Nat.le_refl _⟩
 | k + 1, s => by
  by_cases h : Lib.indexByte s c = -1
  ·rw [splitK_miss h]
   simp
  ·have hge := Lib.indexByte_ge s c
   rw [splitK_hit (o := (Lib.indexByte s c).toNat) (by omega), List.length_cons]
   have := splitK_len c k (s.drop ((Lib.indexByte s c).toNat + 1))
   omega
theorem splitK_all (c : UInt8) : ∀ (k : Nat) (s : List UInt8), s.length ≤ k → splitK c k s = splitB c s
 | 0, s, h => by
  rw [List.eq_nil_of_length_eq_zero (by omega : s.length = 0)]
  rfl
 | k + 1, s, h => by
  by_cases hm : Lib.indexByte s c = -1
  ·rw [splitK_miss hm, (idx_miss hm).2]
  ·have hge := Lib.indexByte_ge s c
   obtain ⟨h1, h2, _⟩ := idx_hit (s := s) (c := c) (o := (Lib.indexByte s c).toNat) (by omega)
   rw [splitK_hit (o := (Lib.indexByte s c).toNat) (by omega), h2, splitK_all c k _ (by rw [List.length_drop]; omega)]
theorem splitK_le (c : UInt8) : ∀ (k : Nat) (s x : List UInt8), x ∈ splitK c k s → x.length ≤ s.length
 | 0, s, x, h => by
  rw [show splitK c 0 s = [s] from rfl, List.mem_singleton] at h
  rw [h]
  exact Nat.le_refl _
 | k + 1, s, x, h => by
  by_cases hm : Lib.indexByte s c = -1
  ·rw [splitK_miss hm, List.mem_singleton] at h
   rw [h]
   exact Nat.le_refl _
  ·have hge := Lib.indexByte_ge s c
   rw [splitK_hit (o := (Lib.indexByte s c).toNat) (by omega)] at h
   rcases List.mem_cons.1 h with rfl | h
   ·rw [List.length_take]
    exact Nat.min_le_right _ _
   ·exact Nat.le_trans (splitK_le c k _ x h) (by rw [List.length_drop]; omega)
theorem splitB_le (c : UInt8) (s x : List UInt8) (h : x ∈ splitB c s) : x.length ≤ s.length :=
 splitK_le c s.length s x (by rw [splitK_all c _ _ (Nat.le_refl _)]; exact h)
/-- three pieces: two words and the rest -/
theorem split_three (c : UInt8) (s : List UInt8) : if 2 < (splitB c s).length then splitK c 2 s = [(splitB c s).getD 0 [], (splitB c s).getD 1 [], Lib.join ((splitB c s).drop 2) [c]] else splitK c 2 s = splitB c s := by
 by_cases hm : Lib.indexByte s c = -1
 ·rw [splitK_miss hm, (idx_miss hm).2]
  rfl
 ·have hge := Lib.indexByte_ge s c
  obtain ⟨_, h2, _⟩ := idx_hit (s := s) (c := c) (o := (Lib.indexByte s c).toNat) (by omega)
  rw [splitK_hit (o := (Lib.indexByte s c).toNat) (by omega), h2]
  generalize s.drop ((Lib.indexByte s c).toNat + 1) = r
  generalize s.take (Lib.indexByte s c).toNat = a
  by_cases hr : Lib.indexByte r c = -1
  ·rw [splitK_miss hr, (idx_miss hr).2]
   rfl
  ·have hge := Lib.indexByte_ge r c
   obtain ⟨_, h3, _⟩ := idx_hit (s := r) (c := c) (o := (Lib.indexByte r c).toNat) (by omega)
   rw [splitK_hit (o := (Lib.indexByte r c).toNat) (by omega), h3]
   generalize r.drop ((Lib.indexByte r c).toNat + 1) = q
   have hq := List.length_pos_iff.2 (splitB_ne c q)
   rw [if_pos (by simp only [List.length_cons]; omega)]
   show _ = [_, _, Lib.join (splitB c q) [c]]
   rw [join_split]
   rfl
set_option maxRecDepth 100000 in
set_option maxHeartbeats 1600000 in
theorem genSplit3_any (s : List UInt8) (c : UInt8) (w : World) (hs : s.length ≤ 2000000) :
 Calls Tryz.prog 56 #[.string ⟨s.toArray⟩, .string ⟨#[c]⟩, .int .i64 0, .int .i64 3] w fun e w' => ∃ N, N ≤ 3 ∧ e = .returned (.slice (some ⟨w.heap.size, 0, none⟩) (splitK c 2 s).length N) ∧ Keep w.heap.size (.cells (fillTo (splitK c 2 s) N) 9) w' ∧ Ext w w' ∧ (splitK c 2 s).length ≤ N := by
 obtain ⟨M, hM⟩ : ∃ M : Nat, min (3 : Int) ((s.length : Int) + 1) = (M : Int) + 1 := ⟨min 2 s.length, by omega⟩
 have hM2 : M ≤ 2 := by omega
 have hMs : M = 2 ∨ s.length ≤ M := by omega
 have HL : Hid (splitK c 2 s = splitK c M s) := by
  show _ = _
  rcases hMs with rfl | h
  ·rfl
  ·rw [splitK_all c 2 s (by omega), splitK_all c M s h]
 rw [HL.out]
 have hLl := splitK_len c M s
 obtain ⟨L, hL⟩ : ∃ L, L = splitK c M s := ⟨_, rfl⟩
 have HL0 : Hid (splitK c M s = L) := hL.symm
 rw [← hL] at hLl ⊢
 obtain ⟨N, hN⟩ : ∃ N, N = M + 1 := ⟨_, rfl⟩
 have hMN : (M : Int) + 1 = N := by omega
 rw [hMN] at hM
 have hmk := fun W => mk_big (P := Tryz.prog) el_str N (by omega) W
 have hN0 : (0 : Int) ≤ (N : Int) := by omega
 have hNm : (N : Int) ≤ 3 := by omega
 have HNM : Hid (N = M + 1) := hN
 clear hL HL hMs hMN hN
 go_enter Tryz.func56, Tryz.ntmps56
 go_upto_region 8 with fail
 clear hM
 go_upto_region 10 with fail
 rw [show (N : Int) - 1 = M by have := HNM.out; omega, ← fill_nil]
 have hx0 := Below.of_alloc w (.cells (fillTo [] N) 9)
 have kx0 := Keep.new w (.cells (fillTo [] N) 9)
 generalize w.alloc (.cells (fillTo [] N) 9) = W0 at *
 generalize hgg : w.heap.size = g at *
 clear hmk
 go_wp2
 go_loopw [0, 10] (fun u i wr => ∃ (done : List (List UInt8)) (r : List UInt8) (q : Nat), i = .int .i64 done.length ∧ u = .string ⟨r.toArray⟩ ∧ done ++ splitK c q r = L ∧ done.length + q = M ∧ r.length ≤ 2000000 ∧ Keep g (.cells (fillTo done N) 9) wr ∧ Below g w wr) (fun _ i _ => M - (intOf i).toNat)
 case atStart => exact ⟨[], s, M, rfl, rfl, by rw [← HL0.out]; rfl, by simp, hs, kx0, hx0⟩
 case round =>
  obtain ⟨done, r, q, rfl, rfl, hdl, hdn, hr, kx, hb⟩ := hrel
  have HI := Lib.hid (fun w => Tryz.strings_Index_one ⟨r.toArray⟩ c w)
  by_cases hlt : done.length < M
  ·have hki : (done.length : Int) < M := by omega
   obtain ⟨q, rfl⟩ : ∃ q', q = q' + 1 := ⟨q - 1, by omega⟩
   by_cases hm : Lib.indexByte r c = -1
   ·rw [splitK_miss hm] at hdl
    have HO : Hid (Lib.indexByte (⟨r.toArray⟩ : ByteArray).data.toList c = -1) := hm
    clear hm
    go_wp2_with (fail)
    refine (HI.out _).mono ?_
    rintro e w4 ⟨rfl, rfl⟩
    rw [HO.out]
    clear HO HI
    have hdN : done.length < N := by have := HNM.out; omega
    have hki2 : (done.length : Int) < N := by omega
    have hki3 : (done.length : Int) + 1 ≤ N := by omega
    have f0 := kx.frozen done.length
    have c0 : ∃ x, w4.cell? ⟨g, done.length, none⟩ = some x := by
     rw [kx.cell done.length]
     refine ⟨_, Array.getElem?_eq_getElem ?_⟩
     unfold fillTo
     rw [List.size_toArray, List.length_append, Ss_length, List.length_replicate]
     omega
    obtain ⟨x0, c0⟩ := c0
    have KS := kx.store done.length (sv r)
    rw [fill_store done r hdN, hdl] at KS
    have BS := Lib.hid (hb.setCell (p := ⟨g, done.length, none⟩) (Nat.le_refl _) (sv r))
    replace KS := Lib.hid KS
    have HLL : Hid (L.length = done.length + 1) := by rw [← hdl, List.length_append]; exact rfl
    have HN3 : Hid (N ≤ 3) := by show N ≤ 3; omega
    have HNN : Hid (done.length + 1 ≤ N) := hdN
    clear kx hb hdl hdn hLl
    go_wp2
    go_ret
    subst hgg
    refine ⟨N, HN3.out, ?_, KS.out, BS.out, by rw [HLL.out]; exact HNN.out⟩
    rw [HLL.out]
    rfl
   ·have hge := Lib.indexByte_ge r c
    obtain ⟨o, ho⟩ : ∃ o : Nat, Lib.indexByte r c = o := ⟨(Lib.indexByte r c).toNat, by omega⟩
    obtain ⟨hol, _, _⟩ := idx_hit ho
    have hsp := splitK_hit (k := q) ho
    have HO : Hid (Lib.indexByte (⟨r.toArray⟩ : ByteArray).data.toList c = (o : Int)) := ho
    clear ho hm hge
    go_wp2_with (fail)
    refine (HI.out _).mono ?_
    rintro e w4 ⟨rfl, rfl⟩
    rw [HO.out]
    clear HO HI
    have hzr : (⟨r.toArray⟩ : ByteArray).size = r.length := rfl
    have hdN : done.length < N := by have := HNM.out; omega
    have hki2 : (done.length : Int) < N := by omega
    have f0 := kx.frozen done.length
    have c0 : ∃ x, w4.cell? ⟨g, done.length, none⟩ = some x := by
     rw [kx.cell done.length]
     refine ⟨_, Array.getElem?_eq_getElem ?_⟩
     unfold fillTo
     rw [List.size_toArray, List.length_append, Ss_length, List.length_replicate]
     omega
    obtain ⟨x0, c0⟩ := c0
    have KS := Lib.hid (kx.store done.length (sv (r.take o)))
    have HS := Lib.hid (fill_store done (r.take o) hdN)
    have BS := Lib.hid (hb.setCell (p := ⟨g, done.length, none⟩) (Nat.le_refl _) (sv (r.take o)))
    have HT := Lib.hid (ba_take r o)
    have HD := Lib.hid (ba_drop r (o + 1))
    have hli : (o : Int) < r.length := by omega
    have hl0 : (0 : Int) ≤ o := by omega
    have hli1 : (o : Int) + 1 ≤ r.length := by omega
    clear kx hb
    go_wp2
    replace HS := HS.out
    replace KS := KS.out
    rw [HS] at KS
    go_roundw
    case rel =>
     refine ⟨done ++ [r.take o], r.drop (o + 1), q, by simp, by first | (rw [HD.out]; done) | (rw [← HD.out]; rfl), by rw [List.append_assoc, ← hdl, hsp]; try rfl, by rw [List.length_append, List.length_singleton]; omega, by rw [List.length_drop]; omega, ?_, ?_⟩
     ·first | (rw [HT.out]; exact KS) | exact KS
     ·first | (rw [HT.out]; exact BS.out) | exact BS.out
    case measure => simp [intOf]; omega
  ·obtain rfl : q = 0 := by omega
   replace hdl : done ++ [r] = L := hdl
   have hki : ¬ (done.length : Int) < M := by omega
   clear HI
   have hdN : done.length < N := by have := HNM.out; omega
   have hki2 : (done.length : Int) < N := by omega
   have hki3 : (done.length : Int) + 1 ≤ N := by omega
   have f0 := kx.frozen done.length
   have c0 : ∃ x, wr.cell? ⟨g, done.length, none⟩ = some x := by
    rw [kx.cell done.length]
    refine ⟨_, Array.getElem?_eq_getElem ?_⟩
    unfold fillTo
    rw [List.size_toArray, List.length_append, Ss_length, List.length_replicate]
    omega
   obtain ⟨x0, c0⟩ := c0
   have KS := kx.store done.length (sv r)
   rw [fill_store done r hdN, hdl] at KS
   have BS := Lib.hid (hb.setCell (p := ⟨g, done.length, none⟩) (Nat.le_refl _) (sv r))
   replace KS := Lib.hid KS
   have HLL : Hid (L.length = done.length + 1) := by rw [← hdl, List.length_append]; exact rfl
   have HN3 : Hid (N ≤ 3) := by show N ≤ 3; omega
   have HNN : Hid (done.length + 1 ≤ N) := hdN
   clear kx hb hdl hdn hLl
   go_wp2
   go_ret
   subst hgg
   refine ⟨N, HN3.out, ?_, KS.out, BS.out, by rw [HLL.out]; exact HNN.out⟩
   rw [HLL.out]
   rfl
theorem splitN3_any (s : List UInt8) (c : UInt8) (w : World) (hs : s.length ≤ 2000000) :
 Calls Tryz.prog 31 #[.string ⟨s.toArray⟩, .string ⟨#[c]⟩, .int .i64 3] w fun e w' => ∃ N, N ≤ 3 ∧ e = .returned (.slice (some ⟨w.heap.size, 0, none⟩) (splitK c 2 s).length N) ∧ Keep w.heap.size (.cells (fillTo (splitK c 2 s) N) 9) w' ∧ Ext w w' ∧ (splitK c 2 s).length ≤ N := by
 have HG := Lib.hid (fun w => genSplit3_any s c w hs)
 generalize splitK c 2 s = L at *
 obtain ⟨n, hn⟩ : ∃ n, n = L.length := ⟨_, rfl⟩
 rw [← hn] at HG ⊢
 clear hn
 go_enter Tryz.func31, Tryz.ntmps31
 go_wp2_with (fail)
 refine (HG.out _).mono ?_
 rintro e w1 ⟨N, hN, rfl, kx, hx, hl⟩
 clear HG
 go_wp2
 go_ret
 exact ⟨N, hN, rfl, kx, hx, hl⟩
/-! ### one word -/
theorem runI_step {ws : List (List UInt8)} {k : Nat} {x : List UInt8} (h : ws[k]? = some x) (b : Bx) :
 runI (ws.drop k) b = if sidx x < 5 then runI (ws.drop (k + 2)) (setW x (aI (ws.getD (k + 1) [])) b) else runI (ws.drop (k + 1)) b := by
 obtain ⟨h1, h2⟩ := List.getElem?_eq_some_iff.1 h
 have e : ws.drop k = x :: ws.drop (k + 1) := by rw [← h2]; exact List.drop_eq_getElem_cons h1
 rw [e]
 by_cases hk : k + 1 < ws.length
 ·have e2 : ws.drop (k + 1) = ws[k + 1] :: ws.drop (k + 2) := List.drop_eq_getElem_cons hk
  have e3 : ws.getD (k + 1) [] = ws[k + 1] := by rw [List.getD_eq_getElem?_getD, List.getElem?_eq_getElem hk]; rfl
  rw [e3, e2]
  rfl
 ·have e2 : ws.drop (k + 1) = [] := List.drop_eq_nil_of_le (by omega)
  have e4 : ws.drop (k + 2) = [] := List.drop_eq_nil_of_le (by omega)
  have e3 : ws.getD (k + 1) [] = [] := by rw [List.getD_eq_getElem?_getD, List.getElem?_eq_none (by omega)]; rfl
  rw [e2, e3, e4]
  rfl
theorem runI_over {ws : List (List UInt8)} {k : Nat} (h : ws.length ≤ k) (b : Bx) : runI (ws.drop k) b = b := by
 rw [List.drop_eq_nil_of_le h]
 rfl
theorem setW_nm {j : Nat} (hj : j < 5) (n : Int) (b : Bx) : b.arr.setIfInBounds (4 + j) (.int .i64 n) = (setW (nmT j) n b).arr := by
 have : j = 0 ∨ j = 1 ∨ j = 2 ∨ j = 3 ∨ j = 4 := by omega
 rcases this with rfl | rfl | rfl | rfl | rfl <;> rfl
theorem sidx_nm {j : Nat} (hj : j < 5) : sidx (nmT j) = j := by
 have : j = 0 ∨ j = 1 ∨ j = 2 ∨ j = 3 ∨ j = 4 := by omega
 rcases this with rfl | rfl | rfl | rfl | rfl <;> decide
/-! ### the blocks of boxOf: the result, the words, the scanner, the box -/
theorem keepR {k R : Nat} {o : Obj} {w w' : World} (h : Keep k o w) (hx : ExtR R w w') (hk : k ≠ R) : Keep k o w' := (hx.block k h.lt hk).trans h
def BI (w : World) (r gw sc g : Nat) (ws : List (List UInt8)) (k : Nat) (b : Bx) (w' : World) : Prop :=
 Below w.heap.size w w' ∧ Keep r (.cells zb.arr 39) w' ∧ ScA sc gw ws k w' ∧ Keep g (.cells b.arr 39) w'
theorem BI.ext {w w1 w2 : World} {r gw sc g k : Nat} {ws : List (List UInt8)} {b : Bx} (h : BI w r gw sc g ws k b w1) (hx : Ext w1 w2) : BI w r gw sc g ws k b w2 := by
 obtain ⟨hb, hr, ⟨kg, ⟨v, ks, hv⟩, hne⟩, hg⟩ := h
 exact ⟨after hb hx (Nat.le_refl _), keepE hr hx, ⟨keepE kg hx, ⟨v, keepE ks hx, hv⟩, hne⟩, keepE hg hx⟩
theorem BI.step {w w1 w2 : World} {r gw sc g k k' : Nat} {ws : List (List UInt8)} {b : Bx} (h : BI w r gw sc g ws k b w1) (hs : ScA sc gw ws k' w2) (hx : ExtR sc w1 w2) (hB : w.heap.size ≤ r) (hr : r < sc) (hg : sc < g) : BI w r gw sc g ws k' b w2 :=
 ⟨below_bel h.1 hx h.1.size (by omega), keepR h.2.1 hx (by omega), hs, keepR h.2.2.2 hx (by omega)⟩
theorem BI.set {w w1 : World} {r gw sc g k : Nat} {ws : List (List UInt8)} {b b' : Bx} (h : BI w r gw sc g ws k b w1) (hB : w.heap.size ≤ r) (hr : r < gw) (hgw : gw < sc) (hg : sc < g) (o : Nat) (u : Value) (hb : b.arr.setIfInBounds o u = b'.arr) : BI w r gw sc g ws k b' (w1.setCell ⟨g, o, none⟩ u) := by
 obtain ⟨hbl, hkr, ⟨kg, ⟨v, ks, hv⟩, hne⟩, hkg⟩ := h
 refine ⟨hbl.setCell (p := ⟨g, o, none⟩) (by show w.heap.size ≤ g; omega) u, hkr.setOther (p := ⟨g, o, none⟩) (by show r ≠ g; omega) u, ⟨kg.setOther (p := ⟨g, o, none⟩) (by show gw ≠ g; omega) u, ⟨v, ks.setOther (p := ⟨g, o, none⟩) (by show sc ≠ g; omega) u, hv⟩, hne⟩, ?_⟩
 have := hkg.store o u
 rw [hb] at this
 exact this
theorem BI.drew {w w1 : World} {r gw sc g k : Nat} {ws : List (List UInt8)} {b : Bx} (h : BI w r gw sc g ws k b w1) : BI w r gw sc g ws k b w1.drew := ⟨h.1.drew, h.2.1, h.2.2.1, h.2.2.2⟩
theorem BI.c9 {w w1 : World} {r gw sc g k : Nat} {ws : List (List UInt8)} {b : Bx} (h : BI w r gw sc g ws k b w1) : w1.cell? ⟨g, 0, none⟩ = some (.int .i64 b.parent) ∧ w1.cell? ⟨g, 1, none⟩ = some (.int .i64 b.kind) ∧ w1.cell? ⟨g, 2, none⟩ = some (.int .i64 b.w) ∧ w1.cell? ⟨g, 3, none⟩ = some (.int .i64 b.h) ∧ w1.cell? ⟨g, 4, none⟩ = some (.int .i64 b.pad) ∧ w1.cell? ⟨g, 5, none⟩ = some (.int .i64 b.gap) ∧ w1.cell? ⟨g, 6, none⟩ = some (.int .i64 b.grow) ∧ w1.cell? ⟨g, 7, none⟩ = some (.int .i64 b.shrink) ∧ w1.cell? ⟨g, 8, none⟩ = some (.int .i64 b.justify) :=
 have q := h.2.2.2
 ⟨q.cell 0, q.cell 1, q.cell 2, q.cell 3, q.cell 4, q.cell 5, q.cell 6, q.cell 7, q.cell 8⟩
theorem BI.r9 {w w1 : World} {r gw sc g k : Nat} {ws : List (List UInt8)} {b : Bx} (h : BI w r gw sc g ws k b w1) : w1.cell? ⟨r, 0, none⟩ = some (.int .i64 zb.parent) ∧ w1.cell? ⟨r, 1, none⟩ = some (.int .i64 zb.kind) ∧ w1.cell? ⟨r, 2, none⟩ = some (.int .i64 zb.w) ∧ w1.cell? ⟨r, 3, none⟩ = some (.int .i64 zb.h) ∧ w1.cell? ⟨r, 4, none⟩ = some (.int .i64 zb.pad) ∧ w1.cell? ⟨r, 5, none⟩ = some (.int .i64 zb.gap) ∧ w1.cell? ⟨r, 6, none⟩ = some (.int .i64 zb.grow) ∧ w1.cell? ⟨r, 7, none⟩ = some (.int .i64 zb.shrink) ∧ w1.cell? ⟨r, 8, none⟩ = some (.int .i64 zb.justify) :=
 have q := h.2.1
 ⟨q.cell 0, q.cell 1, q.cell 2, q.cell 3, q.cell 4, q.cell 5, q.cell 6, q.cell 7, q.cell 8⟩
theorem BI.z9 {w w1 : World} {r gw sc g k : Nat} {ws : List (List UInt8)} {b : Bx} (h : BI w r gw sc g ws k b w1) : w1.frozen? ⟨r, 0, none⟩ = false ∧ w1.frozen? ⟨r, 1, none⟩ = false ∧ w1.frozen? ⟨r, 2, none⟩ = false ∧ w1.frozen? ⟨r, 3, none⟩ = false ∧ w1.frozen? ⟨r, 4, none⟩ = false ∧ w1.frozen? ⟨r, 5, none⟩ = false ∧ w1.frozen? ⟨r, 6, none⟩ = false ∧ w1.frozen? ⟨r, 7, none⟩ = false ∧ w1.frozen? ⟨r, 8, none⟩ = false :=
 have q := h.2.1
 ⟨q.frozen 0, q.frozen 1, q.frozen 2, q.frozen 3, q.frozen 4, q.frozen 5, q.frozen 6, q.frozen 7, q.frozen 8⟩
theorem BI.laid {w w1 : World} {r gw sc g k : Nat} {ws : List (List UInt8)} {b : Bx} (h : BI w r gw sc g ws k b w1) (hl : LaidP w) : LaidP w1 := hl.below h.1
/-- how many words the scanner still has -/
def scLen (sc : Nat) (w : World) : Nat := match w.cell? ⟨sc, 0, none⟩ with
 | some (.slice _ n _) => n
 | _ => 0
theorem ScA.len {sc gw k : Nat} {ws : List (List UInt8)} {w : World} (h : ScA sc gw ws k w) : scLen sc w = ws.length - k := by
 obtain ⟨_, ⟨v, ks, hv⟩, _⟩ := h
 unfold scLen
 rw [ks.cell 0]
 rcases hv with ⟨hk, rfl⟩ | ⟨hk, a, c, rfl⟩
 ·rfl
 ·show 0 = _
  omega
theorem sidx_if {x : List UInt8} {j : Nat} {α : Type} (a b : α) (h : sidx x ≠ j) : (if sidx x < j + 1 then a else b) = if sidx x < j then a else b := by
 by_cases h1 : sidx x < j
 ·rw [if_pos h1, if_pos (by omega)]
 ·rw [if_neg h1, if_neg (by omega)]
set_option maxRecDepth 100000 in
set_option maxHeartbeats 1600000 in
theorem boxOf_any (s : List UInt8) (w : World) (hs : s.length ≤ 2000000) (hlaid : LaidP w) :
 Calls Tryz.prog 57 #[sv s] w fun e w' => e = .returned (resB (pB s)) ∧ Ext w w' := by
 have k0 := Keep.new w (.cells zb.arr 39)
 have b0 := Below.of_alloc w (.cells zb.arr 39)
 have HSM := Lib.hid (splitB_len 32 s)
 have hcnt := splitB_count 32 s
 have hwne := splitB_ne 32 s
 have HPB := Lib.hid (pB_words s)
 have HSP := Lib.hid (fun w => split_any s 32 w hs)
 have HLD : Hid (LaidP w) := hlaid
 clear hlaid
 generalize splitB 32 s = ws at *
 obtain ⟨x, hx0, hxh⟩ : ∃ x, ws[0]? = some x ∧ ws.headD [] = x := by
  cases ws with
  | nil => exact absurd rfl hwne
  | cons x t => exact ⟨x, rfl, rfl⟩
 have hpos : 0 < ws.length := List.length_pos_iff.2 hwne
 unfold sv
 go_enter Tryz.func57, Tryz.ntmps57
 go_wp2_with (fail)
 change Calls _ _ _ (w.alloc (.cells zb.arr 39)) _
 obtain ⟨r, hr⟩ : ∃ r, w.heap.size = r := ⟨_, rfl⟩
 have hW0 : (w.alloc (.cells zb.arr 39)).heap.size = r + 1 := by rw [World.size_alloc, hr]
 generalize w.alloc (.cells zb.arr 39) = W0 at *
 refine (HSP.out W0).mono ?_
 rintro e w1 ⟨rfl, kw, hx1⟩
 rw [hW0] at kw ⊢
 have hk1 := keepE k0 hx1
 have hb1 := after b0 hx1 (Nat.le_refl _)
 have hw1 := kw.lt
 rw [hr] at hk1
 clear HSP k0 b0 hx1
 go_upto_region 3 with fail
 have kS := (Keep.new w1 (.cells #[.slice (some ⟨r + 1, 0, none⟩) ws.length ws.length] 112)).alloc (.cells (⟨0, -1, 0, 0, 0, 0, 0, 0, 0⟩ : Bx).arr 39)
 have kG := Keep.new (w1.alloc (.cells #[.slice (some ⟨r + 1, 0, none⟩) ws.length ws.length] 112)) (.cells (⟨0, -1, 0, 0, 0, 0, 0, 0, 0⟩ : Bx).arr 39)
 have kW := (kw.alloc (.cells #[.slice (some ⟨r + 1, 0, none⟩) ws.length ws.length] 112)).alloc (.cells (⟨0, -1, 0, 0, 0, 0, 0, 0, 0⟩ : Bx).arr 39)
 have kR := (hk1.alloc (.cells #[.slice (some ⟨r + 1, 0, none⟩) ws.length ws.length] 112)).alloc (.cells (⟨0, -1, 0, 0, 0, 0, 0, 0, 0⟩ : Bx).arr 39)
 have hb2 := (hb1.alloc hb1.size (.cells #[.slice (some ⟨r + 1, 0, none⟩) ws.length ws.length] 112)).alloc (hb1.alloc hb1.size (.cells #[.slice (some ⟨r + 1, 0, none⟩) ws.length ws.length] 112)).size (.cells (⟨0, -1, 0, 0, 0, 0, 0, 0, 0⟩ : Bx).arr 39)
 rw [World.size_alloc] at kG
 obtain ⟨sc, hsc⟩ : ∃ sc, w1.heap.size = sc := ⟨_, rfl⟩
 change Code.wp _ _ _ _ ((w1.alloc (.cells #[.slice (some ⟨r + 1, 0, none⟩) ws.length ws.length] 112)).alloc (.cells (⟨0, -1, 0, 0, 0, 0, 0, 0, 0⟩ : Bx).arr 39))
 generalize (w1.alloc (.cells #[.slice (some ⟨r + 1, 0, none⟩) ws.length ws.length] 112)).alloc (.cells (⟨0, -1, 0, 0, 0, 0, 0, 0, 0⟩ : Bx).arr 39) = W2 at *
 rw [hsc] at kS kG hw1 ⊢
 have hbi : BI w r (r + 1) sc (sc + 1) ws 0 ⟨0, -1, 0, 0, 0, 0, 0, 0, 0⟩ W2 := ⟨hb2, kR, ⟨kW, ⟨_, kS, .inl ⟨hpos, rfl⟩⟩, by omega⟩, kG⟩
 have hwr : w.heap.size ≤ r := by omega
 clear kS kG kW kR hb2 hb1 hk1 kw hsc hr hW0
 go_wp2_with (fail)
 refine (next_any _ hbi.2.2.1 (by omega)).mono ?_
 rintro e w3 ⟨rfl, hs3, hx3⟩
 replace hbi := hbi.step hs3 hx3 hwr (by omega) (by omega)
 clear hs3 hx3
 rw [show ws.getD 0 [] = x by rw [List.getD_eq_getElem?_getD, hx0]; rfl]
 unfold sv
 go_wp2_with (fail)
 refine (kindNames_any _).mono ?_
 rintro e w4 ⟨rfl, hx4⟩
 replace hbi := hbi.ext hx4
 clear hx4
 go_wp2
 go_loopw [20] (fun i wr => ∃ k : Nat, i = .int .i64 k ∧ k ≤ 4 ∧ BI w r (r + 1) sc (sc + 1) ws 1 ⟨0, kTo x k, 0, 0, 0, 0, 0, 0, 0⟩ wr) (fun i _ => 4 - (intOf i).toNat)
 case atStart => exact ⟨0, rfl, by omega, hbi⟩
 case round =>
  clear hbi
  obtain ⟨k, rfl, hk, hbi⟩ := hrel
  by_cases hlt : k < 4
  ·have hki : (k : Int) < 4 := by omega
   have hk0 : (0 : Int) ≤ (k : Int) := by omega
   have hix := fun w => index_names w (k := (k : Int)) (by omega)
   by_cases hxk : x = kindT (k : Int)
   ·have HK : Hid (kTo x (k + 1) = (k : Int)) := by
     show _ = _
     unfold kTo
     rw [if_pos hxk]
    rw [← hxk] at hix
    have d1 : wr.cell? ⟨sc + 1, 1, none⟩ = some (.int .i64 (kTo x k)) := hbi.2.2.2.cell 1
    have f1 := hbi.2.2.2.frozen 1
    have hbi2 := hbi.set hwr (by omega) hw1 (by omega) 1 (.int .i64 (k : Int)) (b' := ⟨0, k, 0, 0, 0, 0, 0, 0, 0⟩) rfl
    clear hbi hxk
    go_wp2
    go_roundw
    case rel => exact ⟨k + 1, by go_num, by omega, by rw [HK.out]; exact hbi2⟩
    case measure => simp [intOf]; omega
   ·have HK : Hid (kTo x (k + 1) = kTo x k) := by
     show _ = _
     conv => lhs; unfold kTo
     rw [if_neg hxk]
    have hq : (kindT (k : Int) == x) = false := beq_eq_false_iff_ne.2 (fun e => hxk e.symm)
    generalize kindT (k : Int) = kk at *
    clear hxk
    go_wp2
    go_roundw
    case rel => exact ⟨k + 1, by go_num, by omega, by rw [HK.out]; exact hbi⟩
    case measure => simp [intOf]; omega
  ·obtain rfl : k = 4 := by omega
   clear hlt hk
   rw [show ((4 : Nat) : Int) = 4 from rfl]
   have hkk := kTo_le x 4
   have d1 : wr.cell? ⟨sc + 1, 1, none⟩ = some (.int .i64 (kTo x 4)) := hbi.2.2.2.cell 1
   have HGL : Hid (∀ k, (ws.getD k []).length ≤ 1000000000) := fun k => by
    rw [List.getD_eq_getElem?_getD]
    cases h : ws[k]? with
    | none => exact Nat.zero_le _
    | some z =>
     have := HSM.out z (List.mem_of_getElem? h)
     show z.length ≤ _
     omega
   by_cases h0 : kTo x 4 = 0
   ·have HF : Hid (runI (ws.drop 3) ⟨0, 0, aI (ws.getD 1 []), aI (ws.getD 2 []), 0, 0, 0, 0, 0⟩ = wordsI ws) := by
     show _ = _
     unfold wordsI headI
     rw [hxh, if_pos h0, if_pos h0]
    rw [h0] at d1 hbi
    clear hkk h0
    go_wp2_with (fail)
    refine (number_any w _ hbi.2.2.1 (by omega) (HGL.out 1) HLD.out rfl hbi.1 (by omega)).mono ?_
    rintro e w7 ⟨rfl, hs7, hx7⟩
    replace hbi := hbi.step hs7 hx7 hwr (by omega) (by omega)
    clear hs7 hx7 d1
    generalize aI (ws.getD 1 []) = a1 at *
    go_wp2_with (fail)
    refine (number_any w _ hbi.2.2.1 (by omega) (HGL.out 2) HLD.out rfl hbi.1 (by omega)).mono ?_
    rintro e w8 ⟨rfl, hs8, hx8⟩
    replace hbi := hbi.step hs8 hx8 hwr (by omega) (by omega)
    clear hs8 hx8
    generalize aI (ws.getD 2 []) = a2 at *
    have d2 : w8.cell? ⟨sc + 1, 2, none⟩ = some (.int .i64 0) := hbi.2.2.2.cell 2
    have f2 := hbi.2.2.2.frozen 2
    replace hbi := hbi.set hwr (by omega) hw1 (by omega) 2 (.int .i64 a1) (b' := ⟨0, 0, a1, 0, 0, 0, 0, 0, 0⟩) rfl
    have d3 : (w8.setCell ⟨sc + 1, 2, none⟩ (.int .i64 a1)).cell? ⟨sc + 1, 3, none⟩ = some (.int .i64 0) := hbi.2.2.2.cell 3
    have f3 := hbi.2.2.2.frozen 3
    replace hbi := hbi.set hwr (by omega) hw1 (by omega) 3 (.int .i64 a2) (b' := ⟨0, 0, a1, a2, 0, 0, 0, 0, 0⟩) rfl
    go_upto_region 12 with fail
    clear d2 f2 d3 f3
    generalize (w8.setCell ⟨sc + 1, 2, none⟩ (.int .i64 a1)).setCell ⟨sc + 1, 3, none⟩ (.int .i64 a2) = W9 at *
    go_wp2
    go_loopw [] (fun wr => ∃ (k : Nat) (b : Bx), BI w r (r + 1) sc (sc + 1) ws k b wr ∧ runI (ws.drop k) b = wordsI ws) (fun wr => scLen sc wr)
    case atStart => exact ⟨3, _, hbi, HF.out⟩
    case round =>
     clear hbi
     obtain ⟨k, b, hbi, hrun⟩ := hrel
     have hsl := hbi.2.2.1.len
     by_cases hlt : k < ws.length
     ·obtain ⟨y, hy⟩ : ∃ y, ws[k]? = some y := ⟨_, List.getElem?_eq_getElem hlt⟩
      have hyd : ws.getD k [] = y := by rw [List.getD_eq_getElem?_getD, hy]; rfl
      have HRN := Lib.hid ((runI_step hy b).symm.trans hrun)
      clear hrun
      obtain ⟨v, ks, hv⟩ := hbi.2.2.1.2.1
      have c0 : wr.cell? ⟨sc, 0, none⟩ = some (sl (r + 1) k ws.length) := by
       rcases hv with ⟨_, rfl⟩ | ⟨h, _⟩
       ·exact ks.cell 0
       ·omega
      unfold sl at c0
      clear ks hv v
      have hlp : (0 : Int) < ((ws.length - k : Nat) : Int) := by omega
      go_upto_region 13 with fail
      clear c0 hlp
      go_wp2_with (fail)
      refine (next_any _ hbi.2.2.1 (by omega)).mono ?_
      rintro e w5 ⟨rfl, hs5, hx5⟩
      replace hbi := hbi.step hs5 hx5 hwr (by omega) (by omega)
      rw [hyd]
      clear hs5 hx5 hyd hy
      unfold sv
      go_wp2_with (fail)
      refine (styles_any (sc + 1) _).mono ?_
      rintro e w6 ⟨rfl, hst, hx6⟩
      have hhg : sc + 1 < w5.heap.size := hbi.2.2.2.lt
      replace hbi := hbi.ext hx6
      clear hx6
      generalize w5.heap.size = h at *
      obtain ⟨n, hn⟩ : ∃ n, n = aI (ws.getD (k + 1) []) := ⟨_, rfl⟩
      rw [← hn] at HRN
      replace hn : Hid (n = aI (ws.getD (k + 1) [])) := hn
      go_wp2
      go_loopw [49] (fun i wr => ∃ j : Nat, i = .int .i64 j ∧ j ≤ 5 ∧ BI w r (r + 1) sc (sc + 1) ws (if sidx y < j then k + 2 else k + 1) (if sidx y < j then setW y n b else b) wr ∧ Keep h (.cells #[.string ⟨#[112, 97, 100]⟩, .pointer (some ⟨sc + 1, 4, none⟩), .string ⟨#[103, 97, 112]⟩, .pointer (some ⟨sc + 1, 5, none⟩), .string ⟨#[103, 114, 111, 119]⟩, .pointer (some ⟨sc + 1, 6, none⟩), .string ⟨#[115, 104, 114, 105, 110, 107]⟩, .pointer (some ⟨sc + 1, 7, none⟩), .string ⟨#[106, 117, 115, 116, 105, 102, 121]⟩, .pointer (some ⟨sc + 1, 8, none⟩)] 119) wr) (fun i _ => 5 - (intOf i).toNat)
      case atStart => exact ⟨0, rfl, by omega, hbi, hst⟩
      case round =>
       clear hbi hst
       obtain ⟨j, rfl, hj, hbi, hst⟩ := hrel
       by_cases hj5 : j < 5
       ·have hki : (j : Int) < 5 := by omega
        have hk0 : (0 : Int) ≤ (j : Int) := by omega
        have e0 : wr.cell? ⟨h, j * 2, none⟩ = some (.string ⟨(nmT j).toArray⟩) := by
         rw [hst.cell (j * 2)]
         have : j = 0 ∨ j = 1 ∨ j = 2 ∨ j = 3 ∨ j = 4 := by omega
         rcases this with rfl | rfl | rfl | rfl | rfl <;> rfl
        have e1 : wr.cell? ⟨h, j * 2 + 1, none⟩ = some (.pointer (some ⟨sc + 1, 4 + j, none⟩)) := by
         rw [hst.cell (j * 2 + 1)]
         have : j = 0 ∨ j = 1 ∨ j = 2 ∨ j = 3 ∨ j = 4 := by omega
         rcases this with rfl | rfl | rfl | rfl | rfl <;> rfl
        go_upto_region 17 with fail
        have kt := Keep.new wr (.cells #[.string ⟨(nmT j).toArray⟩, .pointer (some ⟨sc + 1, 4 + j, none⟩)] 119)
        have htg : sc + 1 < wr.heap.size := hbi.2.2.2.lt
        replace hbi := hbi.ext (Below.of_alloc wr (.cells #[.string ⟨(nmT j).toArray⟩, .pointer (some ⟨sc + 1, 4 + j, none⟩)] 119))
        replace hst := hst.alloc (.cells #[.string ⟨(nmT j).toArray⟩, .pointer (some ⟨sc + 1, 4 + j, none⟩)] 119)
        clear e0 e1
        generalize wr.alloc (.cells #[.string ⟨(nmT j).toArray⟩, .pointer (some ⟨sc + 1, 4 + j, none⟩)] 119) = W1 at *
        generalize wr.heap.size = t at *
        have t0 := kt.cell 0
        have t1 := kt.cell 1
        by_cases hyj : sidx y = j
        ·have hym := sidx_lt hyj hj5
         have hq : (nmT j == y) = true := beq_iff_eq.2 hym.symm
         rw [if_neg (by omega), if_neg (by omega)] at hbi
         have HB1 : Hid ((if sidx y < j + 1 then k + 2 else k + 1) = k + 2) := if_pos (by omega)
         have HB2 : Hid ((if sidx y < j + 1 then setW y n b else b) = setW y n b) := if_pos (by omega)
         have HSW := Lib.hid (setW_nm hj5 n b)
         rw [← hym] at HSW
         clear hyj hym
         have hg4 : ∃ u, W1.cell? ⟨sc + 1, 4 + j, none⟩ = some u := by
          rw [hbi.2.2.2.cell]
          exact ⟨_, Array.getElem?_eq_getElem (by show 4 + j < 9; omega)⟩
         go_upto_region 18 with fail
         refine wp_region_held_drew (S := fun w' => Keep t (.cells #[.string ⟨(nmT j).toArray⟩, .pointer (some ⟨sc + 1, 4 + j, none⟩)] 119) w') (by kernel_rfl) kt (fun hS => ?_)
         replace hbi := hbi.drew
         have hst2 : Keep h (.cells #[.string ⟨#[112, 97, 100]⟩, .pointer (some ⟨sc + 1, 4, none⟩), .string ⟨#[103, 97, 112]⟩, .pointer (some ⟨sc + 1, 5, none⟩), .string ⟨#[103, 114, 111, 119]⟩, .pointer (some ⟨sc + 1, 6, none⟩), .string ⟨#[115, 104, 114, 105, 110, 107]⟩, .pointer (some ⟨sc + 1, 7, none⟩), .string ⟨#[106, 117, 115, 116, 105, 102, 121]⟩, .pointer (some ⟨sc + 1, 8, none⟩)] 119) W1.drew := hst
         clear t0 t1 hst kt hg4
         generalize W1.drew = wd at *
         refine hTk hS 0 57 rfl (v := ?_) ?_ ?_
         rotate_left
         ·intro _ _; go_simp; first | done | with_reducible rfl
         simp only [Act.put, lsA, ls0, ls1]
         refine hTk hS 1 58 rfl (v := ?_) ?_ ?_
         rotate_left
         ·intro w9 hS9; have q := hS9.cell 1; go_simp; first | done | with_reducible rfl
         simp only [Act.put, lsA, ls0, ls1]
         refine hTk hS 2 59 rfl (v := ?_) ?_ ?_
         rotate_left
         ·intro _ _; go_simp; first | done | with_reducible rfl
         simp only [Act.put, lsA, ls0, ls1]
         refine wpAnyH_ready (rs := [3]) (by kernel_rfl) (by simp) ?_
         refine AllReadyH.cons (o := _) rfl (fun K9 hK9 => ?_) AllReadyH.nil
         go_simp
         refine (number_any w _ hbi.2.2.1 (by omega) (HGL.out (k + 1)) HLD.out rfl hbi.1 (by omega)).mono ?_
         rintro e w7 ⟨rfl, hs7, hx7⟩
         rw [← hn.out]
         try go_wp2_with fail
         replace hbi := hbi.step hs7 hx7 hwr (by omega) (by omega)
         replace hst2 := keepR hst2 hx7 (by omega)
         refine hK9.out _ _ (keepR hS hx7 (by omega)) (fun hS => ?_)
         clear hK9 K9
         try simp only [Act.put, lsA, ls0, ls1]
         clear hx7 hs7
         refine hTk hS 4 61 rfl (v := ?_) ?_ ?_
         rotate_left
         ·intro _ _; go_simp; first | done | with_reducible rfl
         simp only [Act.put, lsA, ls0, ls1]
         have g4 : ∃ u, w7.cell? ⟨sc + 1, 4 + j, none⟩ = some u := by
          rw [hbi.2.2.2.cell]
          exact ⟨_, Array.getElem?_eq_getElem (by show 4 + j < 9; omega)⟩
         obtain ⟨u4, g4⟩ := g4
         have f4 := hbi.2.2.2.frozen (4 + j)
         refine wpAnyH_ready (rs := [5]) (by kernel_rfl) (by simp) ?_
         refine AllReadyH.cons (o := _) rfl (fun K9 hK9 => ?_) AllReadyH.nil
         go_simp
         replace hbi := hbi.set hwr (by omega) hw1 (by omega) (4 + j) (.int .i64 n) HSW.out
         replace hst2 := hst2.setOther (p := ⟨sc + 1, 4 + j, none⟩) (by show h ≠ sc + 1; omega) (.int .i64 n)
         refine hK9.out _ _ (hS.setOther (p := ⟨sc + 1, 4 + j, none⟩) (by show t ≠ sc + 1; omega) (.int .i64 n)) (fun hS => ?_)
         clear hK9 K9
         try simp only [Act.put, lsA, ls0, ls1]
         refine wpAnyH_done (by kernel_rfl) ?_ _
         clear hS
         go_wp2
         go_roundw
         case rel => exact ⟨j + 1, by go_num, by omega, by rw [HB1.out, HB2.out]; exact hbi, hst2⟩
         case measure => simp [intOf]; omega
        ·have hq : (nmT j == y) = false := beq_eq_false_iff_ne.2 (fun e => hyj (by rw [← e]; exact sidx_nm hj5))
         have HB1 := Lib.hid (sidx_if (k + 2) (k + 1) hyj)
         have HB2 := Lib.hid (sidx_if (setW y n b) b hyj)
         generalize (if sidx y < j then k + 2 else k + 1) = k2 at *
         generalize (if sidx y < j then setW y n b else b) = b2 at *
         clear hyj kt
         go_wp2
         go_roundw
         case rel => exact ⟨j + 1, by go_num, by omega, by rw [HB1.out, HB2.out]; exact hbi, hst⟩
         case measure => simp [intOf]; omega
       ·obtain rfl : j = 5 := by omega
        rw [show ((5 : Nat) : Int) = 5 from rfl]
        have HR2 : Hid (runI (ws.drop (if sidx y < 5 then k + 2 else k + 1)) (if sidx y < 5 then setW y n b else b) = wordsI ws) := by
         show _ = _
         rw [← HRN.out]
         split <;> rfl
        have hk2 : k < (if sidx y < 5 then k + 2 else k + 1) := by split <;> omega
        generalize (if sidx y < 5 then k + 2 else k + 1) = k2 at *
        generalize (if sidx y < 5 then setW y n b else b) = b2 at *
        have hs2 := hbi.2.2.1.len
        go_wp2
        go_roundw
        case rel => exact ⟨_, _, hbi, HR2.out⟩
        case measure => omega
     ·have HE : Hid (b = wordsI ws) := by
       show _ = _
       rw [← hrun, runI_over (by omega)]
      have hke : (0 : Int) < ((0 : Nat) : Int) ↔ False := by simp
      obtain ⟨v, ks, hv⟩ := hbi.2.2.1.2.1
      obtain ⟨a0, c0, hc0⟩ : ∃ a c, wr.cell? ⟨sc, 0, none⟩ = some (.slice a 0 c) := by
       rcases hv with ⟨h, _⟩ | ⟨_, a, c, rfl⟩
       ·omega
       ·exact ⟨a, c, ks.cell 0⟩
      clear hke ks hv v
      clear hrun hsl
      rw [HE.out] at hbi
      obtain ⟨d0, d1, d2, d3, d4, d5, d6, d7, d8⟩ := hbi.c9
      have HT := Lib.hid (hbi.laid HLD.out).1
      generalize wordsI ws = B at *
      clear HE HF
      go_wp2_with (fail)
      refine (styled_any B _).mono ?_
      rintro e W8 ⟨rfl, hx8⟩
      replace hbi := hbi.ext hx8
      have HT8 := Lib.hid (HT.out.below hx8 (Nat.le_refl _))
      clear d0 d1 d2 d3 d4 d5 d6 d7 d8 hx8 hc0 HT
      obtain ⟨g0, g1, g2, g3, g4, g5, g6, g7, g8⟩ := hbi.r9
      obtain ⟨z0, z1, z2, z3, z4, z5, z6, z7, z8⟩ := hbi.z9
      cases hok : okB B with
      | false =>
       have HP : Hid (pB s = none) := by
        show _ = _
        rw [HPB.out, if_neg (fun e => by rw [hok] at e; cases e.1)]
       have HX : Hid (Below w.heap.size w (setBx W8 r 0 zb)) := hbi.1.trans (setBx_below _ _ hwr)
       clear hbi HPB hok
       go_wp2
       refine bodyPost_ret (v := resB (pB s)) ?_ rfl ⟨rfl, HX.out⟩
       rw [HP.out]
       simp [results, Tryz.results57, go_sem, resB, Bx.agg, zb, g0, g1, g2, g3, g4, g5, g6, g7, g8]
      | true =>
       obtain ⟨d0, d1, d2, d3, d4, d5, d6, d7, d8⟩ := hbi.c9
       go_wp2_with (fail)
       refine (text_any (b := B) _ hok HT8.out).mono ?_
       rintro e W9 ⟨rfl, hx9⟩
       unfold sv
       replace hbi := hbi.ext hx9
       clear d0 d1 d2 d3 d4 d5 d6 d7 d8 hx9 g0 g1 g2 g3 g4 g5 g6 g7 g8 z0 z1 z2 z3 z4 z5 z6 z7 z8
       obtain ⟨g0, g1, g2, g3, g4, g5, g6, g7, g8⟩ := hbi.r9
       obtain ⟨z0, z1, z2, z3, z4, z5, z6, z7, z8⟩ := hbi.z9
       by_cases hbt : boxT B = s
       ·have HP : Hid (pB s = some B) := by
         show _ = _
         rw [HPB.out, if_pos ⟨hok, hbt⟩]
        obtain ⟨d0, d1, d2, d3, d4, d5, d6, d7, d8⟩ := hbi.c9
        have HX : Hid (Below w.heap.size w (setBx W9 r 0 B)) := hbi.1.trans (setBx_below _ _ hwr)
        have hqb : (boxT B == s) = true := beq_iff_eq.2 hbt
        generalize boxT B = T at *
        clear hbi HPB hok hbt
        go_wp2
        refine bodyPost_ret (v := resB (pB s)) ?_ rfl ⟨rfl, HX.out⟩
        rw [HP.out]
        simp [results, Tryz.results57, go_sem, resB, Bx.agg, zb, g0, g1, g2, g3, g4, g5, g6, g7, g8]
       ·have HP : Hid (pB s = none) := by
         show _ = _
         rw [HPB.out, if_neg (fun e => hbt e.2)]
        have HX : Hid (Below w.heap.size w (setBx W9 r 0 zb)) := hbi.1.trans (setBx_below _ _ hwr)
        have hqb : (boxT B == s) = false := beq_eq_false_iff_ne.2 hbt
        generalize boxT B = T at *
        clear hbi HPB hok hbt
        go_wp2
        refine bodyPost_ret (v := resB (pB s)) ?_ rfl ⟨rfl, HX.out⟩
        rw [HP.out]
        simp [results, Tryz.results57, go_sem, resB, Bx.agg, zb, g0, g1, g2, g3, g4, g5, g6, g7, g8]
   ·have hq : (kTo x 4 == 0) = false := beq_eq_false_iff_ne.2 h0
    have HF : Hid (runI (ws.drop 1) ⟨0, kTo x 4, 0, 0, 0, 0, 0, 0, 0⟩ = wordsI ws) := by
     show _ = _
     unfold wordsI headI
     rw [hxh, if_neg h0, if_neg h0]
    go_upto_region 12 with fail
    clear d1
    go_wp2
    go_loopw [] (fun wr => ∃ (k : Nat) (b : Bx), BI w r (r + 1) sc (sc + 1) ws k b wr ∧ runI (ws.drop k) b = wordsI ws) (fun wr => scLen sc wr)
    case atStart => exact ⟨1, _, hbi, HF.out⟩
    case round =>
     clear hbi
     obtain ⟨k, b, hbi, hrun⟩ := hrel
     have hsl := hbi.2.2.1.len
     by_cases hlt : k < ws.length
     ·obtain ⟨y, hy⟩ : ∃ y, ws[k]? = some y := ⟨_, List.getElem?_eq_getElem hlt⟩
      have hyd : ws.getD k [] = y := by rw [List.getD_eq_getElem?_getD, hy]; rfl
      have HRN := Lib.hid ((runI_step hy b).symm.trans hrun)
      clear hrun
      obtain ⟨v, ks, hv⟩ := hbi.2.2.1.2.1
      have c0 : wr.cell? ⟨sc, 0, none⟩ = some (sl (r + 1) k ws.length) := by
       rcases hv with ⟨_, rfl⟩ | ⟨h, _⟩
       ·exact ks.cell 0
       ·omega
      unfold sl at c0
      clear ks hv v
      have hlp : (0 : Int) < ((ws.length - k : Nat) : Int) := by omega
      go_upto_region 13 with fail
      clear c0 hlp
      go_wp2_with (fail)
      refine (next_any _ hbi.2.2.1 (by omega)).mono ?_
      rintro e w5 ⟨rfl, hs5, hx5⟩
      replace hbi := hbi.step hs5 hx5 hwr (by omega) (by omega)
      rw [hyd]
      clear hs5 hx5 hyd hy
      unfold sv
      go_wp2_with (fail)
      refine (styles_any (sc + 1) _).mono ?_
      rintro e w6 ⟨rfl, hst, hx6⟩
      have hhg : sc + 1 < w5.heap.size := hbi.2.2.2.lt
      replace hbi := hbi.ext hx6
      clear hx6
      generalize w5.heap.size = h at *
      obtain ⟨n, hn⟩ : ∃ n, n = aI (ws.getD (k + 1) []) := ⟨_, rfl⟩
      rw [← hn] at HRN
      replace hn : Hid (n = aI (ws.getD (k + 1) [])) := hn
      go_wp2
      go_loopw [49] (fun i wr => ∃ j : Nat, i = .int .i64 j ∧ j ≤ 5 ∧ BI w r (r + 1) sc (sc + 1) ws (if sidx y < j then k + 2 else k + 1) (if sidx y < j then setW y n b else b) wr ∧ Keep h (.cells #[.string ⟨#[112, 97, 100]⟩, .pointer (some ⟨sc + 1, 4, none⟩), .string ⟨#[103, 97, 112]⟩, .pointer (some ⟨sc + 1, 5, none⟩), .string ⟨#[103, 114, 111, 119]⟩, .pointer (some ⟨sc + 1, 6, none⟩), .string ⟨#[115, 104, 114, 105, 110, 107]⟩, .pointer (some ⟨sc + 1, 7, none⟩), .string ⟨#[106, 117, 115, 116, 105, 102, 121]⟩, .pointer (some ⟨sc + 1, 8, none⟩)] 119) wr) (fun i _ => 5 - (intOf i).toNat)
      case atStart => exact ⟨0, rfl, by omega, hbi, hst⟩
      case round =>
       clear hbi hst
       obtain ⟨j, rfl, hj, hbi, hst⟩ := hrel
       by_cases hj5 : j < 5
       ·have hki : (j : Int) < 5 := by omega
        have hk0 : (0 : Int) ≤ (j : Int) := by omega
        have e0 : wr.cell? ⟨h, j * 2, none⟩ = some (.string ⟨(nmT j).toArray⟩) := by
         rw [hst.cell (j * 2)]
         have : j = 0 ∨ j = 1 ∨ j = 2 ∨ j = 3 ∨ j = 4 := by omega
         rcases this with rfl | rfl | rfl | rfl | rfl <;> rfl
        have e1 : wr.cell? ⟨h, j * 2 + 1, none⟩ = some (.pointer (some ⟨sc + 1, 4 + j, none⟩)) := by
         rw [hst.cell (j * 2 + 1)]
         have : j = 0 ∨ j = 1 ∨ j = 2 ∨ j = 3 ∨ j = 4 := by omega
         rcases this with rfl | rfl | rfl | rfl | rfl <;> rfl
        go_upto_region 17 with fail
        have kt := Keep.new wr (.cells #[.string ⟨(nmT j).toArray⟩, .pointer (some ⟨sc + 1, 4 + j, none⟩)] 119)
        have htg : sc + 1 < wr.heap.size := hbi.2.2.2.lt
        replace hbi := hbi.ext (Below.of_alloc wr (.cells #[.string ⟨(nmT j).toArray⟩, .pointer (some ⟨sc + 1, 4 + j, none⟩)] 119))
        replace hst := hst.alloc (.cells #[.string ⟨(nmT j).toArray⟩, .pointer (some ⟨sc + 1, 4 + j, none⟩)] 119)
        clear e0 e1
        generalize wr.alloc (.cells #[.string ⟨(nmT j).toArray⟩, .pointer (some ⟨sc + 1, 4 + j, none⟩)] 119) = W1 at *
        generalize wr.heap.size = t at *
        have t0 := kt.cell 0
        have t1 := kt.cell 1
        by_cases hyj : sidx y = j
        ·have hym := sidx_lt hyj hj5
         have hq : (nmT j == y) = true := beq_iff_eq.2 hym.symm
         rw [if_neg (by omega), if_neg (by omega)] at hbi
         have HB1 : Hid ((if sidx y < j + 1 then k + 2 else k + 1) = k + 2) := if_pos (by omega)
         have HB2 : Hid ((if sidx y < j + 1 then setW y n b else b) = setW y n b) := if_pos (by omega)
         have HSW := Lib.hid (setW_nm hj5 n b)
         rw [← hym] at HSW
         clear hyj hym
         have hg4 : ∃ u, W1.cell? ⟨sc + 1, 4 + j, none⟩ = some u := by
          rw [hbi.2.2.2.cell]
          exact ⟨_, Array.getElem?_eq_getElem (by show 4 + j < 9; omega)⟩
         go_upto_region 18 with fail
         refine wp_region_held_drew (S := fun w' => Keep t (.cells #[.string ⟨(nmT j).toArray⟩, .pointer (some ⟨sc + 1, 4 + j, none⟩)] 119) w') (by kernel_rfl) kt (fun hS => ?_)
         replace hbi := hbi.drew
         have hst2 : Keep h (.cells #[.string ⟨#[112, 97, 100]⟩, .pointer (some ⟨sc + 1, 4, none⟩), .string ⟨#[103, 97, 112]⟩, .pointer (some ⟨sc + 1, 5, none⟩), .string ⟨#[103, 114, 111, 119]⟩, .pointer (some ⟨sc + 1, 6, none⟩), .string ⟨#[115, 104, 114, 105, 110, 107]⟩, .pointer (some ⟨sc + 1, 7, none⟩), .string ⟨#[106, 117, 115, 116, 105, 102, 121]⟩, .pointer (some ⟨sc + 1, 8, none⟩)] 119) W1.drew := hst
         clear t0 t1 hst kt hg4
         generalize W1.drew = wd at *
         refine hTk hS 0 57 rfl (v := ?_) ?_ ?_
         rotate_left
         ·intro _ _; go_simp; first | done | with_reducible rfl
         simp only [Act.put, lsA, ls0, ls1]
         refine hTk hS 1 58 rfl (v := ?_) ?_ ?_
         rotate_left
         ·intro w9 hS9; have q := hS9.cell 1; go_simp; first | done | with_reducible rfl
         simp only [Act.put, lsA, ls0, ls1]
         refine hTk hS 2 59 rfl (v := ?_) ?_ ?_
         rotate_left
         ·intro _ _; go_simp; first | done | with_reducible rfl
         simp only [Act.put, lsA, ls0, ls1]
         refine wpAnyH_ready (rs := [3]) (by kernel_rfl) (by simp) ?_
         refine AllReadyH.cons (o := _) rfl (fun K9 hK9 => ?_) AllReadyH.nil
         go_simp
         refine (number_any w _ hbi.2.2.1 (by omega) (HGL.out (k + 1)) HLD.out rfl hbi.1 (by omega)).mono ?_
         rintro e w7 ⟨rfl, hs7, hx7⟩
         rw [← hn.out]
         try go_wp2_with fail
         replace hbi := hbi.step hs7 hx7 hwr (by omega) (by omega)
         replace hst2 := keepR hst2 hx7 (by omega)
         refine hK9.out _ _ (keepR hS hx7 (by omega)) (fun hS => ?_)
         clear hK9 K9
         try simp only [Act.put, lsA, ls0, ls1]
         clear hx7 hs7
         refine hTk hS 4 61 rfl (v := ?_) ?_ ?_
         rotate_left
         ·intro _ _; go_simp; first | done | with_reducible rfl
         simp only [Act.put, lsA, ls0, ls1]
         have g4 : ∃ u, w7.cell? ⟨sc + 1, 4 + j, none⟩ = some u := by
          rw [hbi.2.2.2.cell]
          exact ⟨_, Array.getElem?_eq_getElem (by show 4 + j < 9; omega)⟩
         obtain ⟨u4, g4⟩ := g4
         have f4 := hbi.2.2.2.frozen (4 + j)
         refine wpAnyH_ready (rs := [5]) (by kernel_rfl) (by simp) ?_
         refine AllReadyH.cons (o := _) rfl (fun K9 hK9 => ?_) AllReadyH.nil
         go_simp
         replace hbi := hbi.set hwr (by omega) hw1 (by omega) (4 + j) (.int .i64 n) HSW.out
         replace hst2 := hst2.setOther (p := ⟨sc + 1, 4 + j, none⟩) (by show h ≠ sc + 1; omega) (.int .i64 n)
         refine hK9.out _ _ (hS.setOther (p := ⟨sc + 1, 4 + j, none⟩) (by show t ≠ sc + 1; omega) (.int .i64 n)) (fun hS => ?_)
         clear hK9 K9
         try simp only [Act.put, lsA, ls0, ls1]
         refine wpAnyH_done (by kernel_rfl) ?_ _
         clear hS
         go_wp2
         go_roundw
         case rel => exact ⟨j + 1, by go_num, by omega, by rw [HB1.out, HB2.out]; exact hbi, hst2⟩
         case measure => simp [intOf]; omega
        ·have hq : (nmT j == y) = false := beq_eq_false_iff_ne.2 (fun e => hyj (by rw [← e]; exact sidx_nm hj5))
         have HB1 := Lib.hid (sidx_if (k + 2) (k + 1) hyj)
         have HB2 := Lib.hid (sidx_if (setW y n b) b hyj)
         generalize (if sidx y < j then k + 2 else k + 1) = k2 at *
         generalize (if sidx y < j then setW y n b else b) = b2 at *
         clear hyj kt
         go_wp2
         go_roundw
         case rel => exact ⟨j + 1, by go_num, by omega, by rw [HB1.out, HB2.out]; exact hbi, hst⟩
         case measure => simp [intOf]; omega
       ·obtain rfl : j = 5 := by omega
        rw [show ((5 : Nat) : Int) = 5 from rfl]
        have HR2 : Hid (runI (ws.drop (if sidx y < 5 then k + 2 else k + 1)) (if sidx y < 5 then setW y n b else b) = wordsI ws) := by
         show _ = _
         rw [← HRN.out]
         split <;> rfl
        have hk2 : k < (if sidx y < 5 then k + 2 else k + 1) := by split <;> omega
        generalize (if sidx y < 5 then k + 2 else k + 1) = k2 at *
        generalize (if sidx y < 5 then setW y n b else b) = b2 at *
        have hs2 := hbi.2.2.1.len
        go_wp2
        go_roundw
        case rel => exact ⟨_, _, hbi, HR2.out⟩
        case measure => omega
     ·have HE : Hid (b = wordsI ws) := by
       show _ = _
       rw [← hrun, runI_over (by omega)]
      have hke : (0 : Int) < ((0 : Nat) : Int) ↔ False := by simp
      obtain ⟨v, ks, hv⟩ := hbi.2.2.1.2.1
      obtain ⟨a0, c0, hc0⟩ : ∃ a c, wr.cell? ⟨sc, 0, none⟩ = some (.slice a 0 c) := by
       rcases hv with ⟨h, _⟩ | ⟨_, a, c, rfl⟩
       ·omega
       ·exact ⟨a, c, ks.cell 0⟩
      clear hke ks hv v
      clear hrun hsl
      rw [HE.out] at hbi
      obtain ⟨d0, d1, d2, d3, d4, d5, d6, d7, d8⟩ := hbi.c9
      have HT := Lib.hid (hbi.laid HLD.out).1
      generalize wordsI ws = B at *
      clear HE HF
      go_wp2_with (fail)
      refine (styled_any B _).mono ?_
      rintro e W8 ⟨rfl, hx8⟩
      replace hbi := hbi.ext hx8
      have HT8 := Lib.hid (HT.out.below hx8 (Nat.le_refl _))
      clear d0 d1 d2 d3 d4 d5 d6 d7 d8 hx8 hc0 HT
      obtain ⟨g0, g1, g2, g3, g4, g5, g6, g7, g8⟩ := hbi.r9
      obtain ⟨z0, z1, z2, z3, z4, z5, z6, z7, z8⟩ := hbi.z9
      cases hok : okB B with
      | false =>
       have HP : Hid (pB s = none) := by
        show _ = _
        rw [HPB.out, if_neg (fun e => by rw [hok] at e; cases e.1)]
       have HX : Hid (Below w.heap.size w (setBx W8 r 0 zb)) := hbi.1.trans (setBx_below _ _ hwr)
       clear hbi HPB hok
       go_wp2
       refine bodyPost_ret (v := resB (pB s)) ?_ rfl ⟨rfl, HX.out⟩
       rw [HP.out]
       simp [results, Tryz.results57, go_sem, resB, Bx.agg, zb, g0, g1, g2, g3, g4, g5, g6, g7, g8]
      | true =>
       obtain ⟨d0, d1, d2, d3, d4, d5, d6, d7, d8⟩ := hbi.c9
       go_wp2_with (fail)
       refine (text_any (b := B) _ hok HT8.out).mono ?_
       rintro e W9 ⟨rfl, hx9⟩
       unfold sv
       replace hbi := hbi.ext hx9
       clear d0 d1 d2 d3 d4 d5 d6 d7 d8 hx9 g0 g1 g2 g3 g4 g5 g6 g7 g8 z0 z1 z2 z3 z4 z5 z6 z7 z8
       obtain ⟨g0, g1, g2, g3, g4, g5, g6, g7, g8⟩ := hbi.r9
       obtain ⟨z0, z1, z2, z3, z4, z5, z6, z7, z8⟩ := hbi.z9
       by_cases hbt : boxT B = s
       ·have HP : Hid (pB s = some B) := by
         show _ = _
         rw [HPB.out, if_pos ⟨hok, hbt⟩]
        obtain ⟨d0, d1, d2, d3, d4, d5, d6, d7, d8⟩ := hbi.c9
        have HX : Hid (Below w.heap.size w (setBx W9 r 0 B)) := hbi.1.trans (setBx_below _ _ hwr)
        have hqb : (boxT B == s) = true := beq_iff_eq.2 hbt
        generalize boxT B = T at *
        clear hbi HPB hok hbt
        go_wp2
        refine bodyPost_ret (v := resB (pB s)) ?_ rfl ⟨rfl, HX.out⟩
        rw [HP.out]
        simp [results, Tryz.results57, go_sem, resB, Bx.agg, zb, g0, g1, g2, g3, g4, g5, g6, g7, g8]
       ·have HP : Hid (pB s = none) := by
         show _ = _
         rw [HPB.out, if_neg (fun e => hbt e.2)]
        have HX : Hid (Below w.heap.size w (setBx W9 r 0 zb)) := hbi.1.trans (setBx_below _ _ hwr)
        have hqb : (boxT B == s) = false := beq_eq_false_iff_ne.2 hbt
        generalize boxT B = T at *
        clear hbi HPB hok hbt
        go_wp2
        refine bodyPost_ret (v := resB (pB s)) ?_ rfl ⟨rfl, HX.out⟩
        rw [HP.out]
        simp [results, Tryz.results57, go_sem, resB, Bx.agg, zb, g0, g1, g2, g3, g4, g5, g6, g7, g8]
end Go.Proofs.YthkkgleoikpfgaaGreatDoor
