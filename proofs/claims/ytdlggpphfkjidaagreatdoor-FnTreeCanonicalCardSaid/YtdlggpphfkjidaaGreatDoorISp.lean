/-
  The library's strings.Split at one byte: genSplit walked.
-/
import Derived.Deep.Cut
import Derived.IntWalk
import Derived.Lib.IndexLaws
import Derived.Test.YtdlggpphfkjidaaGreatDoorINx
import Derived.Test.YtdlggpphfkjidaaGreatDoorSPrs
import Derived.Test.YtdlggpphfkjidaaGreatDoorMake
namespace Go.Proofs.YtdlggpphfkjidaaGreatDoor
open Go Go.RowKit

theorem splitB_nex (c : UInt8) (s : List UInt8) : ∃ h r, splitB c s = h :: r := by
  cases h : splitB c s with
  | nil => exact absurd h (splitB_ne c s)
  | cons a b => exact ⟨a, b, rfl⟩
theorem splitB_num (c : UInt8) : ∀ s : List UInt8, (splitB c s).length = s.count c + 1
  | [] => rfl
  | x :: t => by
    have ih := splitB_num c t
    unfold splitB
    by_cases h : x = c
    · rw [if_pos h, List.length_cons, ih, h, List.count_cons_self]
    · rw [if_neg h, List.count_cons_of_ne h]
      obtain ⟨a, r, e⟩ := splitB_nex c t
      rw [e] at ih ⊢
      exact ih
theorem idx_hit {s : List UInt8} {c : UInt8} {o : Nat} (h : Lib.indexByte s c = o) : o < s.length ∧ splitB c s = s.take o :: splitB c (s.drop (o + 1)) ∧ s.count c = (s.drop (o + 1)).count c + 1 := by
  obtain ⟨h1, h2⟩ := Lib.indexByte_some h
  obtain ⟨hl, hx⟩ := List.getElem?_eq_some_iff.1 h1
  have e : s = s.take o ++ c :: s.drop (o + 1) := by
    conv => lhs; rw [← List.take_append_drop o s]
    congr 1
    rw [← hx]
    exact List.drop_eq_getElem_cons hl
  have hs : splitB c s = s.take o :: splitB c (s.drop (o + 1)) := by
    conv => lhs; rw [e]
    refine splitB_app c _ _ fun y hy => ?_
    obtain ⟨j, hj⟩ := List.getElem?_of_mem hy
    rintro rfl
    have hjl := (List.getElem?_eq_some_iff.1 hj).1
    rw [List.length_take] at hjl
    rw [List.getElem?_take, if_pos (by omega)] at hj
    exact h2 j (by omega) hj
  refine ⟨hl, hs, ?_⟩
  have n1 := splitB_num c s
  have n2 := splitB_num c (s.drop (o + 1))
  rw [hs, List.length_cons] at n1
  omega
theorem idx_miss {s : List UInt8} {c : UInt8} (h : Lib.indexByte s c = -1) : s.count c = 0 ∧ splitB c s = [s] := by
  have h2 := Lib.indexByte_none h
  have hs := splitB_word c s fun y hy e => by
    obtain ⟨j, hj⟩ := List.getElem?_of_mem hy
    subst e
    exact h2 j hj
  refine ⟨?_, hs⟩
  have n1 := splitB_num c s
  rw [hs] at n1
  simp at n1
  omega
theorem idx_of {s : List UInt8} {c : UInt8} (h : 0 < s.count c) : ∃ o : Nat, Lib.indexByte s c = o := by
  have hge := Lib.indexByte_ge s c
  by_cases e : Lib.indexByte s c = -1
  · have := (idx_miss e).1
    omega
  · exact ⟨(Lib.indexByte s c).toNat, by omega⟩
/-- the pieces so far, and room for the others -/
def fillTo (done : List (List UInt8)) (n : Nat) : Array Value := (Ss done ++ List.replicate (n - done.length) (Value.string ⟨#[]⟩)).toArray
theorem fill_store (done : List (List UInt8)) (x : List UInt8) {n : Nat} (h : done.length < n) : (fillTo done n).setIfInBounds done.length (sv x) = fillTo (done ++ [x]) n := by
  unfold fillTo
  obtain ⟨m, hm⟩ : ∃ m, n - done.length = m + 1 := ⟨n - done.length - 1, by omega⟩
  rw [List.setIfInBounds_toArray, hm, List.length_append, List.length_singleton, show n - (done.length + 1) = m by omega, List.set_append_right _ _ (by rw [Ss_length]; exact Nat.le_refl _), Ss_length, Nat.sub_self, List.replicate_succ, List.set_cons_zero, Ss_append, List.append_assoc]
  rfl
theorem fill_full (done : List (List UInt8)) : fillTo done done.length = (Ss done).toArray := by
  unfold fillTo
  rw [Nat.sub_self, List.replicate_zero, List.append_nil]
theorem fill_nil (n : Nat) : fillTo [] n = madeCells #[Value.string ⟨#[]⟩] n := by
  apply Array.toList_inj.1
  rw [madeCells_list]
  unfold fillTo
  rw [List.length_nil, Nat.sub_zero]
  show [] ++ List.replicate n (Value.string ⟨#[]⟩) = _
  rw [List.nil_append]
  apply List.ext_getElem?
  intro i
  by_cases hi : i < n
  · rw [List.getElem?_map, List.getElem?_range hi, List.getElem?_replicate, if_pos hi]
    simp [Nat.mod_one]
  · rw [List.getElem?_eq_none (by simp; omega), List.getElem?_eq_none (by simp; omega)]
theorem ba_take (s : List UInt8) (k : Nat) : (⟨s.toArray⟩ : ByteArray).extract 0 k = ⟨(s.take k).toArray⟩ := ba_extract s 0 k
theorem ba_drop (s : List UInt8) (k : Nat) : (⟨s.toArray⟩ : ByteArray).extract k s.length = ⟨(s.drop k).toArray⟩ := (ba_extract s k s.length).trans (by rw [← List.length_drop, List.take_length])
theorem mk_big {P : Program} {t e : TypeId} {z : Value} {size bytes : Nat} (E : EL P t e z size bytes) (n : Nat) (hc : n ≤ 4194304) (W : World) :
    (Instr.makeSlice t (.int .i64 (n : Int)) (.int .i64 (n : Int))).run P W = .ok (.slice (some ⟨W.heap.size, 0, none⟩) n n) (W.alloc (.cells (madeCells z.cells (n * size)) e)) := by
  obtain ⟨i, hi, hz, hsz, hby⟩ := E.info
  have hsm := E.small
  have hb : (i.bytes : Int) * (n : Int) ≤ 281474976710656 := by
    have h1 : i.bytes * n ≤ 1024 * 4194304 := Nat.mul_le_mul (by omega) hc
    have h : ((i.bytes * n : Nat) : Int) ≤ 281474976710656 := by omega
    rwa [Int.natCast_mul] at h
  have hr := run_make (P := P) W t e i z E.und hi hz .i64 .i64 n n (by omega) (by omega) hb (by omega)
  simp only [Int.toNat_natCast, hsz] at hr
  exact hr
set_option maxRecDepth 100000 in
set_option maxHeartbeats 1600000 in
theorem genSplit_any (s : List UInt8) (c : UInt8) (w : World) (hs : s.length ≤ 2000000) :
    Calls Tryz.prog 84 #[.string ⟨s.toArray⟩, .string ⟨#[c]⟩, .int .i64 0, .int .i64 (-1)] w fun e w' => e = .returned (.slice (some ⟨w.heap.size, 0, none⟩) (splitB c s).length (splitB c s).length) ∧ Keep w.heap.size (.cells (Ss (splitB c s)).toArray 9) w' ∧ Ext w w' := by
  have hn := splitB_num c s
  have hcl := List.count_le_length (a := c) (l := s)
  have HC := Lib.hid (fun w => Tryz.strings_Count_one ⟨s.toArray⟩ c w)
  obtain ⟨L, hL⟩ : ∃ L, L = splitB c s := ⟨_, rfl⟩
  have HL0 : Hid (splitB c s = L) := hL.symm
  rw [← hL] at hn ⊢
  obtain ⟨n, hnn⟩ : ∃ n, s.count c = n := ⟨_, rfl⟩
  have HN0 : Hid (s.count c = n) := hnn
  have HN1 : Hid (Lib.countByte (⟨s.toArray⟩ : ByteArray).data.toList c = n) := hnn
  rw [hnn] at hn hcl
  rw [hn]
  clear hL hnn
  go_enter Tryz.func84, Tryz.ntmps84
  go_wp2_with (fail)
  refine (HC.out _).mono ?_
  rintro e w1 ⟨rfl, rfl⟩
  rw [HN1.out]
  clear HC HN1
  have hmin : min (n : Int) (s.length : Int) = n := Int.min_eq_left (by omega)
  have hmn : (n : Int) ≤ s.length := by omega
  have hc0 : (0 : Int) ≤ (n : Int) := by omega
  go_upto_region 8 with fail
  obtain ⟨N, hN⟩ : ∃ N, N = n + 1 := ⟨_, rfl⟩
  have hmk := fun W => mk_big (P := Tryz.prog) el_str N (by omega) W
  have hNi : (n : Int) + 1 = N := by omega
  rw [hNi]
  have hN0 : (0 : Int) ≤ (N : Int) := by omega
  have hNm : (N : Int) ≤ 2000001 := by omega
  replace hN : Hid (N = n + 1) := hN
  clear hmin hNi
  go_upto_region 10 with fail
  rw [show (N : Int) - 1 = n by have := hN.out; omega, ← fill_nil]
  have hx0 := Below.of_alloc w1 (.cells (fillTo [] N) 9)
  have kx0 := Keep.new w1 (.cells (fillTo [] N) 9)
  generalize w1.alloc (.cells (fillTo [] N) 9) = W0 at *
  generalize hgg : w1.heap.size = g at *
  clear hmk
  go_wp2
  go_loopw [0, 10] (fun u i wr => ∃ (done : List (List UInt8)) (r : List UInt8), i = .int .i64 done.length ∧ u = .string ⟨r.toArray⟩ ∧ done ++ splitB c r = L ∧ done.length + r.count c = n ∧ r.length ≤ 2000000 ∧ Keep g (.cells (fillTo done N) 9) wr ∧ Below g w1 wr) (fun _ i _ => n - (intOf i).toNat)
  case atStart => exact ⟨[], s, rfl, rfl, by rw [← HL0.out]; rfl, by rw [← HN0.out]; simp, hs, kx0, hx0⟩
  case round =>
    obtain ⟨done, r, rfl, rfl, hdl, hdn, hr, kx, hb⟩ := hrel
    have HI := Lib.hid (fun w => Tryz.strings_Index_one ⟨r.toArray⟩ c w)
    by_cases hlt : done.length < n
    · have hki : (done.length : Int) < n := by omega
      obtain ⟨o, ho⟩ := idx_of (s := r) (c := c) (by omega)
      obtain ⟨hol, hsp, hct⟩ := idx_hit ho
      have HO : Hid (Lib.indexByte (⟨r.toArray⟩ : ByteArray).data.toList c = (o : Int)) := ho
      clear ho
      go_wp2_with (fail)
      refine (HI.out _).mono ?_
      rintro e w4 ⟨rfl, rfl⟩
      rw [HO.out]
      clear HO HI
      have hzr : (⟨r.toArray⟩ : ByteArray).size = r.length := rfl
      have hdN : done.length < N := by have := hN.out; omega
      have hki2 : (done.length : Int) < N := by omega
      have f0 := kx.frozen done.length
      have c0 : ∃ x, w4.cell? ⟨g, done.length, none⟩ = some x := by
        rw [kx.cell done.length]
        refine ⟨_, Array.getElem?_eq_getElem ?_⟩
        unfold fillTo
        rw [List.size_toArray, List.length_append, Ss_length, List.length_replicate]
        omega
      obtain ⟨x0, c0⟩ := c0
      have KS := Lib.hid (kx.store done.length (sv (r.take o)))
      have HS := Lib.hid (fill_store done (r.take o) hdN)
      have BS := Lib.hid (hb.setCell (p := ⟨g, done.length, none⟩) (Nat.le_refl _) (sv (r.take o)))
      have HT := Lib.hid (ba_take r o)
      have HD := Lib.hid (ba_drop r (o + 1))
      have hli : (o : Int) < r.length := by omega
      have hl0 : (0 : Int) ≤ o := by omega
      have hli1 : (o : Int) + 1 ≤ r.length := by omega
      clear kx hb
      go_wp2
      replace HS := HS.out
      replace KS := KS.out
      rw [HS] at KS
      go_roundw
      case rel =>
        refine ⟨done ++ [r.take o], r.drop (o + 1), by simp, by first | (rw [HD.out]; done) | (rw [← HD.out]; rfl), by rw [List.append_assoc, ← hdl, hsp]; try rfl, by rw [List.length_append, List.length_singleton]; omega, by rw [List.length_drop]; omega, ?_, ?_⟩
        · first | (rw [HT.out]; exact KS) | exact KS
        · first | (rw [HT.out]; exact BS.out) | exact BS.out
      case measure => simp [intOf]; omega
    · obtain rfl : n = done.length := by omega
      have hct : r.count c = 0 := by omega
      have hsp : splitB c r = [r] := by
        refine (idx_miss (s := r) (c := c) ?_).2
        by_cases e : Lib.indexByte r c = -1
        · exact e
        · have hge := Lib.indexByte_ge r c
          have := (idx_hit (s := r) (c := c) (o := (Lib.indexByte r c).toNat) (by omega)).2.2
          omega
      rw [hsp] at hdl
      have hdN : done.length < N := by have := hN.out; omega
      have hki2 : (done.length : Int) < N := by omega
      have hki3 : (done.length : Int) + 1 ≤ N := by omega
      have f0 := kx.frozen done.length
      have c0 : ∃ x, wr.cell? ⟨g, done.length, none⟩ = some x := by
        rw [kx.cell done.length]
        refine ⟨_, Array.getElem?_eq_getElem ?_⟩
        unfold fillTo
        rw [List.size_toArray, List.length_append, Ss_length, List.length_replicate]
        omega
      obtain ⟨x0, c0⟩ := c0
      have KS := kx.store done.length (sv r)
      rw [fill_store done r hdN, hdl, hN.out, ← hn, fill_full] at KS
      have BS := Lib.hid (hb.setCell (p := ⟨g, done.length, none⟩) (Nat.le_refl _) (sv r))
      replace KS := Lib.hid KS
      have HL1 := Lib.hid hn
      clear kx hb HI hdl hdn hsp hct hn
      go_wp2
      go_ret
      subst hgg
      refine ⟨?_, KS.out, BS.out⟩
      obtain rfl := hN.out
      first | rfl | (congr 1; simp)
theorem split_any (s : List UInt8) (c : UInt8) (w : World) (hs : s.length ≤ 2000000) :
    Calls Tryz.prog 62 #[.string ⟨s.toArray⟩, .string ⟨#[c]⟩] w fun e w' => e = .returned (.slice (some ⟨w.heap.size, 0, none⟩) (splitB c s).length (splitB c s).length) ∧ Keep w.heap.size (.cells (Ss (splitB c s)).toArray 9) w' ∧ Ext w w' := by
  have HG := Lib.hid (fun w => genSplit_any s c w hs)
  go_enter Tryz.func62, Tryz.ntmps62
  go_wp2_with (fail)
  refine (HG.out _).mono ?_
  rintro e w1 ⟨rfl, kx, hx⟩
  clear HG
  obtain ⟨n, hn⟩ : ∃ n, n = (splitB c s).length := ⟨_, rfl⟩
  rw [← hn]
  replace hn : Hid (n = (splitB c s).length) := hn
  go_wp2
  go_ret
  exact ⟨by rw [← hn.out]; rfl, kx, hx⟩
end Go.Proofs.YtdlggpphfkjidaaGreatDoor
