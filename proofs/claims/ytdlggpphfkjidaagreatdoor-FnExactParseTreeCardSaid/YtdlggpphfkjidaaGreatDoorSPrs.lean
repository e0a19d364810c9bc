/-
  Reading texts back, of the reference: splitAt, parseInt.
-/
import Derived.Test.YtdlggpphfkjidaaGreatDoorSTxt
import Derived.Test.YtdlggpphfkjidaaGreatDoorPrs
namespace Go.Proofs.YtdlggpphfkjidaaGreatDoor
open Go Go.RowKit

/-! ### splitting, step by step -/
/-- the pieces that end before place i, and where the last piece begins -/
def cutTo (c : UInt8) (s : List UInt8) : Nat → List (List UInt8) × Nat
  | 0 => ([], 0)
  | i + 1 => if s[i]? = some c then ((cutTo c s i).1 ++ [(s.drop (cutTo c s i).2).take (i - (cutTo c s i).2)], i + 1) else cutTo c s i
theorem cutTo_le (c : UInt8) (s : List UInt8) : ∀ i, (cutTo c s i).2 ≤ i
  | 0 => Nat.le_refl _
  | i + 1 => by
    have := cutTo_le c s i
    unfold cutTo
    split
    · exact Nat.le_refl _
    · omega
theorem cutTo_length (c : UInt8) (s : List UInt8) : ∀ i, (cutTo c s i).1.length ≤ i
  | 0 => Nat.le_refl _
  | i + 1 => by
    have := cutTo_length c s i
    unfold cutTo
    split
    · rw [List.length_append, List.length_singleton]
      omega
    · omega
theorem cutTo_yes {c : UInt8} {s : List UInt8} {i : Nat} (h : s[i]? = some c) : cutTo c s (i + 1) = ((cutTo c s i).1 ++ [(s.drop (cutTo c s i).2).take (i - (cutTo c s i).2)], i + 1) := by
  conv => lhs; unfold cutTo
  rw [if_pos h]
theorem cutTo_no {c : UInt8} {s : List UInt8} {i : Nat} (h : s[i]? ≠ some c) : cutTo c s (i + 1) = cutTo c s i := by
  conv => lhs; unfold cutTo
  rw [if_neg h]
/-- no byte c from the last piece's beginning to place i -/
theorem cutTo_free (c : UInt8) (s : List UInt8) : ∀ i, ∀ j, (cutTo c s i).2 ≤ j → j < i → s[j]? ≠ some c
  | 0, _, _, h => by omega
  | i + 1, j, h1, h2 => by
    by_cases hc : s[i]? = some c
    · rw [cutTo_yes hc] at h1
      dsimp only at h1
      omega
    · rw [cutTo_no hc] at h1
      by_cases e : j = i
      · subst e
        exact hc
      · exact cutTo_free c s i j h1 (by omega)
/-- the pieces before place i, and the pieces of what is left, are all pieces -/
theorem cutTo_split (c : UInt8) (s : List UInt8) : ∀ i, i ≤ s.length → (cutTo c s i).1 ++ splitB c (s.drop (cutTo c s i).2) = splitB c s
  | 0, _ => by simp [cutTo]
  | i + 1, hi => by
    have ih := cutTo_split c s i (by omega)
    by_cases hc : s[i]? = some c
    · have hle := cutTo_le c s i
      have hfree := cutTo_free c s i
      rw [cutTo_yes hc, ← ih]
      generalize (cutTo c s i).2 = f at *
      dsimp only
      rw [List.append_assoc]
      congr 1
      have e : s.drop f = (s.drop f).take (i - f) ++ c :: s.drop (i + 1) := by
        conv => lhs; rw [← List.take_append_drop (i - f) (s.drop f)]
        congr 1
        rw [List.drop_drop, show f + (i - f) = i by omega]
        obtain ⟨h1, h2⟩ := List.getElem?_eq_some_iff.1 hc
        rw [← h2]
        exact List.drop_eq_getElem_cons h1
      conv => rhs; rw [e]
      rw [splitB_app c _ _ (fun y hy => by
        obtain ⟨j, hj⟩ := List.getElem?_of_mem hy
        rintro rfl
        have hjl := (List.getElem?_eq_some_iff.1 hj).1
        rw [List.length_take] at hjl
        rw [List.getElem?_take, if_pos (by omega), List.getElem?_drop] at hj
        exact hfree (f + j) (by omega) (by omega) hj)]
      rfl
    · rw [cutTo_no hc]
      exact ih
theorem cut_all (c : UInt8) (s : List UInt8) : (cutTo c s s.length).1 ++ [s.drop (cutTo c s s.length).2] = splitB c s := by
  have h := cutTo_split c s s.length (Nat.le_refl _)
  rw [splitB_word c (s.drop (cutTo c s s.length).2) (fun y hy => by
    obtain ⟨j, hj⟩ := List.getElem?_of_mem hy
    rintro rfl
    rw [List.getElem?_drop] at hj
    have hjl := (List.getElem?_eq_some_iff.1 hj).1
    exact cutTo_free y s s.length _ (by omega) hjl hj)] at h
  exact h
theorem ba_extract (s : List UInt8) (f k : Nat) : (⟨s.toArray⟩ : ByteArray).extract f k = ⟨((s.drop f).take (k - f)).toArray⟩ := by
  apply ByteArray.ext
  simp [List.extract]
set_option maxRecDepth 100000 in
set_option maxHeartbeats 1600000 in
theorem splitAt_any (s : List UInt8) (c : UInt8) (w : World) (hs : s.length ≤ 2000000) :
    Calls Tryz.prog 30 #[.string ⟨s.toArray⟩, .int .u8 (c.toNat : Int)] w fun e w' => ∃ v', e = .returned v' ∧ Own w' w.heap.size 1 v' (Ss (splitB c s)) ∧ Ext w w' := by
  have HA := Lib.hid (cut_all c s)
  go_enter Tryz.func30, Tryz.ntmps30
  go_wp2
  go_loopw [5, 6, 7] (fun o f i wr => ∃ k : Nat, i = .int .i64 k ∧ k ≤ s.length ∧ f = .int .i64 ((cutTo c s k).2 : Nat) ∧ Own wr w.heap.size 1 o (Ss (cutTo c s k).1) ∧ Below w.heap.size w wr) (fun _ _ i _ => s.length - (intOf i).toNat)
  case atStart => exact ⟨0, rfl, Nat.zero_le _, rfl, Own.empty _ _ _ _, Below.of_alloc _ _⟩
  case round =>
    obtain ⟨k, rfl, hk, rfl, ho, hb⟩ := hrel
    have hle := cutTo_le c s k
    have hcl := cutTo_length c s k
    have hsz := hb.size
    by_cases hlt : k < s.length
    · have hki : (k : Int) < s.length := by omega
      obtain ⟨d, hd⟩ : ∃ d, s[k]? = some d := ⟨_, List.getElem?_eq_getElem hlt⟩
      have hz0 : k < (⟨s.toArray⟩ : ByteArray).size := by show k < s.length; omega
      have e0 := byte_at hd hz0
      by_cases hdc : d = c
      · subst hdc
        have HY := Lib.hid (cutTo_yes hd)
        have HPC := Lib.hid (ba_extract s (cutTo d s k).2 k)
        generalize (cutTo d s k).1 = C at *
        generalize (cutTo d s k).2 = f at *
        generalize (s.drop f).take (k - f) = P at *
        have hf0 : (0 : Int) ≤ (f : Int) := by omega
        clear hd
        go_wp2_with (at_builtin; rw [HPC.out]; refine wpList_app rfl _ _ _ rfl el_str rfl (ho.alloc _) rfl (show Rd _ 1 _ (Ss [P]) from Rd.oneAt _ _ rfl) (Ss_one _) ?hl ?hb ?hK)
        case hl => rw [Ss_length, Ss_length]; simp only [List.length_cons, List.length_nil]; omega
        case hb => simp; omega
        intro v' w9 ho9 hg9 hf9
        have hb9 := below_app (hb.alloc hsz _) (ho.alloc _) hg9 (by simp; omega) (Nat.le_refl _)
        rw [← Ss_append] at ho9
        clear ho hb hg9 hf9
        go_wp2
        go_roundw
        case rel => exact ⟨k + 1, by go_num, by omega, by rw [HY.out]; go_num, by rw [HY.out]; exact ho9, hb9⟩
        case measure => simp [intOf]; omega
      · have n0 : ((d.toNat : Int) == (c.toNat : Int)) = false := byte_ne hdc
        have HN := Lib.hid (cutTo_no (c := c) (s := s) (i := k) (by rw [hd]; intro e; exact hdc (Option.some.inj e)))
        clear hd hdc
        go_wp2
        go_roundw
        case rel => exact ⟨k + 1, by go_num, by omega, by rw [HN.out], by rw [HN.out]; exact ho, hb⟩
        case measure => simp [intOf]; omega
    · obtain rfl : k = s.length := by omega
      have HPC := Lib.hid ((ba_extract s (cutTo c s s.length).2 s.length).trans (by rw [← List.length_drop, List.take_length]))
      generalize (cutTo c s s.length).1 = C at *
      generalize (cutTo c s s.length).2 = f at *
      generalize s.drop f = P at *
      have hf0 : (0 : Int) ≤ (f : Int) := by omega
      go_wp2_with (at_builtin; rw [HPC.out]; refine wpList_app rfl _ _ _ rfl el_str rfl (ho.alloc _) rfl (show Rd _ 1 _ (Ss [P]) from Rd.oneAt _ _ rfl) (Ss_one _) ?hl2 ?hb2 ?hK2)
      case hl2 => rw [Ss_length, Ss_length]; simp only [List.length_cons, List.length_nil]; omega
      case hb2 => simp; omega
      intro v' w9 ho9 hg9 hf9
      have hb9 := below_app (hb.alloc hsz _) (ho.alloc _) hg9 (by simp; omega) (Nat.le_refl _)
      rw [← Ss_append, HA.out] at ho9
      clear ho hb hg9 hf9
      go_wp2
      go_ret
      exact ⟨_, rfl, ho9, hb9⟩
end Go.Proofs.YtdlggpphfkjidaaGreatDoor
