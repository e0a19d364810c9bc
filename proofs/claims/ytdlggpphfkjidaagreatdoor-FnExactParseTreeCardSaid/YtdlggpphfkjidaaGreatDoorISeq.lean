/-
  The library's strings.SplitSeq at one byte: its iterator walked, round by round.
-/
import Derived.RangeFuncNested
import Derived.RangeFuncBound
import Derived.RangeFuncCalls
import Derived.RangeFuncLeaves
import Derived.Shelf.Abstract
import Derived.WalkKit
import Derived.OwnWalkIn
import Derived.TacticsInMore
import Derived.LoopNIn
import Derived.LoopIn
import Derived.Sort.CutIn
import Derived.Test.YtdlggpphfkjidaaGreatDoorRng
import Derived.Test.YtdlggpphfkjidaaGreatDoorISp
namespace Go.Proofs.YtdlggpphfkjidaaGreatDoor
open Go Go.RowKit
attribute [local go_sem] Oper.semAt_some

/-- a text as a value -/
def encB (x : List UInt8) : Value := .string ⟨x.toArray⟩
/-- the length of the text in block b -/
def strLen (b : Nat) (w : World) : Nat := match w.cell? ⟨b, 0, none⟩ with
  | some (.string s) => s.size
  | _ => 0
theorem strLen_keep {b : Nat} {r : List UInt8} {t : TypeId} {w : World} (h : Keep b (.cells #[encB r] t) w) : strLen b w = r.length := by
  unfold strLen
  rw [h.cell 0]
  rfl
/-- the iterator's three blocks lie as they lay -/
def Three (b : Nat) (W W' : World) : Prop := W'.heap[b]? = W.heap[b]? ∧ W'.heap[b + 1]? = W.heap[b + 1]? ∧ W'.heap[b + 2]? = W.heap[b + 2]?
set_option maxRecDepth 100000 in
set_option maxHeartbeats 1600000 in
theorem seq_runs (s : List UInt8) (c : UInt8) (b : Nat) (W : World) (hs : s.length ≤ 2000000) (k0 : Keep b (.cells #[encB s] 9) W) (k1 : Keep (b + 1) (.cells #[.string ⟨#[c]⟩] 9) W) (k2 : Keep (b + 2) (.cells #[.int .i64 0] 3) W) :
    Runs Tryz.prog 79 #[.pointer (some ⟨b + 1, 0, none⟩), .pointer (some ⟨b, 0, none⟩), .pointer (some ⟨b + 2, 0, none⟩)] encB b (Three b) (splitB c s) W := by
  intro l J Jx hJ hY h0
  refine callsIn_of_wp Tryz.func79 rfl trivial ?_ rfl
  simp only [Tryz.ntmps79, List.size_toArray, List.length_cons, List.length_nil, Nat.reduceAdd, Nat.reduceSub, Array.replicate_succ, Array.replicate_zero, List.push_toArray, List.append_toArray, List.nil_append, List.cons_append]
  have c1 : W.cell? ⟨b + 1, 0, none⟩ = some (.string ⟨#[c]⟩) := k1.cell 0
  gi_wp2
  clear c1
  gi_loopw [] (fun wr => ∃ (pre : List (List UInt8)) (r : List UInt8), Keep b (.cells #[encB r] 9) wr ∧ Keep (b + 1) (.cells #[.string ⟨#[c]⟩] 9) wr ∧ Keep (b + 2) (.cells #[.int .i64 0] 3) wr ∧ J pre wr ∧ splitB c s = pre ++ splitB c r ∧ r.length ≤ 2000000) (fun wr => strLen b wr)
  case atStart => exact ⟨[], s, k0, k1, k2, h0, rfl, hs⟩
  case round =>
    clear k0 k1 k2 h0
    obtain ⟨pre, r, k0, k1, k2, hj, hsp, hr⟩ := hrel
    have hsl := strLen_keep k0
    have c0 : wr.cell? ⟨b, 0, none⟩ = some (.string ⟨r.toArray⟩) := k0.cell 0
    have c1 : wr.cell? ⟨b + 1, 0, none⟩ = some (.string ⟨#[c]⟩) := k1.cell 0
    have c2 : wr.cell? ⟨b + 2, 0, none⟩ = some (.int .i64 0) := k2.cell 0
    have HI := Lib.hid (fun w => Tryz.strings_Index_one ⟨r.toArray⟩ c w)
    by_cases hm : Lib.indexByte r c = -1
    · obtain ⟨_, hone⟩ := idx_miss hm
      rw [hone] at hsp
      have HO : Hid (Lib.indexByte (⟨r.toArray⟩ : ByteArray).data.toList c = -1) := hm
      obtain ⟨fn, tmps, assign, body, hy, hR⟩ := hY pre r [] wr hsp hj
      clear hm hone hsl
      gi_wp2_with (fail)
      refine ⟨trivial, callsIn_wide.2 ((HI.out _).mono ?_)⟩
      rintro e w4 ⟨rfl, rfl⟩
      rw [HO.out]
      clear HI HO
      unfold encB at hy
      gi_wp2
      refine hR.mono ?_
      rintro e W3 (⟨rfl, hj3, hk3⟩ | ⟨rfl, hj3⟩)
      · gi_wp2
        go_end0
        exact ⟨⟨_, rfl⟩, .inl (by rw [hsp]; exact hj3)⟩
      · gi_wp2
        go_end0
        exact ⟨⟨_, rfl⟩, .inr ⟨_, hj3⟩⟩
    · have hge := Lib.indexByte_ge r c
      obtain ⟨o, ho⟩ : ∃ o : Nat, Lib.indexByte r c = o := ⟨(Lib.indexByte r c).toNat, by omega⟩
      obtain ⟨hol, hspr, _⟩ := idx_hit ho
      rw [hspr] at hsp
      have HO : Hid (Lib.indexByte (⟨r.toArray⟩ : ByteArray).data.toList c = (o : Int)) := ho
      obtain ⟨fn, tmps, assign, body, hy, hR⟩ := hY pre (r.take o) _ wr hsp hj
      have hzr : (⟨r.toArray⟩ : ByteArray).size = r.length := rfl
      have hli : (o : Int) < r.length := by omega
      have hl0 : (0 : Int) ≤ o := by omega
      have hli1 : (o : Int) + 1 ≤ r.length := by omega
      have HT := Lib.hid (ba_take r o)
      have HD := Lib.hid (ba_drop r (o + 1))
      unfold encB at hy
      rw [← HT.out] at hy
      clear ho hm hge hspr
      gi_wp2_with (fail)
      refine ⟨trivial, callsIn_wide.2 ((HI.out _).mono ?_)⟩
      rintro e w4 ⟨rfl, rfl⟩
      rw [HO.out]
      clear HI HO
      gi_wp2
      refine hR.mono ?_
      rintro e W3 (⟨rfl, hj3, hk30, hk31, hk32⟩ | ⟨rfl, hj3⟩)
      · replace k0 : Keep b (.cells #[encB r] 9) W3 := hk30.trans k0
        replace k1 : Keep (b + 1) (.cells #[.string ⟨#[c]⟩] 9) W3 := hk31.trans k1
        replace k2 : Keep (b + 2) (.cells #[.int .i64 0] 3) W3 := hk32.trans k2
        clear c0 c1 c2 hy hR
        have c0 : W3.cell? ⟨b, 0, none⟩ = some (.string ⟨r.toArray⟩) := k0.cell 0
        have f0 := k0.frozen 0
        have c1 : W3.cell? ⟨b + 1, 0, none⟩ = some (.string ⟨#[c]⟩) := k1.cell 0
        gi_wp2
        rw [HD.out]
        have k0' : Keep b (.cells #[encB (r.drop (o + 1))] 9) (W3.setCell ⟨b, 0, none⟩ (.string ⟨(r.drop (o + 1)).toArray⟩)) := k0.store 0 _
        go_roundw
        case rel => exact ⟨pre ++ [r.take o], r.drop (o + 1), k0', k1.setOther (p := ⟨b, 0, none⟩) (by show b + 1 ≠ b; omega) _, k2.setOther (p := ⟨b, 0, none⟩) (by show b + 2 ≠ b; omega) _, hJ _ _ _ hj3, by rw [hsp, List.append_assoc]; rfl, by rw [List.length_drop]; omega⟩
        case measure => rw [strLen_keep k0', List.length_drop]; omega
      · gi_wp2
        refine bodyPost_ret (results_none rfl _ _ _) rfl ?_
        exact ⟨⟨_, rfl⟩, .inr ⟨_, hj3⟩⟩
theorem splitSeq_any (s : List UInt8) (c : UInt8) (w : World) :
    Calls Tryz.prog 57 #[.string ⟨s.toArray⟩, .string ⟨#[c]⟩, .int .i64 0] w fun e w' => e = .returned (.func (.func 79) #[] #[.pointer (some ⟨w.heap.size + 1, 0, none⟩), .pointer (some ⟨w.heap.size, 0, none⟩), .pointer (some ⟨w.heap.size + 2, 0, none⟩)]) ∧ w' = ((w.alloc (.cells #[.string ⟨s.toArray⟩] 9)).alloc (.cells #[.string ⟨#[c]⟩] 9)).alloc (.cells #[.int .i64 0] 3) := by
  go_enter Tryz.func57, Tryz.ntmps57
  go_wp2
  go_ret
  exact ⟨rfl, rfl⟩
theorem SplitSeq_any (s : List UInt8) (c : UInt8) (w : World) :
    Calls Tryz.prog 26 #[.string ⟨s.toArray⟩, .string ⟨#[c]⟩] w fun e w' => e = .returned (.func (.func 79) #[] #[.pointer (some ⟨w.heap.size + 1, 0, none⟩), .pointer (some ⟨w.heap.size, 0, none⟩), .pointer (some ⟨w.heap.size + 2, 0, none⟩)]) ∧ w' = ((w.alloc (.cells #[.string ⟨s.toArray⟩] 9)).alloc (.cells #[.string ⟨#[c]⟩] 9)).alloc (.cells #[.int .i64 0] 3) := by
  have HG := Lib.hid (splitSeq_any s c)
  go_enter Tryz.func26, Tryz.ntmps26
  go_wp2_with (fail)
  refine (HG.out _).mono ?_
  rintro e w1 ⟨rfl, rfl⟩
  go_wp2
  go_ret
  exact ⟨rfl, rfl⟩
end Go.Proofs.YtdlggpphfkjidaaGreatDoor
