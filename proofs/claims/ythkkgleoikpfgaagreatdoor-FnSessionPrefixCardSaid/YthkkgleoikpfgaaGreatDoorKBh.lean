/-
  Parts of the proof: SesT.
-/
import Derived.Test.YthkkgleoikpfgaaGreatDoorKBb
namespace Go.Proofs.YthkkgleoikpfgaaGreatDoor
open Go Go.RowKit
def rec0 : List UInt8 := [114, 101, 99, 116, 32, 48]
def rec1 : List UInt8 := [114, 101, 99, 116, 32, 49]
def hit33 : List UInt8 := [104, 105, 116, 32, 51, 32, 51]
def siz32 : List UInt8 := [115, 105, 122, 101, 32, 51, 50, 49, 32, 52, 53]
theorem line_rec0 (st : St) : lineS st rec0 = (recS st 0, st) := by
 unfold lineS
 rw [show splitB 32 rec0 = [recT, [48]] by kernel_rfl, word_rec, show prI [48] = 0 by kernel_rfl]
theorem line_rec1 (st : St) : lineS st rec1 = (recS st 1, st) := by
 unfold lineS
 rw [show splitB 32 rec1 = [recT, [49]] by kernel_rfl, word_rec, show prI [49] = 1 by kernel_rfl]
theorem line_hit33 (st : St) : lineS st hit33 = (dcZ (hitI st.tree st.w st.h 3 3), st) := by
 unfold lineS
 rw [show splitB 32 hit33 = [hitT, [51], [51]] by kernel_rfl, word_hit, show prI [51] = 3 by kernel_rfl]
theorem line_cnt (st : St) : lineS st cntT = (dcZ st.tree.length, st) := by
 unfold lineS
 rw [show splitB 32 cntT = [cntT] by kernel_rfl, word_cnt]
theorem line_siz32 (st : St) : lineS st siz32 = (yesT true, ⟨st.tree, 321, 45⟩) := by
 unfold lineS
 rw [show splitB 32 siz32 = [sizT, [51, 50, 49], [52, 53]] by kernel_rfl, word_siz, show prI [51, 50, 49] = 321 by kernel_rfl, show prI [52, 53] = 45 by kernel_rfl]
 rfl
theorem rec_zero {st : St} (h : OkS st) : recS st 0 = rcT ⟨0, 0, st.w, st.h⟩ := by
 have hlo := h.1.lo
 have hs : scrB st.tree st.w st.h = true := scrB_iff.2 ⟨h.1, h.2.1, h.2.2⟩
 have h0 : roB st.tree st.w st.h 0 = true := by
  unfold roB
  rw [hs, Bool.true_and, inR_iff]
  omega
 unfold recS
 rw [if_pos h0, roR_t h0]
 exact congrArg rcT (rect_root h.1 _ _)
theorem run_one (L : List (List UInt8)) (q : List UInt8) : runS (L ++ [q]) st0 = runS L st0 ++ ((lineS (endS L st0) q).1 ++ [10]) := by
 rw [runS_app]
 rfl
/-- the session of FnSessionRow -/
def rowL : List (List UInt8) := [[115, 116, 121, 108, 101, 32, 48, 32, 114, 111, 119], [97, 100, 100, 32, 48, 32, 108, 101, 97, 102, 32, 49, 48, 32, 53, 32, 103, 114, 111, 119, 32, 49], [97, 100, 100, 32, 48, 32, 108, 101, 97, 102, 32, 51, 48, 32, 53, 32, 103, 114, 111, 119, 32, 49], [114, 101, 99, 116, 32, 49], [114, 101, 99, 116, 32, 50], [104, 105, 116, 32, 53, 48, 32, 55]]
set_option maxRecDepth 100000 in
theorem run_row : runS rowL st0 = [111, 107, 10, 111, 107, 10, 111, 107, 10, 48, 32, 48, 32, 52, 48, 32, 49, 48, 48, 10, 52, 48, 32, 48, 32, 54, 48, 32, 49, 48, 48, 10, 50, 10] := by
 kernel_rfl
/-- the session of FnSessionAddRemove -/
def adrL : List (List UInt8) := [[97, 100, 100, 32, 48, 32, 108, 101, 97, 102, 32, 53, 32, 53], [99, 111, 117, 110, 116], [114, 101, 109, 111, 118, 101, 32, 49], [99, 111, 117, 110, 116], [114, 101, 109, 111, 118, 101, 32, 48], [97, 100, 100, 32, 49, 32, 108, 101, 97, 102, 32, 53, 32, 53]]
set_option maxRecDepth 100000 in
theorem run_adr : runS adrL st0 = [111, 107, 10, 50, 10, 111, 107, 10, 49, 10, 110, 111, 10, 110, 111, 10] := by
 kernel_rfl
/-- FnSessionQuestions: what stands behind the first lines -/
theorem run_quest (L : List (List UInt8)) : ∃ X P : List UInt8, 0 < P.length ∧ runS (L ++ [rec0]) st0 = runS L st0 ++ X ∧ runS (L ++ [cntT, hit33, rec1, rec0]) st0 = runS L st0 ++ (P ++ X) := by
 refine ⟨recS (endS L st0) 0 ++ [10], dcZ ((endS L st0).tree.length : Int) ++ 10 :: (dcZ (hitI (endS L st0).tree (endS L st0).w (endS L st0).h 3 3) ++ 10 :: (recS (endS L st0) 1 ++ [10])), by rw [List.length_append, List.length_cons]; omega, by rw [run_one, line_rec0], ?_⟩
 rw [runS_app]
 simp only [runS, line_cnt, line_hit33, line_rec1, line_rec0]
 simp only [List.append_assoc, List.cons_append, List.nil_append]
/-- FnSessionAddRemove: longer and longer -/
theorem run_longer (L : List (List UInt8)) : (runS L st0).length < (runS (L ++ [cntT]) st0).length ∧ (runS (L ++ [cntT]) st0).length < (runS (L ++ [rec0, cntT]) st0).length := by
 rw [runS_app, runS_app]
 simp only [runS, line_cnt, line_rec0, List.length_append, List.length_cons, List.length_nil]
 omega
/-- FnSessionPrefix: the first lines print the first part -/
theorem run_prefix (L : List (List UInt8)) (n : Nat) : ∃ X, runS L st0 = runS (L.take n) st0 ++ X := by
 refine ⟨runS (L.drop n) (endS (L.take n) st0), ?_⟩
 rw [← runS_app, List.take_append_drop]
/-- FnSessionSize -/
theorem run_size {L : List (List UInt8)} : runS (L ++ [siz32, rec0]) st0 = runS L st0 ++ [111, 107, 10, 48, 32, 48, 32, 51, 50, 49, 32, 52, 53, 10] := by
 have hE := endS_ok L st0_ok
 rw [runS_app]
 generalize endS L st0 = E at *
 have h2 : OkS ⟨E.tree, 321, 45⟩ := ⟨hE.1, (show (0 : Int) ≤ 321 ∧ (321 : Int) ≤ 10000 by decide), (show (0 : Int) ≤ 45 ∧ (45 : Int) ≤ 10000 by decide)⟩
 simp only [runS, line_siz32, line_rec0]
 rw [rec_zero h2, show rcT ⟨0, 0, 321, 45⟩ = [48, 32, 48, 32, 51, 50, 49, 32, 52, 53] by kernel_rfl]
 rfl
end Go.Proofs.YthkkgleoikpfgaaGreatDoor
