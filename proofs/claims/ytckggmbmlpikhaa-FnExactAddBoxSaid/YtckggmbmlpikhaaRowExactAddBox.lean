/-
  The statement Rows.FnExactAddBoxSaid is proved here: for every argument the law FnExactAddBox returns true and the arguments read as they did; it has no condition.
-/
import Derived.Test.YtckggmbmlpikhaaRows
import Derived.Test.YtckggmbmlpikhaaLEx2
import Derived.Test.YtckggmbmlpikhaaOpen
import Derived.ProofKit
namespace Go.Proofs.Ytckggmbmlpikhaa
open Go.ChangeShapes Go.WideShapes Go.ChangeAt Go.RowKit

namespace FnExactAddBox
theorem own : ownKnob Try.prog.godebug = none := by kernel_rfl
theorem laidOut : laidOutB Try.prog = true := by kernel_rfl
/-- the fields of a box: nine numbers, one cell each -/
theorem fields : ∃ fs : Array Field, Try.prog.underlying 50 = some (.struct fs) ∧ fs.size = 9 ∧ ∀ (j : Nat) (f : Field), fs[j]? = some f → f.offset = j ∧ f.type = 3 := by
  refine ⟨_, Try.underlying50, rfl, fun j f hf => ?_⟩
  have hj : j < 9 := (Array.getElem?_eq_some_iff.1 hf).1
  have : j = 0 ∨ j = 1 ∨ j = 2 ∨ j = 3 ∨ j = 4 ∨ j = 5 ∨ j = 6 ∨ j = 7 ∨ j = 8 := by omega
  rcases this with rfl | rfl | rfl | rfl | rfl | rfl | rfl | rfl | rfl <;> (cases hf; exact ⟨rfl, rfl⟩)

set_option maxRecDepth 100000 in
set_option maxHeartbeats 1600000 in
theorem lifted (os : Os) (started : os.Started) (H : Type) (enc : TypeId × Value → H) :
    ReturnsInHanded {} Try.checked os 10 .any (Rows.fnExactAddBoxSpec.pre6 enc Try.prog Try.f10 Rows.fnExactAddBoxRow.domain false) (Rows.fnExactAddBoxSpec.post enc Try.prog Try.f10 false true false false) := by
  refine returnsInHanded_of_change (C := Try.checked) own started (by kernel_rfl) Try.func10
    (ChangeSpec.witness6 (enc := enc) (C := Try.checked) false ⟨#[], #[.slice none 0 0, .int .i64 0, .agg #[.int .i64 0, .int .i64 0, .int .i64 0, .int .i64 0, .int .i64 0, .int .i64 0, .int .i64 0, .int .i64 0, .int .i64 0]], []⟩ 8 (by kernel_rfl) (by kernel_rfl) (by kernel_rfl) (by kernel_rfl)) ?_
  intro W base args ds gs before hval0 hW hcnd _
  have hval : ∀ (j : Nat) t v, Try.f10.params[j]? = some t → args[j]? = some v → Value.okWide Try.prog W .any base t v := hval0
  have hW' := hW
  obtain ⟨p, q, hA0, hV, rfl, hfz, hnd⟩ := hW
  have hA : DataW.TrodAll enc Try.prog W 0 (fun _ => true) true Try.f10.params.toList args.toList ds p := hA0
  rw [Try.params10] at hA hval
  obtain ⟨v0, v1, v2, d0, d1, d2, p0, p1, p2, rfl, rfl, rfl, h0, h1, h2⟩ := trodAll_three hA
  obtain ⟨rfl, rfl⟩ := trodVars_none hV
  have h0k := h0
  have h2k := h2
  obtain ⟨fuel, hf⟩ := h0
  obtain ⟨fuel2, hf2⟩ := h2
  clear hA0 hval0 hA
  obtain ⟨n1, rfl, rfl, rfl, hwf⟩ := open_int Try.underlying3 (hval 1 3 v1 rfl rfl) h1
  simp only [List.append_nil] at hW' hfz
  have hlt : ∀ x ∈ p0 ++ p2, x.block < W.heap.size := fun x hx => by simpa using hW'.lt x hx
  have hargs : ∀ (W' : World), Below W.heap.size W W' → DataW.Trod enc Try.prog W' 0 (fun b => decide (b < W.heap.size)) true 22 v0 d0 p0 :=
    fun W' hn => Below.trod laidOut (by kernel_rfl) (of_decide_eq_true (by kernel_rfl)) h0k hn (fun x hx => hlt x (List.mem_append_left _ hx))
  have hargs2 : ∀ (W' : World), Below W.heap.size W W' → DataW.Trod enc Try.prog W' 0 (fun b => decide (b < W.heap.size)) true 50 v2 d2 p2 :=
    fun W' hn => Below.trod laidOut (by kernel_rfl) (of_decide_eq_true (by kernel_rfl)) h2k hn (fun x hx => hlt x (List.mem_append_right _ hx))
  obtain ⟨a0, len, cap, rfl⟩ := okWide_slice Try.underlying22 (hval 0 22 v0 rfl rfl)
  obtain ⟨fs, hfs1, hfs2, hfs3⟩ := fields
  obtain ⟨cs, rfl, hcs⟩ := okWide_struct hfs1 (hval 2 50 v2 rfl rfl)
  rw [show Try.prog.cellsOf 50 = 9 by kernel_rfl] at hcs
  obtain ⟨l, _, hrd⟩ := open_boxes (it := 3) Try.underlying22 hfs1 Try.underlying3 (by kernel_rfl) (by kernel_rfl) hfs2 hfs3 hf
  obtain ⟨y, hy⟩ := open_box (it := 3) hfs1 Try.underlying3 (by kernel_rfl) hfs2 hfs3 hcs hf2
  rw [hy] at hargs2 hW' ⊢
  refine (FnExactAddBox_any n1 y W hrd).mono fun e W' ⟨he, hw⟩ => ?_
  subst he
  have hout := trodAll_mk3 (hargs _ hw) (shut_int (enc := enc) (w := W') (base := 0) (spare := fun b => decide (b < W.heap.size)) (held := true) Try.underlying3 hwf) (hargs2 _ hw)
  rw [List.nil_append] at hout
  exact ⟨_, rfl, ⟨_, _, _, [], _, [], hW', trodAll_mk1 (shut_bool Try.underlying4 true), hout, rfl, hw.frame _, fun h => by cases h⟩⟩
end FnExactAddBox

theorem fnExactAddBox_holds : Rows.FnExactAddBoxSaid :=
  OpenClaim.holds_of_wide 10 Try.f10 rfl rfl rfl rfl rfl rfl rfl ⟨rfl, rfl, rfl, rfl, rfl⟩ rfl rfl rfl rfl rfl (by kernel_rfl) Try.func10 (by kernel_rfl)
    (of_decide_eq_true (by kernel_rfl)) (by unfold Func.isWrapper; first | (rw [if_pos (by decide +kernel)]; kernel_rfl) | (rw [if_neg (by decide +kernel)]; exact ⟨rfl, rfl⟩))
    (fun os started H enc _ => FnExactAddBox.lifted os started H enc)
end Go.Proofs.Ytckggmbmlpikhaa
