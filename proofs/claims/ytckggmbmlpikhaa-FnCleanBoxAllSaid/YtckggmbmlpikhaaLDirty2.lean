/-
  The law FnDirtyBoxesAround: the walk.
-/
import Derived.Test.YtckggmbmlpikhaaLDirty
namespace Go.Proofs.Ytckggmbmlpikhaa
open Go Go.RowKit

theorem dbx_some {l : List Bx} {ms : List Int} (h : ¬ dbxL l ms = []) : mkB l ms = true := by
  cases hm : mkB l ms with
  | true => rfl
  | false => exact absurd (by unfold dbxL; rw [hm]; rfl) h
theorem dbx_path {l : List Bx} {ms : List Int} (h : mkB l ms = true) {k : Nat} (hk : k < l.length) : decide ((k : Int) ∈ ni (dbxL l ms)) = (ni (anc l k).reverse).any fun p => decide (p ∈ ms) := by
  have hin := (mkB_iff.1 h).2.2
  rw [Bool.eq_iff_iff, decide_eq_true_eq, List.any_eq_true]
  unfold dbxL
  rw [if_pos h, mem_ni_nat, mem_cov]
  constructor
  · rintro ⟨_, m, hm, ha⟩
    have := hin m hm
    refine ⟨m, ?_, by simp [hm]⟩
    refine mem_ni.2 ⟨m.toNat, List.mem_reverse.2 ha, by omega⟩
  · rintro ⟨p, hp, hm⟩
    obtain ⟨q, hq, rfl⟩ := mem_ni.1 hp
    exact ⟨hk, (q : Int), by simpa using hm, by simpa using hq⟩

end Go.Proofs.Ytckggmbmlpikhaa
