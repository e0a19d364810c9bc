/-
  The laws over the texts of trees: FnTreeTextShort and FnTreeTextLines: the walks.
-/
import Derived.Lib.SlBytesConst
import Derived.Test.YtdlggpphfkjidaaGreatDoorSFTxt
namespace Go.Proofs.YtdlggpphfkjidaaGreatDoor
open Go Go.RowKit

theorem index_at (W : World) {S : List UInt8} {k : Nat} {c : UInt8} (h : S[k]? = some c) :
    Sem.run Tryz.prog (Instr.index 9 (.string ⟨S.toArray⟩) (.int .i64 (k : Int))) W = .ok (.int .u8 (c.toNat : Int)) W := by
  obtain ⟨h1, h2⟩ := List.getElem?_eq_some_iff.1 h
  have hsz : (⟨S.toArray⟩ : ByteArray).size = S.length := rfl
  rw [run_index_string _ _ _ _ _ (by kernel_rfl), dif_pos ⟨by omega, by rw [hsz]; omega⟩]
  subst h2
  rfl
theorem fmt_ne {l : List Bx} (h : ¬ fmtT l = []) : Valid l ∧ ∃ k, l.length = k + 1 ∧ fmtT l = textTo l (k + 1) := by
  cases hok : vldB l with
  | false => exact absurd (fmtT_f hok) h
  | true =>
    have hv := vldB_iff.1 hok
    have hlo := hv.lo
    refine ⟨hv, l.length - 1, by omega, ?_⟩
    rw [fmtT_t hok]
    unfold treeT
    congr 1
    omega
end Go.Proofs.YtdlggpphfkjidaaGreatDoor
