/-
  The laws FnSpillingNone and FnSpillingLarge: the walks.
-/
import Derived.Test.YtbkhbmcoococmaaSSpl
import Derived.Test.YtbkhbmcoococmaaAg
import Derived.Test.YtbkhbmcoococmaaNS
import Derived.Test.YtbkhbmcoococmaaLTr2
import Derived.Test.YtbkhbmcoococmaaLStyA
namespace Go.Proofs.Ytbkhbmcoococmaa
open Go Go.RowKit

theorem fit_not {l : List Bx} {a b : Int} (hf : fitS l a b = true) {k : Nat} (hk : k ∈ kid l 0) : ((k : Nat) : Int) ∉ splL l a b := by
  intro hm
  cases hok : scrB l a b with
  | false =>
    rw [splL_f hok] at hm
    simp at hm
  | true =>
    rw [splL_t hok] at hm
    obtain ⟨x, hx, e⟩ := mem_ni.1 hm
    obtain rfl : x = k := by omega
    obtain ⟨hv, hw, hh⟩ := scrB_iff.1 hok
    unfold fitS at hf
    simp only [Bool.and_eq_true, decide_eq_true_eq] at hf
    have := fit_inside hv hw hh hf.2.1 hf.2.2 hk
    rw [(spillTo_mem.1 hx).2.2] at this
    cases this
theorem fit_valid {l : List Bx} {a b : Int} (hf : fitS l a b = true) : Valid l := by
  unfold fitS at hf
  simp only [Bool.and_eq_true, decide_eq_true_eq] at hf
  exact vldB_iff.1 hf.1
theorem kids_zero {l : List Bx} (hv : Valid l) : kidsL l 0 = kid l 0 := kids_valid hv hv.lo
end Go.Proofs.Ytbkhbmcoococmaa
