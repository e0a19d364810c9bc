/-
  The statement Rows.FnExactParseTreeCardSaid is proved here: for every text the law FnExactParseTree returns true and the text reads as it did; the condition: five tables and two errors of the library stand as its text lays them (the card ties them to the text).
-/
import Derived.Test.YtdlggpphfkjidaaGreatDoorRows
import Derived.Test.YtdlggpphfkjidaaGreatDoorLEp
import Derived.Test.YtdlggpphfkjidaaGreatDoorCards
import Derived.Test.YtdlggpphfkjidaaGreatDoorTie
import Derived.SevenTiedAt
import Derived.LaidLaws
import Derived.ChangeArms
import Derived.Lib.LaidTab
import Derived.Stop.LaidErr
import Derived.ProofKit
namespace Go.Proofs.YtdlggpphfkjidaaGreatDoor
open Go.ChangeShapes Go.WideShapes Go.ChangeAt Go.RowKit

namespace FnExactParseTree
theorem own : ownKnob Tryz.prog.godebug = none := by kernel_rfl
theorem laidOut : laidOutB Tryz.prog = true := by kernel_rfl

/-- the cells of a table -/
def litCells : DataW Unit → List Value
  | .lit (.int k z) => [Value.int k z]
  | .agg l => l.map fun
    | .lit (.int k z) => Value.int k z
    | _ => undef
  | _ => [undef]
def tabCells : DataW Unit → Array Value
  | .agg l => (l.flatMap litCells).toArray
  | _ => #[]
def laidIn (d : DataW Unit) : Obj → Obj
  | .cells _ t fz => .cells (tabCells d) t fz
  | o => o
def errIn (b : Nat) : Obj → Obj
  | .cells _ t fz => .cells #[.iface 157 (.pointer (some ⟨b, 0, none⟩))] t fz
  | o => o
/-- where the two errors' texts lie -/
noncomputable def low : Nat := (World.holding Tryz.prog default ⟨#[], #[], []⟩).heap.size
/-- a start that fits: the tables and the errors as their text lays them -/
noncomputable def laidWorld (os : Os) : World :=
  let w0 := World.holding Tryz.prog os ⟨#[.cells #[.string ⟨#[118, 97, 108, 117, 101, 32, 111, 117, 116, 32, 111, 102, 32, 114, 97, 110, 103, 101]⟩] 159, .cells #[.string ⟨#[105, 110, 118, 97, 108, 105, 100, 32, 115, 121, 110, 116, 97, 120]⟩] 159], #[], []⟩
  { w0 with heap := ((((((w0.heap.modify 6 (laidIn Rows.laid_math_bits_deBruijn32tab)).modify 7 (laidIn Rows.laid_math_bits_deBruijn64tab)).modify 3 (laidIn Rows.laid_internal_strconv_uint64pow10)).modify 2 (laidIn Rows.laid_unicode_utf8_acceptRanges)).modify 1 (laidIn Rows.laid_unicode_utf8_first)).modify 5 (errIn low)).modify 4 (errIn (low + 1)) }
theorem laidWorld_met (os : Os) (args : Array Value) : laidMet Tryz.prog Rows.fnExactParseTreeRow.laid ((laidWorld os).forCall (fun _ _ => 0) ⟨#[], args, []⟩).memory :=
  laidMet_of_run' 8 (by kernel_rfl) (by kernel_rfl)
theorem star : "*" ++ "errors.errorString" = "*errors.errorString" := by decide
theorem errType (u : TypeId) (h : Tryz.prog.typeName? 3 u = some "*errors.errorString") : u = 157 :=
  typeName_ptr_named (nm := "errors.errorString") (by rw [star]; kernel_rfl) (by kernel_rfl) (by decide) u (by rw [star]; exact h)
theorem tab_of_laid {W : World} (h : laidMet Tryz.prog Rows.fnExactParseTreeRow.laid W) : LaidP W := by
  have h3 := laidMet.tail (laidMet.tail h)
  have h5 := laidMet.tail (laidMet.tail h3)
  have h6 := laidMet.tail h5
  obtain ⟨a, _, hv, _⟩ := laid_sentinel (g := 5) (ti := 72) (tp := 157) (te := 159) (ts := 9) h5 (by kernel_rfl) (by kernel_rfl) Tryz.underlying72 errType Tryz.underlying157 Tryz.underlying159 rfl rfl Tryz.underlying9 (by kernel_rfl) (by kernel_rfl)
  obtain ⟨b, _, hu, _⟩ := laid_sentinel (g := 4) (ti := 72) (tp := 157) (te := 159) (ts := 9) h6 (by kernel_rfl) (by kernel_rfl) Tryz.underlying72 errType Tryz.underlying157 Tryz.underlying159 rfl rfl Tryz.underlying9 (by kernel_rfl) (by kernel_rfl)
  have hgR : Tryz.prog.globalNamed "strconv.ErrRange" = some 5 := by kernel_rfl
  have hgS : Tryz.prog.globalNamed "strconv.ErrSyntax" = some 4 := by kernel_rfl
  exact ⟨Lib.tabIs_of_head (g := 3) (t := 145) (e := 108) (n := 20) (by kernel_rfl) (by kernel_rfl) (by kernel_rfl) (by kernel_rfl) (by kernel_rfl) (by kernel_rfl) h3, ⟨_, by simpa using World.var?_cell hgS hu 0, .inr ⟨_, _, rfl⟩⟩, ⟨_, by simpa using World.var?_cell hgR hv 0, .inr ⟨_, _, rfl⟩⟩⟩

set_option maxRecDepth 100000 in
set_option maxHeartbeats 1600000 in
theorem lifted (os : Os) (started : os.Started) (H : Type) (enc : TypeId × Value → H) :
    ReturnsInHanded {} Tryz.checked os 4 .any (fun w args => (Rows.fnExactParseTreeSpec.pre enc Tryz.prog Tryz.f4 Rows.fnExactParseTreeRow.domain false w args ∧ laidMet Tryz.prog Rows.fnExactParseTreeRow.laid w) ∧ sizedMet enc Tryz.prog Tryz.f4 (OpenSpec.ofChange Rows.fnExactParseTreeSpec) false w args)
      (Rows.fnExactParseTreeSpec.post enc Tryz.prog Tryz.f4 false true false false) := by
  refine returnsInHanded_of_change_and (C := Tryz.checked) (X := fun w _ => laidMet Tryz.prog Rows.fnExactParseTreeRow.laid w) (fun _ _ _ hh h => h.of_heap hh) own started (by kernel_rfl) Tryz.func4
    (ChangeSpec.witness_at (enc := enc) (C := Tryz.checked) (os := os) (X := fun w _ => laidMet Tryz.prog Rows.fnExactParseTreeRow.laid w) false (laidWorld os) #[.string ⟨#[]⟩] 8 rfl (by kernel_rfl) (by kernel_rfl) (by kernel_rfl) (by kernel_rfl) (by kernel_rfl) (laidWorld_met os _)) ?_
  intro W base args ds gs before hval0 hW hcnd _ hL _
  have hval : ∀ (j : Nat) t v, Tryz.f4.params[j]? = some t → args[j]? = some v → Value.okWide Tryz.prog W .any base t v := hval0
  have hW' := hW
  obtain ⟨p, q, hA0, hV, rfl, hfz, hnd⟩ := hW
  have hA : DataW.TrodAll enc Tryz.prog W 0 (fun _ => true) true Tryz.f4.params.toList args.toList ds p := hA0
  rw [Tryz.params4] at hA hval
  obtain ⟨v0, d0, rfl, rfl, h0⟩ := trodAll_one hA
  obtain ⟨rfl, rfl⟩ := trodVars_none hV
  have h0k := h0
  obtain ⟨fuel, hf⟩ := h0
  clear hA0 hval0 hA
  simp only [List.append_nil] at hW' hfz
  have hlt : ∀ x ∈ p, x.block < W.heap.size := fun x hx => by simpa using hW'.lt x hx
  have hargs : ∀ (W' : World), Below W.heap.size W W' → DataW.Trod enc Tryz.prog W' 0 (fun b => decide (b < W.heap.size)) true 9 v0 d0 p :=
    fun W' hn => Below.trod laidOut (by kernel_rfl) (of_decide_eq_true (by kernel_rfl)) h0k hn hlt
  obtain ⟨s0, rfl⟩ := okWide_string Tryz.underlying9 (hval 0 9 v0 rfl rfl)
  obtain ⟨s1, hcs, _, hmx⟩ := DataW.trod_string Tryz.underlying9 hf
  simp [Value.cells] at hcs
  subst hcs
  obtain ⟨l0, hl0⟩ : ∃ l0 : List UInt8, s0 = ⟨l0.toArray⟩ := ⟨s0.data.toList, by simp⟩
  subst hl0
  have hsz0 : l0.length ≤ maxLen := hmx
  refine (FnExactParseTree_any l0 W hsz0 (tab_of_laid hL)).mono fun e W' ⟨he, hw⟩ => ?_
  subst he
  exact ⟨_, rfl, ⟨_, _, _, [], _, [], hW', trodAll_mk1 (shut_bool Tryz.underlying4 true), trodAll_mk1 (hargs _ hw), rfl, hw.frame _, fun h => by cases h⟩⟩
end FnExactParseTree

theorem fnExactParseTree_holds : Rows.FnExactParseTreeSaid :=
  OpenClaim.holds_of_wide 4 Tryz.f4 rfl rfl rfl rfl rfl rfl rfl ⟨rfl, rfl, rfl, rfl, rfl⟩ rfl rfl rfl rfl rfl (by kernel_rfl) Tryz.func4 (by kernel_rfl)
    (of_decide_eq_true (by kernel_rfl)) (by unfold Func.isWrapper; first | (rw [if_pos (by decide +kernel)]; kernel_rfl) | (rw [if_neg (by decide +kernel)]; exact ⟨rfl, rfl⟩))
    (fun os started H enc _ => FnExactParseTree.lifted os started H enc)

theorem fnExactParseTree_card : Rows.FnExactParseTreeCardSaid :=
  Claim7.holds_tied_plain_at .later [] [.data, .data, .data, .data, .sentinel, .sentinel, .pinned] true Rows.fnExactParseTreeCard.stood.harness true
    fnExactParseTree_holds (fun _ h => by cases h) (by kernel_rfl) (fun _ h => by cases h) fnExactParseTree_row_tie rfl ⟨rfl, rfl⟩ (by kernel_rfl) rfl
    (fun f fn hf hfn => by
      obtain rfl : f = 4 := Option.some.inj ((show Tryz.prog.funcNamed Rows.fnExactParseTreeRow.func = some 4 by kernel_rfl).symm.trans hf) |>.symm
      obtain rfl : fn = Tryz.f4 := (Option.some.inj (Tryz.func4.symm.trans hfn)).symm
      exact ⟨by kernel_rfl, fun j t ht => by
        rw [Tryz.params4] at ht
        have h3 : t = 9 := by
          rcases j with _ | j
          · simpa using ht.symm
          · simp at ht
        subst h3
        exact (show Tryz.prog.wantsStandIn 9 = false by kernel_rfl)⟩)
    (by kernel_rfl)
end Go.Proofs.YtdlggpphfkjidaaGreatDoor
