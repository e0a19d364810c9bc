/-
  The statement Rows.FnSessionPrefixCardSaid is proved here: for every list of bytes the law FnSessionPrefix returns true and the list reads as it did; the condition: five tables and two errors of the library stand as its text lays them (the card ties them to the text).
-/
import Derived.Test.YthkkgleoikpfgaaGreatDoorRows
import Derived.Test.YthkkgleoikpfgaaGreatDoorKBi
import Derived.Test.YthkkgleoikpfgaaGreatDoorCards
import Derived.Test.YthkkgleoikpfgaaGreatDoorTie
import Derived.SevenTiedAt
import Derived.LaidLaws
import Derived.ChangeArms
import Derived.Lib.LaidTab
import Derived.Stop.LaidErr
import Derived.ProofKit
namespace Go.Proofs.YthkkgleoikpfgaaGreatDoor
open Go.ChangeShapes Go.WideShapes Go.ChangeAt Go.RowKit
namespace FnSessionPrefix
theorem own : ownKnob Tryz.prog.godebug = none := by kernel_rfl
theorem laidOut : laidOutB Tryz.prog = true := by kernel_rfl
theorem cellsU8 : Tryz.prog.cellsOf 5 = 1 := by kernel_rfl
/-- the cells of a table -/
def litCells : DataW Unit → List Value
 | .lit (.int k z) => [Value.int k z]
 | .agg l => l.map fun
  | .lit (.int k z) => Value.int k z
  | _ => undef
 | _ => [undef]
def tabCells : DataW Unit → Array Value
 | .agg l => (l.flatMap litCells).toArray
 | _ => #[]
def laidIn (d : DataW Unit) : Obj → Obj
 | .cells _ t fz => .cells (tabCells d) t fz
 | o => o
def errIn (b : Nat) : Obj → Obj
 | .cells _ t fz => .cells #[.iface 203 (.pointer (some ⟨b, 0, none⟩))] t fz
 | o => o
/-- where the two errors' texts lie -/
noncomputable def low : Nat := (World.holding Tryz.prog default ⟨#[], #[], []⟩).heap.size
/-- a start that fits: the tables and the errors as their text lays them -/
noncomputable def laidWorld (os : Os) : World :=
 let w0 := World.holding Tryz.prog os ⟨#[.cells #[.string ⟨#[118, 97, 108, 117, 101, 32, 111, 117, 116, 32, 111, 102, 32, 114, 97, 110, 103, 101]⟩] 205, .cells #[.string ⟨#[105, 110, 118, 97, 108, 105, 100, 32, 115, 121, 110, 116, 97, 120]⟩] 205], #[], []⟩
 { w0 with heap := ((((((w0.heap.modify 6 (laidIn Rows.laid_math_bits_deBruijn32tab)).modify 7 (laidIn Rows.laid_math_bits_deBruijn64tab)).modify 5 (laidIn Rows.laid_internal_strconv_uint64pow10)).modify 2 (laidIn Rows.laid_unicode_utf8_acceptRanges)).modify 1 (laidIn Rows.laid_unicode_utf8_first)).modify 4 (errIn low)).modify 3 (errIn (low + 1)) }
theorem laidWorld_met (os : Os) (args : Array Value) : laidMet Tryz.prog Rows.fnSessionPrefixRow.laid ((laidWorld os).forCall (fun _ _ => 0) ⟨#[], args, []⟩).memory :=
 laidMet_of_run' 8 (by kernel_rfl) (by kernel_rfl)
theorem star : "*" ++ "errors.errorString" = "*errors.errorString" := by decide
theorem errType (u : TypeId) (h : Tryz.prog.typeName? 3 u = some "*errors.errorString") : u = 203 :=
 typeName_ptr_named (nm := "errors.errorString") (by rw [star]; kernel_rfl) (by kernel_rfl) (by decide) u (by rw [star]; exact h)
theorem tab_of_laid {W : World} (h : laidMet Tryz.prog Rows.fnSessionPrefixRow.laid W) : LaidP W := by
 have h3 := laidMet.tail (laidMet.tail h)
 have h5 := laidMet.tail (laidMet.tail h3)
 have h6 := laidMet.tail h5
 obtain ⟨a, _, hv, _⟩ := laid_sentinel (g := 4) (ti := 50) (tp := 203) (te := 205) (ts := 9) h5 (by kernel_rfl) (by kernel_rfl) Tryz.underlying50 errType Tryz.underlying203 Tryz.underlying205 rfl rfl Tryz.underlying9 (by kernel_rfl) (by kernel_rfl)
 obtain ⟨b, _, hu, _⟩ := laid_sentinel (g := 3) (ti := 50) (tp := 203) (te := 205) (ts := 9) h6 (by kernel_rfl) (by kernel_rfl) Tryz.underlying50 errType Tryz.underlying203 Tryz.underlying205 rfl rfl Tryz.underlying9 (by kernel_rfl) (by kernel_rfl)
 have hgR : Tryz.prog.globalNamed "strconv.ErrRange" = some 4 := by kernel_rfl
 have hgS : Tryz.prog.globalNamed "strconv.ErrSyntax" = some 3 := by kernel_rfl
 exact ⟨Lib.tabIs_of_head (g := 5) (t := 198) (e := 181) (n := 20) (by kernel_rfl) (by kernel_rfl) (by kernel_rfl) (by kernel_rfl) (by kernel_rfl) (by kernel_rfl) h3, ⟨_, by simpa using World.var?_cell hgS hu 0, .inr ⟨_, _, rfl⟩⟩, ⟨_, by simpa using World.var?_cell hgR hv 0, .inr ⟨_, _, rfl⟩⟩⟩
set_option maxRecDepth 100000 in
set_option maxHeartbeats 1600000 in
theorem lifted (os : Os) (started : os.Started) (H : Type) (enc : TypeId × Value → H) :
 ReturnsInHanded {} Tryz.checked os 8 .any (fun w args => (Rows.fnSessionPrefixSpec.pre enc Tryz.prog Tryz.f8 Rows.fnSessionPrefixRow.domain false w args ∧ laidMet Tryz.prog Rows.fnSessionPrefixRow.laid w) ∧ sizedMet enc Tryz.prog Tryz.f8 (OpenSpec.ofChange Rows.fnSessionPrefixSpec) false w args)
  (Rows.fnSessionPrefixSpec.post enc Tryz.prog Tryz.f8 false true false false) := by
 refine returnsInHanded_of_change_and (C := Tryz.checked) (X := fun w _ => laidMet Tryz.prog Rows.fnSessionPrefixRow.laid w) (fun _ _ _ hh h => h.of_heap hh) own started (by kernel_rfl) Tryz.func8
  (ChangeSpec.witness_at (enc := enc) (C := Tryz.checked) (os := os) (X := fun w _ => laidMet Tryz.prog Rows.fnSessionPrefixRow.laid w) false (laidWorld os) #[.slice none 0 0] 8 rfl (by kernel_rfl) (by kernel_rfl) (by kernel_rfl) (by kernel_rfl) (by kernel_rfl) (laidWorld_met os _)) ?_
 intro W base args ds gs before hval0 hW hcnd _ hL _
 have hval : ∀ (j : Nat) t v, Tryz.f8.params[j]? = some t → args[j]? = some v → Value.okWide Tryz.prog W .any base t v := hval0
 have hW' := hW
 obtain ⟨p, q, hA0, hV, rfl, hfz, hnd⟩ := hW
 have hA : DataW.TrodAll enc Tryz.prog W 0 (fun _ => true) true Tryz.f8.params.toList args.toList ds p := hA0
 rw [Tryz.params8] at hA hval
 obtain ⟨v0, d0, rfl, rfl, h0⟩ := trodAll_one hA
 obtain ⟨rfl, rfl⟩ := trodVars_none hV
 have h0k := h0
 obtain ⟨fuel, hf⟩ := h0
 clear hA0 hval0 hA
 simp only [List.append_nil] at hW' hfz
 have hlt : ∀ x ∈ p, x.block < W.heap.size := fun x hx => by simpa using hW'.lt x hx
 have hargs : ∀ (W' : World), Below W.heap.size W W' → DataW.Trod enc Tryz.prog W' 0 (fun b => decide (b < W.heap.size)) true 22 v0 d0 p :=
  fun W' hn => Below.trod laidOut (by kernel_rfl) (of_decide_eq_true (by kernel_rfl)) h0k hn hlt
 obtain ⟨a0, len, cap, rfl⟩ := okWide_slice Tryz.underlying22 (hval 0 22 v0 rfl rfl)
 have hrd : RdBytes W (.slice a0 len cap) := by
  rcases open_ints Tryz.underlying22 Tryz.underlying5 cellsU8 hf with ⟨hcs, hx⟩ | ⟨a, len', cap', zs, hcs, _, hl, hm, hz, hx, hcell, hwz⟩
  ·simp [Value.cells] at hcs
   obtain ⟨rfl, rfl, rfl⟩ := hcs
   exact ⟨none, 0, 0, rfl, Nat.le_refl _, Nat.zero_le _, .inl rfl⟩
  ·simp [Value.cells] at hcs
   obtain ⟨rfl, rfl, rfl⟩ := hcs
   simp only [if_true] at hz
   refine ⟨some a, len, cap, rfl, hl, hm, ?_⟩
   by_cases h0 : len = 0
   ·exact .inl h0
   ·obtain ⟨b, off, spot⟩ := a
    have hspot : spot = none := by simpa [Addr.add] using World.cell?_spot (hcell 0 (by omega))
    subst hspot
    refine .inr ⟨b, off, rfl, ?_, fun j hj => ?_⟩
    ·exact World.block_lt_of_cell? W _ (hcell 0 (by omega))
    ·have hjz : j < zs.length := by omega
     have hg : zs.getD j 0 = zs[j] := by simp [List.getD, hjz]
     have hw := hwz (zs.getD j 0) (by rw [hg]; exact List.getElem_mem hjz)
     have hc := hcell j hjz
     rw [add_plain] at hc
     generalize zs.getD j 0 = x at hw hc
     have hmin : IntKind.u8.min = 0 := rfl
     have hmax : IntKind.u8.max = 255 := rfl
     simp only [Lit.wf, Bool.and_eq_true, decide_eq_true_eq, hmin, hmax] at hw
     exact ⟨x, hw.1, by omega, hc⟩
 refine (FnSessionPrefix_any W hrd (tab_of_laid hL)).mono fun e W' ⟨he, hw⟩ => ?_
 subst he
 exact ⟨_, rfl, ⟨_, _, _, [], _, [], hW', trodAll_mk1 (shut_bool Tryz.underlying4 true), trodAll_mk1 (hargs _ hw), rfl, hw.frame _, fun h => by cases h⟩⟩
end FnSessionPrefix
theorem fnSessionPrefix_holds : Rows.FnSessionPrefixSaid :=
 OpenClaim.holds_of_wide 8 Tryz.f8 rfl rfl rfl rfl rfl rfl rfl ⟨rfl, rfl, rfl, rfl, rfl⟩ rfl rfl rfl rfl rfl (by kernel_rfl) Tryz.func8 (by kernel_rfl)
  (of_decide_eq_true (by kernel_rfl)) (by unfold Func.isWrapper; first | (rw [if_pos (by decide +kernel)]; kernel_rfl) | (rw [if_neg (by decide +kernel)]; exact ⟨rfl, rfl⟩))
  (fun os started H enc _ => FnSessionPrefix.lifted os started H enc)
theorem fnSessionPrefix_card : Rows.FnSessionPrefixCardSaid :=
 Claim7.holds_tied_plain_at .later [] [.data, .data, .data, .data, .sentinel, .sentinel, .pinned] true Rows.fnSessionPrefixCard.stood.harness true
  fnSessionPrefix_holds (fun _ h => by cases h) (by kernel_rfl) (fun _ h => by cases h) fnSessionPrefix_row_tie rfl ⟨rfl, rfl⟩ (by kernel_rfl) rfl
  (fun f fn hf hfn => by
   obtain rfl : f = 8 := Option.some.inj ((show Tryz.prog.funcNamed Rows.fnSessionPrefixRow.func = some 8 by kernel_rfl).symm.trans hf) |>.symm
   obtain rfl : fn = Tryz.f8 := (Option.some.inj (Tryz.func8.symm.trans hfn)).symm
   exact ⟨by kernel_rfl, fun j t ht => by
    rw [Tryz.params8] at ht
    have h3 : t = 22 := by
     rcases j with _ | j
     ·simpa using ht.symm
     ·simp at ht
    subst h3
    exact (show Tryz.prog.wantsStandIn 22 = false by kernel_rfl)⟩)
  (by kernel_rfl)
end Go.Proofs.YthkkgleoikpfgaaGreatDoor
