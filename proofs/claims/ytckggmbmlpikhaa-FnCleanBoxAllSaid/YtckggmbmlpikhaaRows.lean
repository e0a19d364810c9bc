/-
  No cell of these rows narrows 'for every input' (looked for: loops, veiled, ifaces, maps, wideKeys, modest, calm, conditions, laid).
  DERIVED. THE GIVEN ROWS OF THIS SEAT. 10 by the template 'for every input the law returns true; each argument reads behind the call as it read before'; 0 by the template 'total and deterministic' (their statements: YtckggmbmlpikhaaTotals.lean).
  GIVEN WITH THE SEED: the statements are not yours to turn. If you find one false, say at which input.
  Laid BY PROGRAM, IN A SANDBOX (cutbox-rows.mjs): the forced cells as the released guide's own fill.sh prints them over the translation a296dcc5b1066438… (all of the seat's roots in one cut). By AI agents, Wed Nov 11 2026. No macro, syntax, notation, axiom, sorry.
-/
import Derived.Test.YtckggmbmlpikhaaChecked
import GoSem.Claim
import GoSem.ClaimJoined
import GoSem.ClaimMapViews
import Derived.JoinedTies
import Derived.KernelRfl
namespace Go.Proofs.Ytckggmbmlpikhaa
/- THE CELL 'sum', in the pinned program and in every row, IS THE sha256 OF THE DUMP (.gsa) THAT YtckggmbmlpikhaaProg.lean LOADS. Nothing in Lean hashes anything: it is a label: what it is worth is what the hold of that sum in a sandbox is worth. -/
noncomputable def Try.pinned : Pinned := { name := "ytckggmbmlpikhaa", sum := "a296dcc5b1066438b926499b997028d0aca8bf0edd698f633ae8c2ccf028a9b2", checked := Try.checked }
namespace Rows
def none {H : Type} : Left H := { results := [], args := [] }

/-- 'laws.FnExactPartOf': WHATEVER THE INPUT: true; the input reads as it did. -/
def fnExactPartOfSpec : ChangeSpec := { name := "fnExactPartOf", fn := fun _ => fun
  | [d1, d2] => { results := [.lit (.bool true)], args := [d1, d2] }
  | _ => none }
def fnExactPartOfRow : OpenClaim := { program := "ytckggmbmlpikhaa", sum := "a296dcc5b1066438b926499b997028d0aca8bf0edd698f633ae8c2ccf028a9b2", func := "loop.example/flexlayout/laws.FnExactPartOf", spec := "fnExactPartOf", apart := false }
def FnExactPartOfSaid : Prop := fnExactPartOfRow.holds Try.pinned (OpenSpec.ofChange fnExactPartOfSpec)

/-- ITS FALSE NEIGHBOUR: 'it returns false'. Refute it at one input. -/
def fnExactPartOfWrong : ChangeSpec := { name := "fnExactPartOf", fn := fun _ => fun
  | [d1, d2] => { results := [.lit (.bool false)], args := [d1, d2] }
  | _ => none }
def FnExactPartOfWrongFalsely : Prop := fnExactPartOfRow.holds Try.pinned (OpenSpec.ofChange fnExactPartOfWrong)

/-- 'laws.FnAddBoxSize': WHATEVER THE INPUT: true; the input reads as it did. -/
def fnAddBoxSizeSpec : ChangeSpec := { name := "fnAddBoxSize", fn := fun _ => fun
  | [d] => { results := [.lit (.bool true)], args := [d] }
  | _ => none }
def fnAddBoxSizeRow : OpenClaim := { program := "ytckggmbmlpikhaa", sum := "a296dcc5b1066438b926499b997028d0aca8bf0edd698f633ae8c2ccf028a9b2", func := "loop.example/flexlayout/laws.FnAddBoxSize", spec := "fnAddBoxSize", recurses := true, apart := false }
def FnAddBoxSizeSaid : Prop := fnAddBoxSizeRow.holds Try.pinned (OpenSpec.ofChange fnAddBoxSizeSpec)

/-- ITS FALSE NEIGHBOUR: 'it returns false'. Refute it at one input. -/
def fnAddBoxSizeWrong : ChangeSpec := { name := "fnAddBoxSize", fn := fun _ => fun
  | [d] => { results := [.lit (.bool false)], args := [d] }
  | _ => none }
def FnAddBoxSizeWrongFalsely : Prop := fnAddBoxSizeRow.holds Try.pinned (OpenSpec.ofChange fnAddBoxSizeWrong)

/-- 'laws.FnRemoveBoxOrder': WHATEVER THE INPUT: true; the input reads as it did. -/
def fnRemoveBoxOrderSpec : ChangeSpec := { name := "fnRemoveBoxOrder", fn := fun _ => fun
  | [d] => { results := [.lit (.bool true)], args := [d] }
  | _ => none }
def fnRemoveBoxOrderRow : OpenClaim := { program := "ytckggmbmlpikhaa", sum := "a296dcc5b1066438b926499b997028d0aca8bf0edd698f633ae8c2ccf028a9b2", func := "loop.example/flexlayout/laws.FnRemoveBoxOrder", spec := "fnRemoveBoxOrder", apart := false }
def FnRemoveBoxOrderSaid : Prop := fnRemoveBoxOrderRow.holds Try.pinned (OpenSpec.ofChange fnRemoveBoxOrderSpec)

/-- ITS FALSE NEIGHBOUR: 'it returns false'. Refute it at one input. -/
def fnRemoveBoxOrderWrong : ChangeSpec := { name := "fnRemoveBoxOrder", fn := fun _ => fun
  | [d] => { results := [.lit (.bool false)], args := [d] }
  | _ => none }
def FnRemoveBoxOrderWrongFalsely : Prop := fnRemoveBoxOrderRow.holds Try.pinned (OpenSpec.ofChange fnRemoveBoxOrderWrong)

/-- 'laws.FnDirtyRootsOne': WHATEVER THE INPUT: true; the input reads as it did. -/
def fnDirtyRootsOneSpec : ChangeSpec := { name := "fnDirtyRootsOne", fn := fun _ => fun
  | [d] => { results := [.lit (.bool true)], args := [d] }
  | _ => none }
def fnDirtyRootsOneRow : OpenClaim := { program := "ytckggmbmlpikhaa", sum := "a296dcc5b1066438b926499b997028d0aca8bf0edd698f633ae8c2ccf028a9b2", func := "loop.example/flexlayout/laws.FnDirtyRootsOne", spec := "fnDirtyRootsOne", unfollowed := true, recurses := true, apart := false }
def FnDirtyRootsOneSaid : Prop := fnDirtyRootsOneRow.holds Try.pinned (OpenSpec.ofChange fnDirtyRootsOneSpec)

/-- ITS FALSE NEIGHBOUR: 'it returns false'. Refute it at one input. -/
def fnDirtyRootsOneWrong : ChangeSpec := { name := "fnDirtyRootsOne", fn := fun _ => fun
  | [d] => { results := [.lit (.bool false)], args := [d] }
  | _ => none }
def FnDirtyRootsOneWrongFalsely : Prop := fnDirtyRootsOneRow.holds Try.pinned (OpenSpec.ofChange fnDirtyRootsOneWrong)

/-- 'laws.FnDirtyRoots': WHATEVER THE INPUT: true; the input reads as it did. -/
def fnDirtyRootsSpec : ChangeSpec := { name := "fnDirtyRoots", fn := fun _ => fun
  | [d] => { results := [.lit (.bool true)], args := [d] }
  | _ => none }
def fnDirtyRootsRow : OpenClaim := { program := "ytckggmbmlpikhaa", sum := "a296dcc5b1066438b926499b997028d0aca8bf0edd698f633ae8c2ccf028a9b2", func := "loop.example/flexlayout/laws.FnDirtyRoots", spec := "fnDirtyRoots", unfollowed := true, recurses := true, apart := false }
def FnDirtyRootsSaid : Prop := fnDirtyRootsRow.holds Try.pinned (OpenSpec.ofChange fnDirtyRootsSpec)

/-- ITS FALSE NEIGHBOUR: 'it returns false'. Refute it at one input. -/
def fnDirtyRootsWrong : ChangeSpec := { name := "fnDirtyRoots", fn := fun _ => fun
  | [d] => { results := [.lit (.bool false)], args := [d] }
  | _ => none }
def FnDirtyRootsWrongFalsely : Prop := fnDirtyRootsRow.holds Try.pinned (OpenSpec.ofChange fnDirtyRootsWrong)

/-- 'laws.FnExactRemoveBox': WHATEVER THE INPUT: true; the input reads as it did. -/
def fnExactRemoveBoxSpec : ChangeSpec := { name := "fnExactRemoveBox", fn := fun _ => fun
  | [d1, d2] => { results := [.lit (.bool true)], args := [d1, d2] }
  | _ => none }
def fnExactRemoveBoxRow : OpenClaim := { program := "ytckggmbmlpikhaa", sum := "a296dcc5b1066438b926499b997028d0aca8bf0edd698f633ae8c2ccf028a9b2", func := "loop.example/flexlayout/laws.FnExactRemoveBox", spec := "fnExactRemoveBox", apart := false }
def FnExactRemoveBoxSaid : Prop := fnExactRemoveBoxRow.holds Try.pinned (OpenSpec.ofChange fnExactRemoveBoxSpec)

/-- ITS FALSE NEIGHBOUR: 'it returns false'. Refute it at one input. -/
def fnExactRemoveBoxWrong : ChangeSpec := { name := "fnExactRemoveBox", fn := fun _ => fun
  | [d1, d2] => { results := [.lit (.bool false)], args := [d1, d2] }
  | _ => none }
def FnExactRemoveBoxWrongFalsely : Prop := fnExactRemoveBoxRow.holds Try.pinned (OpenSpec.ofChange fnExactRemoveBoxWrong)

/-- 'laws.FnDirtyBoxes': WHATEVER THE INPUT: true; the input reads as it did. -/
def fnDirtyBoxesSpec : ChangeSpec := { name := "fnDirtyBoxes", fn := fun _ => fun
  | [d] => { results := [.lit (.bool true)], args := [d] }
  | _ => none }
def fnDirtyBoxesRow : OpenClaim := { program := "ytckggmbmlpikhaa", sum := "a296dcc5b1066438b926499b997028d0aca8bf0edd698f633ae8c2ccf028a9b2", func := "loop.example/flexlayout/laws.FnDirtyBoxes", spec := "fnDirtyBoxes", unfollowed := true, recurses := true, apart := false }
def FnDirtyBoxesSaid : Prop := fnDirtyBoxesRow.holds Try.pinned (OpenSpec.ofChange fnDirtyBoxesSpec)

/-- ITS FALSE NEIGHBOUR: 'it returns false'. Refute it at one input. -/
def fnDirtyBoxesWrong : ChangeSpec := { name := "fnDirtyBoxes", fn := fun _ => fun
  | [d] => { results := [.lit (.bool false)], args := [d] }
  | _ => none }
def FnDirtyBoxesWrongFalsely : Prop := fnDirtyBoxesRow.holds Try.pinned (OpenSpec.ofChange fnDirtyBoxesWrong)

/-- 'laws.FnExactAddBox': WHATEVER THE INPUT: true; the input reads as it did. -/
def fnExactAddBoxSpec : ChangeSpec := { name := "fnExactAddBox", fn := fun _ => fun
  | [d1, d2, d3] => { results := [.lit (.bool true)], args := [d1, d2, d3] }
  | _ => none }
def fnExactAddBoxRow : OpenClaim := { program := "ytckggmbmlpikhaa", sum := "a296dcc5b1066438b926499b997028d0aca8bf0edd698f633ae8c2ccf028a9b2", func := "loop.example/flexlayout/laws.FnExactAddBox", spec := "fnExactAddBox", apart := false }
def FnExactAddBoxSaid : Prop := fnExactAddBoxRow.holds Try.pinned (OpenSpec.ofChange fnExactAddBoxSpec)

/-- ITS FALSE NEIGHBOUR: 'it returns false'. Refute it at one input. -/
def fnExactAddBoxWrong : ChangeSpec := { name := "fnExactAddBox", fn := fun _ => fun
  | [d1, d2, d3] => { results := [.lit (.bool false)], args := [d1, d2, d3] }
  | _ => none }
def FnExactAddBoxWrongFalsely : Prop := fnExactAddBoxRow.holds Try.pinned (OpenSpec.ofChange fnExactAddBoxWrong)

/-- 'laws.FnCleanBoxAll': WHATEVER THE INPUT: true; the input reads as it did. -/
def fnCleanBoxAllSpec : ChangeSpec := { name := "fnCleanBoxAll", fn := fun _ => fun
  | [d] => { results := [.lit (.bool true)], args := [d] }
  | _ => none }
def fnCleanBoxAllRow : OpenClaim := { program := "ytckggmbmlpikhaa", sum := "a296dcc5b1066438b926499b997028d0aca8bf0edd698f633ae8c2ccf028a9b2", func := "loop.example/flexlayout/laws.FnCleanBoxAll", spec := "fnCleanBoxAll", unfollowed := true, recurses := true, apart := false }
def FnCleanBoxAllSaid : Prop := fnCleanBoxAllRow.holds Try.pinned (OpenSpec.ofChange fnCleanBoxAllSpec)

/-- ITS FALSE NEIGHBOUR: 'it returns false'. Refute it at one input. -/
def fnCleanBoxAllWrong : ChangeSpec := { name := "fnCleanBoxAll", fn := fun _ => fun
  | [d] => { results := [.lit (.bool false)], args := [d] }
  | _ => none }
def FnCleanBoxAllWrongFalsely : Prop := fnCleanBoxAllRow.holds Try.pinned (OpenSpec.ofChange fnCleanBoxAllWrong)

/-- 'laws.FnCleanBox': WHATEVER THE INPUT: true; the input reads as it did. -/
def fnCleanBoxSpec : ChangeSpec := { name := "fnCleanBox", fn := fun _ => fun
  | [d] => { results := [.lit (.bool true)], args := [d] }
  | _ => none }
def fnCleanBoxRow : OpenClaim := { program := "ytckggmbmlpikhaa", sum := "a296dcc5b1066438b926499b997028d0aca8bf0edd698f633ae8c2ccf028a9b2", func := "loop.example/flexlayout/laws.FnCleanBox", spec := "fnCleanBox", unfollowed := true, recurses := true, apart := false }
def FnCleanBoxSaid : Prop := fnCleanBoxRow.holds Try.pinned (OpenSpec.ofChange fnCleanBoxSpec)

/-- ITS FALSE NEIGHBOUR: 'it returns false'. Refute it at one input. -/
def fnCleanBoxWrong : ChangeSpec := { name := "fnCleanBox", fn := fun _ => fun
  | [d] => { results := [.lit (.bool false)], args := [d] }
  | _ => none }
def FnCleanBoxWrongFalsely : Prop := fnCleanBoxRow.holds Try.pinned (OpenSpec.ofChange fnCleanBoxWrong)

/- THE SECOND FORM. 'bulk': how many values and letters a reading holds, each counted each time it is reached (what is shared counts as often as it is met; a slice's spare places count too). A statement '..UptoSaid' is the law's where the arguments, and the package variables that the reading takes, are together of bulk at most 1048576: NARROWER than '..Said'. Prove '..Said' where nothing that the law and all that it calls make is longer than what came in: it says more and counts as full. Else prove '..UptoSaid'. A law counts once. -/
mutual
def uptoBulk {H : Type} : DataW H → Nat
  | .lit (.string bytes) => bytes.length + 1
  | .lit _ => 1
  | .nil => 1
  | .ptr d => uptoBulk d + 1
  | .slice elems spare => uptoBulkAll elems + uptoBulkAll spare + 1
  | .agg parts => uptoBulkAll parts + 1
  | .iface _ d => uptoBulk d + 1
  | .map entries => uptoBulkEntries entries + 1
  | .held _ => 1
def uptoBulkAll {H : Type} : List (DataW H) → Nat
  | [] => 0
  | d :: r => uptoBulk d + uptoBulkAll r
def uptoBulkEntries {H : Type} : List (Lit × DataW H) → Nat
  | [] => 0
  | x :: r => uptoBulkEntry x + uptoBulkEntries r
def uptoBulkEntry {H : Type} : Lit × DataW H → Nat
  | (.string bytes, d) => bytes.length + uptoBulk d + 1
  | (_, d) => uptoBulk d + 1
 end
def uptoSmall : (H : Type) → List (DataW H) → Bool := fun _ ds => decide (uptoBulkAll ds ≤ 1048576)
def OpenSpec.upto (s : _root_.Go.ChangeSpec) : _root_.Go.OpenSpec := { _root_.Go.OpenSpec.ofChange s with cond := some uptoSmall }

/-- 'laws.FnExactPartOf', WHERE WHAT IT READS IS OF BULK AT MOST 1048576: true; the input reads as it did. -/
def fnExactPartOfUptoRow : OpenClaim := { program := "ytckggmbmlpikhaa", sum := "a296dcc5b1066438b926499b997028d0aca8bf0edd698f633ae8c2ccf028a9b2", func := "loop.example/flexlayout/laws.FnExactPartOf", spec := "fnExactPartOf", apart := false, narrowed := true }
def FnExactPartOfUptoSaid : Prop := fnExactPartOfUptoRow.holds Try.pinned (OpenSpec.upto fnExactPartOfSpec)

/-- 'laws.FnAddBoxSize', WHERE WHAT IT READS IS OF BULK AT MOST 1048576: true; the input reads as it did. -/
def fnAddBoxSizeUptoRow : OpenClaim := { program := "ytckggmbmlpikhaa", sum := "a296dcc5b1066438b926499b997028d0aca8bf0edd698f633ae8c2ccf028a9b2", func := "loop.example/flexlayout/laws.FnAddBoxSize", spec := "fnAddBoxSize", recurses := true, apart := false, narrowed := true }
def FnAddBoxSizeUptoSaid : Prop := fnAddBoxSizeUptoRow.holds Try.pinned (OpenSpec.upto fnAddBoxSizeSpec)

/-- 'laws.FnRemoveBoxOrder', WHERE WHAT IT READS IS OF BULK AT MOST 1048576: true; the input reads as it did. -/
def fnRemoveBoxOrderUptoRow : OpenClaim := { program := "ytckggmbmlpikhaa", sum := "a296dcc5b1066438b926499b997028d0aca8bf0edd698f633ae8c2ccf028a9b2", func := "loop.example/flexlayout/laws.FnRemoveBoxOrder", spec := "fnRemoveBoxOrder", apart := false, narrowed := true }
def FnRemoveBoxOrderUptoSaid : Prop := fnRemoveBoxOrderUptoRow.holds Try.pinned (OpenSpec.upto fnRemoveBoxOrderSpec)

/-- 'laws.FnDirtyRootsOne', WHERE WHAT IT READS IS OF BULK AT MOST 1048576: true; the input reads as it did. -/
def fnDirtyRootsOneUptoRow : OpenClaim := { program := "ytckggmbmlpikhaa", sum := "a296dcc5b1066438b926499b997028d0aca8bf0edd698f633ae8c2ccf028a9b2", func := "loop.example/flexlayout/laws.FnDirtyRootsOne", spec := "fnDirtyRootsOne", unfollowed := true, recurses := true, apart := false, narrowed := true }
def FnDirtyRootsOneUptoSaid : Prop := fnDirtyRootsOneUptoRow.holds Try.pinned (OpenSpec.upto fnDirtyRootsOneSpec)

/-- 'laws.FnDirtyRoots', WHERE WHAT IT READS IS OF BULK AT MOST 1048576: true; the input reads as it did. -/
def fnDirtyRootsUptoRow : OpenClaim := { program := "ytckggmbmlpikhaa", sum := "a296dcc5b1066438b926499b997028d0aca8bf0edd698f633ae8c2ccf028a9b2", func := "loop.example/flexlayout/laws.FnDirtyRoots", spec := "fnDirtyRoots", unfollowed := true, recurses := true, apart := false, narrowed := true }
def FnDirtyRootsUptoSaid : Prop := fnDirtyRootsUptoRow.holds Try.pinned (OpenSpec.upto fnDirtyRootsSpec)

/-- 'laws.FnExactRemoveBox', WHERE WHAT IT READS IS OF BULK AT MOST 1048576: true; the input reads as it did. -/
def fnExactRemoveBoxUptoRow : OpenClaim := { program := "ytckggmbmlpikhaa", sum := "a296dcc5b1066438b926499b997028d0aca8bf0edd698f633ae8c2ccf028a9b2", func := "loop.example/flexlayout/laws.FnExactRemoveBox", spec := "fnExactRemoveBox", apart := false, narrowed := true }
def FnExactRemoveBoxUptoSaid : Prop := fnExactRemoveBoxUptoRow.holds Try.pinned (OpenSpec.upto fnExactRemoveBoxSpec)

/-- 'laws.FnDirtyBoxes', WHERE WHAT IT READS IS OF BULK AT MOST 1048576: true; the input reads as it did. -/
def fnDirtyBoxesUptoRow : OpenClaim := { program := "ytckggmbmlpikhaa", sum := "a296dcc5b1066438b926499b997028d0aca8bf0edd698f633ae8c2ccf028a9b2", func := "loop.example/flexlayout/laws.FnDirtyBoxes", spec := "fnDirtyBoxes", unfollowed := true, recurses := true, apart := false, narrowed := true }
def FnDirtyBoxesUptoSaid : Prop := fnDirtyBoxesUptoRow.holds Try.pinned (OpenSpec.upto fnDirtyBoxesSpec)

/-- 'laws.FnExactAddBox', WHERE WHAT IT READS IS OF BULK AT MOST 1048576: true; the input reads as it did. -/
def fnExactAddBoxUptoRow : OpenClaim := { program := "ytckggmbmlpikhaa", sum := "a296dcc5b1066438b926499b997028d0aca8bf0edd698f633ae8c2ccf028a9b2", func := "loop.example/flexlayout/laws.FnExactAddBox", spec := "fnExactAddBox", apart := false, narrowed := true }
def FnExactAddBoxUptoSaid : Prop := fnExactAddBoxUptoRow.holds Try.pinned (OpenSpec.upto fnExactAddBoxSpec)

/-- 'laws.FnCleanBoxAll', WHERE WHAT IT READS IS OF BULK AT MOST 1048576: true; the input reads as it did. -/
def fnCleanBoxAllUptoRow : OpenClaim := { program := "ytckggmbmlpikhaa", sum := "a296dcc5b1066438b926499b997028d0aca8bf0edd698f633ae8c2ccf028a9b2", func := "loop.example/flexlayout/laws.FnCleanBoxAll", spec := "fnCleanBoxAll", unfollowed := true, recurses := true, apart := false, narrowed := true }
def FnCleanBoxAllUptoSaid : Prop := fnCleanBoxAllUptoRow.holds Try.pinned (OpenSpec.upto fnCleanBoxAllSpec)

/-- 'laws.FnCleanBox', WHERE WHAT IT READS IS OF BULK AT MOST 1048576: true; the input reads as it did. -/
def fnCleanBoxUptoRow : OpenClaim := { program := "ytckggmbmlpikhaa", sum := "a296dcc5b1066438b926499b997028d0aca8bf0edd698f633ae8c2ccf028a9b2", func := "loop.example/flexlayout/laws.FnCleanBox", spec := "fnCleanBox", unfollowed := true, recurses := true, apart := false, narrowed := true }
def FnCleanBoxUptoSaid : Prop := fnCleanBoxUptoRow.holds Try.pinned (OpenSpec.upto fnCleanBoxSpec)

end Rows
end Go.Proofs.Ytckggmbmlpikhaa
