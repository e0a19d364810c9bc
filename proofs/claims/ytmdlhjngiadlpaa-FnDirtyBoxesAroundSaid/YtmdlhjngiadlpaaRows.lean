/-
  No cell of these rows narrows 'for every input' (looked for: loops, veiled, ifaces, maps, wideKeys, modest, calm, conditions, laid).
  DERIVED. THE GIVEN ROWS OF THIS SEAT. 12 by the template 'for every input the law returns true; each argument reads behind the call as it read before'; 0 by the template 'total and deterministic' (their statements: YtmdlhjngiadlpaaTotals.lean).
  GIVEN WITH THE SEED: the statements are not yours to turn. If you find one false, say at which input.
  Laid BY PROGRAM, IN A SANDBOX (cutbox-rows.mjs): the forced cells as the released guide's own fill.sh prints them over the translation 0e43c715bf4cd33e… (all of the seat's roots in one cut). By AI agents, Wed Nov 11 2026. No macro, syntax, notation, axiom, sorry.
-/
import Derived.Test.YtmdlhjngiadlpaaChecked
import GoSem.Claim
import GoSem.ClaimJoined
import GoSem.ClaimMapViews
import Derived.JoinedTies
import Derived.KernelRfl
namespace Go.Proofs.Ytmdlhjngiadlpaa
/- THE CELL 'sum', in the pinned program and in every row, IS THE sha256 OF THE DUMP (.gsa) THAT YtmdlhjngiadlpaaProg.lean LOADS. Nothing in Lean hashes anything: it is a label: what it is worth is what the hold of that sum in a sandbox is worth. -/
noncomputable def Try.pinned : Pinned := { name := "ytmdlhjngiadlpaa", sum := "0e43c715bf4cd33ea0b8a69d6f63d17d799850f108d6914cd6b42e63ceb711c4", checked := Try.checked }
namespace Rows
def none {H : Type} : Left H := { results := [], args := [] }

/-- 'laws.FnStyleBox': WHATEVER THE INPUT: true; the input reads as it did. -/
def fnStyleBoxSpec : ChangeSpec := { name := "fnStyleBox", fn := fun _ => fun
  | [d] => { results := [.lit (.bool true)], args := [d] }
  | _ => none }
def fnStyleBoxRow : OpenClaim := { program := "ytmdlhjngiadlpaa", sum := "0e43c715bf4cd33ea0b8a69d6f63d17d799850f108d6914cd6b42e63ceb711c4", func := "loop.example/flexlayout/laws.FnStyleBox", spec := "fnStyleBox", apart := false }
def FnStyleBoxSaid : Prop := fnStyleBoxRow.holds Try.pinned (OpenSpec.ofChange fnStyleBoxSpec)

/-- ITS FALSE NEIGHBOUR: 'it returns false'. Refute it at one input. -/
def fnStyleBoxWrong : ChangeSpec := { name := "fnStyleBox", fn := fun _ => fun
  | [d] => { results := [.lit (.bool false)], args := [d] }
  | _ => none }
def FnStyleBoxWrongFalsely : Prop := fnStyleBoxRow.holds Try.pinned (OpenSpec.ofChange fnStyleBoxWrong)

/-- 'laws.FnExactPartOf': WHATEVER THE INPUT: true; the input reads as it did. -/
def fnExactPartOfSpec : ChangeSpec := { name := "fnExactPartOf", fn := fun _ => fun
  | [d1, d2] => { results := [.lit (.bool true)], args := [d1, d2] }
  | _ => none }
def fnExactPartOfRow : OpenClaim := { program := "ytmdlhjngiadlpaa", sum := "0e43c715bf4cd33ea0b8a69d6f63d17d799850f108d6914cd6b42e63ceb711c4", func := "loop.example/flexlayout/laws.FnExactPartOf", spec := "fnExactPartOf", apart := false }
def FnExactPartOfSaid : Prop := fnExactPartOfRow.holds Try.pinned (OpenSpec.ofChange fnExactPartOfSpec)

/-- ITS FALSE NEIGHBOUR: 'it returns false'. Refute it at one input. -/
def fnExactPartOfWrong : ChangeSpec := { name := "fnExactPartOf", fn := fun _ => fun
  | [d1, d2] => { results := [.lit (.bool false)], args := [d1, d2] }
  | _ => none }
def FnExactPartOfWrongFalsely : Prop := fnExactPartOfRow.holds Try.pinned (OpenSpec.ofChange fnExactPartOfWrong)

/-- 'laws.FnNaturalSizePad': WHATEVER THE INPUT: true; the input reads as it did. -/
def fnNaturalSizePadSpec : ChangeSpec := { name := "fnNaturalSizePad", fn := fun _ => fun
  | [d] => { results := [.lit (.bool true)], args := [d] }
  | _ => none }
def fnNaturalSizePadRow : OpenClaim := { program := "ytmdlhjngiadlpaa", sum := "0e43c715bf4cd33ea0b8a69d6f63d17d799850f108d6914cd6b42e63ceb711c4", func := "loop.example/flexlayout/laws.FnNaturalSizePad", spec := "fnNaturalSizePad", recurses := true, apart := false }
def FnNaturalSizePadSaid : Prop := fnNaturalSizePadRow.holds Try.pinned (OpenSpec.ofChange fnNaturalSizePadSpec)

/-- ITS FALSE NEIGHBOUR: 'it returns false'. Refute it at one input. -/
def fnNaturalSizePadWrong : ChangeSpec := { name := "fnNaturalSizePad", fn := fun _ => fun
  | [d] => { results := [.lit (.bool false)], args := [d] }
  | _ => none }
def FnNaturalSizePadWrongFalsely : Prop := fnNaturalSizePadRow.holds Try.pinned (OpenSpec.ofChange fnNaturalSizePadWrong)

/-- 'laws.FnPartOfSize': WHATEVER THE INPUT: true; the input reads as it did. -/
def fnPartOfSizeSpec : ChangeSpec := { name := "fnPartOfSize", fn := fun _ => fun
  | [d] => { results := [.lit (.bool true)], args := [d] }
  | _ => none }
def fnPartOfSizeRow : OpenClaim := { program := "ytmdlhjngiadlpaa", sum := "0e43c715bf4cd33ea0b8a69d6f63d17d799850f108d6914cd6b42e63ceb711c4", func := "loop.example/flexlayout/laws.FnPartOfSize", spec := "fnPartOfSize", recurses := true, apart := false }
def FnPartOfSizeSaid : Prop := fnPartOfSizeRow.holds Try.pinned (OpenSpec.ofChange fnPartOfSizeSpec)

/-- ITS FALSE NEIGHBOUR: 'it returns false'. Refute it at one input. -/
def fnPartOfSizeWrong : ChangeSpec := { name := "fnPartOfSize", fn := fun _ => fun
  | [d] => { results := [.lit (.bool false)], args := [d] }
  | _ => none }
def FnPartOfSizeWrongFalsely : Prop := fnPartOfSizeRow.holds Try.pinned (OpenSpec.ofChange fnPartOfSizeWrong)

/-- 'laws.FnWidestKid': WHATEVER THE INPUT: true; the input reads as it did. -/
def fnWidestKidSpec : ChangeSpec := { name := "fnWidestKid", fn := fun _ => fun
  | [d] => { results := [.lit (.bool true)], args := [d] }
  | _ => none }
def fnWidestKidRow : OpenClaim := { program := "ytmdlhjngiadlpaa", sum := "0e43c715bf4cd33ea0b8a69d6f63d17d799850f108d6914cd6b42e63ceb711c4", func := "loop.example/flexlayout/laws.FnWidestKid", spec := "fnWidestKid", recurses := true, apart := false }
def FnWidestKidSaid : Prop := fnWidestKidRow.holds Try.pinned (OpenSpec.ofChange fnWidestKidSpec)

/-- ITS FALSE NEIGHBOUR: 'it returns false'. Refute it at one input. -/
def fnWidestKidWrong : ChangeSpec := { name := "fnWidestKid", fn := fun _ => fun
  | [d] => { results := [.lit (.bool false)], args := [d] }
  | _ => none }
def FnWidestKidWrongFalsely : Prop := fnWidestKidRow.holds Try.pinned (OpenSpec.ofChange fnWidestKidWrong)

/-- 'laws.FnDirtyBoxesAll': WHATEVER THE INPUT: true; the input reads as it did. -/
def fnDirtyBoxesAllSpec : ChangeSpec := { name := "fnDirtyBoxesAll", fn := fun _ => fun
  | [d] => { results := [.lit (.bool true)], args := [d] }
  | _ => none }
def fnDirtyBoxesAllRow : OpenClaim := { program := "ytmdlhjngiadlpaa", sum := "0e43c715bf4cd33ea0b8a69d6f63d17d799850f108d6914cd6b42e63ceb711c4", func := "loop.example/flexlayout/laws.FnDirtyBoxesAll", spec := "fnDirtyBoxesAll", unfollowed := true, recurses := true, apart := false }
def FnDirtyBoxesAllSaid : Prop := fnDirtyBoxesAllRow.holds Try.pinned (OpenSpec.ofChange fnDirtyBoxesAllSpec)

/-- ITS FALSE NEIGHBOUR: 'it returns false'. Refute it at one input. -/
def fnDirtyBoxesAllWrong : ChangeSpec := { name := "fnDirtyBoxesAll", fn := fun _ => fun
  | [d] => { results := [.lit (.bool false)], args := [d] }
  | _ => none }
def FnDirtyBoxesAllWrongFalsely : Prop := fnDirtyBoxesAllRow.holds Try.pinned (OpenSpec.ofChange fnDirtyBoxesAllWrong)

/-- 'laws.FnAddBoxCount': WHATEVER THE INPUT: true; the input reads as it did. -/
def fnAddBoxCountSpec : ChangeSpec := { name := "fnAddBoxCount", fn := fun _ => fun
  | [d] => { results := [.lit (.bool true)], args := [d] }
  | _ => none }
def fnAddBoxCountRow : OpenClaim := { program := "ytmdlhjngiadlpaa", sum := "0e43c715bf4cd33ea0b8a69d6f63d17d799850f108d6914cd6b42e63ceb711c4", func := "loop.example/flexlayout/laws.FnAddBoxCount", spec := "fnAddBoxCount", apart := false }
def FnAddBoxCountSaid : Prop := fnAddBoxCountRow.holds Try.pinned (OpenSpec.ofChange fnAddBoxCountSpec)

/-- ITS FALSE NEIGHBOUR: 'it returns false'. Refute it at one input. -/
def fnAddBoxCountWrong : ChangeSpec := { name := "fnAddBoxCount", fn := fun _ => fun
  | [d] => { results := [.lit (.bool false)], args := [d] }
  | _ => none }
def FnAddBoxCountWrongFalsely : Prop := fnAddBoxCountRow.holds Try.pinned (OpenSpec.ofChange fnAddBoxCountWrong)

/-- 'laws.FnAddBoxLeaf': WHATEVER THE INPUT: true; the input reads as it did. -/
def fnAddBoxLeafSpec : ChangeSpec := { name := "fnAddBoxLeaf", fn := fun _ => fun
  | [d] => { results := [.lit (.bool true)], args := [d] }
  | _ => none }
def fnAddBoxLeafRow : OpenClaim := { program := "ytmdlhjngiadlpaa", sum := "0e43c715bf4cd33ea0b8a69d6f63d17d799850f108d6914cd6b42e63ceb711c4", func := "loop.example/flexlayout/laws.FnAddBoxLeaf", spec := "fnAddBoxLeaf", apart := false }
def FnAddBoxLeafSaid : Prop := fnAddBoxLeafRow.holds Try.pinned (OpenSpec.ofChange fnAddBoxLeafSpec)

/-- ITS FALSE NEIGHBOUR: 'it returns false'. Refute it at one input. -/
def fnAddBoxLeafWrong : ChangeSpec := { name := "fnAddBoxLeaf", fn := fun _ => fun
  | [d] => { results := [.lit (.bool false)], args := [d] }
  | _ => none }
def FnAddBoxLeafWrongFalsely : Prop := fnAddBoxLeafRow.holds Try.pinned (OpenSpec.ofChange fnAddBoxLeafWrong)

/-- 'laws.FnAddBox': WHATEVER THE INPUT: true; the input reads as it did. -/
def fnAddBoxSpec : ChangeSpec := { name := "fnAddBox", fn := fun _ => fun
  | [d] => { results := [.lit (.bool true)], args := [d] }
  | _ => none }
def fnAddBoxRow : OpenClaim := { program := "ytmdlhjngiadlpaa", sum := "0e43c715bf4cd33ea0b8a69d6f63d17d799850f108d6914cd6b42e63ceb711c4", func := "loop.example/flexlayout/laws.FnAddBox", spec := "fnAddBox", apart := false }
def FnAddBoxSaid : Prop := fnAddBoxRow.holds Try.pinned (OpenSpec.ofChange fnAddBoxSpec)

/-- ITS FALSE NEIGHBOUR: 'it returns false'. Refute it at one input. -/
def fnAddBoxWrong : ChangeSpec := { name := "fnAddBox", fn := fun _ => fun
  | [d] => { results := [.lit (.bool false)], args := [d] }
  | _ => none }
def FnAddBoxWrongFalsely : Prop := fnAddBoxRow.holds Try.pinned (OpenSpec.ofChange fnAddBoxWrong)

/-- 'laws.FnRemoveBox': WHATEVER THE INPUT: true; the input reads as it did. -/
def fnRemoveBoxSpec : ChangeSpec := { name := "fnRemoveBox", fn := fun _ => fun
  | [d] => { results := [.lit (.bool true)], args := [d] }
  | _ => none }
def fnRemoveBoxRow : OpenClaim := { program := "ytmdlhjngiadlpaa", sum := "0e43c715bf4cd33ea0b8a69d6f63d17d799850f108d6914cd6b42e63ceb711c4", func := "loop.example/flexlayout/laws.FnRemoveBox", spec := "fnRemoveBox", apart := false }
def FnRemoveBoxSaid : Prop := fnRemoveBoxRow.holds Try.pinned (OpenSpec.ofChange fnRemoveBoxSpec)

/-- ITS FALSE NEIGHBOUR: 'it returns false'. Refute it at one input. -/
def fnRemoveBoxWrong : ChangeSpec := { name := "fnRemoveBox", fn := fun _ => fun
  | [d] => { results := [.lit (.bool false)], args := [d] }
  | _ => none }
def FnRemoveBoxWrongFalsely : Prop := fnRemoveBoxRow.holds Try.pinned (OpenSpec.ofChange fnRemoveBoxWrong)

/-- 'laws.FnDirtyRootsAgain': WHATEVER THE INPUT: true; the input reads as it did. -/
def fnDirtyRootsAgainSpec : ChangeSpec := { name := "fnDirtyRootsAgain", fn := fun _ => fun
  | [d] => { results := [.lit (.bool true)], args := [d] }
  | _ => none }
def fnDirtyRootsAgainRow : OpenClaim := { program := "ytmdlhjngiadlpaa", sum := "0e43c715bf4cd33ea0b8a69d6f63d17d799850f108d6914cd6b42e63ceb711c4", func := "loop.example/flexlayout/laws.FnDirtyRootsAgain", spec := "fnDirtyRootsAgain", unfollowed := true, recurses := true, apart := false }
def FnDirtyRootsAgainSaid : Prop := fnDirtyRootsAgainRow.holds Try.pinned (OpenSpec.ofChange fnDirtyRootsAgainSpec)

/-- ITS FALSE NEIGHBOUR: 'it returns false'. Refute it at one input. -/
def fnDirtyRootsAgainWrong : ChangeSpec := { name := "fnDirtyRootsAgain", fn := fun _ => fun
  | [d] => { results := [.lit (.bool false)], args := [d] }
  | _ => none }
def FnDirtyRootsAgainWrongFalsely : Prop := fnDirtyRootsAgainRow.holds Try.pinned (OpenSpec.ofChange fnDirtyRootsAgainWrong)

/-- 'laws.FnDirtyBoxesAround': WHATEVER THE INPUT: true; the input reads as it did. -/
def fnDirtyBoxesAroundSpec : ChangeSpec := { name := "fnDirtyBoxesAround", fn := fun _ => fun
  | [d] => { results := [.lit (.bool true)], args := [d] }
  | _ => none }
def fnDirtyBoxesAroundRow : OpenClaim := { program := "ytmdlhjngiadlpaa", sum := "0e43c715bf4cd33ea0b8a69d6f63d17d799850f108d6914cd6b42e63ceb711c4", func := "loop.example/flexlayout/laws.FnDirtyBoxesAround", spec := "fnDirtyBoxesAround", unfollowed := true, recurses := true, apart := false }
def FnDirtyBoxesAroundSaid : Prop := fnDirtyBoxesAroundRow.holds Try.pinned (OpenSpec.ofChange fnDirtyBoxesAroundSpec)

/-- ITS FALSE NEIGHBOUR: 'it returns false'. Refute it at one input. -/
def fnDirtyBoxesAroundWrong : ChangeSpec := { name := "fnDirtyBoxesAround", fn := fun _ => fun
  | [d] => { results := [.lit (.bool false)], args := [d] }
  | _ => none }
def FnDirtyBoxesAroundWrongFalsely : Prop := fnDirtyBoxesAroundRow.holds Try.pinned (OpenSpec.ofChange fnDirtyBoxesAroundWrong)

/- THE SECOND FORM. 'bulk': how many values and letters a reading holds, each counted each time it is reached (what is shared counts as often as it is met; a slice's spare places count too). A statement '..UptoSaid' is the law's where the arguments, and the package variables that the reading takes, are together of bulk at most 1048576: NARROWER than '..Said'. Prove '..Said' where nothing that the law and all that it calls make is longer than what came in: it says more and counts as full. Else prove '..UptoSaid'. A law counts once. -/
mutual
def uptoBulk {H : Type} : DataW H → Nat
  | .lit (.string bytes) => bytes.length + 1
  | .lit _ => 1
  | .nil => 1
  | .ptr d => uptoBulk d + 1
  | .slice elems spare => uptoBulkAll elems + uptoBulkAll spare + 1
  | .agg parts => uptoBulkAll parts + 1
  | .iface _ d => uptoBulk d + 1
  | .map entries => uptoBulkEntries entries + 1
  | .held _ => 1
def uptoBulkAll {H : Type} : List (DataW H) → Nat
  | [] => 0
  | d :: r => uptoBulk d + uptoBulkAll r
def uptoBulkEntries {H : Type} : List (Lit × DataW H) → Nat
  | [] => 0
  | x :: r => uptoBulkEntry x + uptoBulkEntries r
def uptoBulkEntry {H : Type} : Lit × DataW H → Nat
  | (.string bytes, d) => bytes.length + uptoBulk d + 1
  | (_, d) => uptoBulk d + 1
 end
def uptoSmall : (H : Type) → List (DataW H) → Bool := fun _ ds => decide (uptoBulkAll ds ≤ 1048576)
def OpenSpec.upto (s : _root_.Go.ChangeSpec) : _root_.Go.OpenSpec := { _root_.Go.OpenSpec.ofChange s with cond := some uptoSmall }

/-- 'laws.FnStyleBox', WHERE WHAT IT READS IS OF BULK AT MOST 1048576: true; the input reads as it did. -/
def fnStyleBoxUptoRow : OpenClaim := { program := "ytmdlhjngiadlpaa", sum := "0e43c715bf4cd33ea0b8a69d6f63d17d799850f108d6914cd6b42e63ceb711c4", func := "loop.example/flexlayout/laws.FnStyleBox", spec := "fnStyleBox", apart := false, narrowed := true }
def FnStyleBoxUptoSaid : Prop := fnStyleBoxUptoRow.holds Try.pinned (OpenSpec.upto fnStyleBoxSpec)

/-- 'laws.FnExactPartOf', WHERE WHAT IT READS IS OF BULK AT MOST 1048576: true; the input reads as it did. -/
def fnExactPartOfUptoRow : OpenClaim := { program := "ytmdlhjngiadlpaa", sum := "0e43c715bf4cd33ea0b8a69d6f63d17d799850f108d6914cd6b42e63ceb711c4", func := "loop.example/flexlayout/laws.FnExactPartOf", spec := "fnExactPartOf", apart := false, narrowed := true }
def FnExactPartOfUptoSaid : Prop := fnExactPartOfUptoRow.holds Try.pinned (OpenSpec.upto fnExactPartOfSpec)

/-- 'laws.FnNaturalSizePad', WHERE WHAT IT READS IS OF BULK AT MOST 1048576: true; the input reads as it did. -/
def fnNaturalSizePadUptoRow : OpenClaim := { program := "ytmdlhjngiadlpaa", sum := "0e43c715bf4cd33ea0b8a69d6f63d17d799850f108d6914cd6b42e63ceb711c4", func := "loop.example/flexlayout/laws.FnNaturalSizePad", spec := "fnNaturalSizePad", recurses := true, apart := false, narrowed := true }
def FnNaturalSizePadUptoSaid : Prop := fnNaturalSizePadUptoRow.holds Try.pinned (OpenSpec.upto fnNaturalSizePadSpec)

/-- 'laws.FnPartOfSize', WHERE WHAT IT READS IS OF BULK AT MOST 1048576: true; the input reads as it did. -/
def fnPartOfSizeUptoRow : OpenClaim := { program := "ytmdlhjngiadlpaa", sum := "0e43c715bf4cd33ea0b8a69d6f63d17d799850f108d6914cd6b42e63ceb711c4", func := "loop.example/flexlayout/laws.FnPartOfSize", spec := "fnPartOfSize", recurses := true, apart := false, narrowed := true }
def FnPartOfSizeUptoSaid : Prop := fnPartOfSizeUptoRow.holds Try.pinned (OpenSpec.upto fnPartOfSizeSpec)

/-- 'laws.FnWidestKid', WHERE WHAT IT READS IS OF BULK AT MOST 1048576: true; the input reads as it did. -/
def fnWidestKidUptoRow : OpenClaim := { program := "ytmdlhjngiadlpaa", sum := "0e43c715bf4cd33ea0b8a69d6f63d17d799850f108d6914cd6b42e63ceb711c4", func := "loop.example/flexlayout/laws.FnWidestKid", spec := "fnWidestKid", recurses := true, apart := false, narrowed := true }
def FnWidestKidUptoSaid : Prop := fnWidestKidUptoRow.holds Try.pinned (OpenSpec.upto fnWidestKidSpec)

/-- 'laws.FnDirtyBoxesAll', WHERE WHAT IT READS IS OF BULK AT MOST 1048576: true; the input reads as it did. -/
def fnDirtyBoxesAllUptoRow : OpenClaim := { program := "ytmdlhjngiadlpaa", sum := "0e43c715bf4cd33ea0b8a69d6f63d17d799850f108d6914cd6b42e63ceb711c4", func := "loop.example/flexlayout/laws.FnDirtyBoxesAll", spec := "fnDirtyBoxesAll", unfollowed := true, recurses := true, apart := false, narrowed := true }
def FnDirtyBoxesAllUptoSaid : Prop := fnDirtyBoxesAllUptoRow.holds Try.pinned (OpenSpec.upto fnDirtyBoxesAllSpec)

/-- 'laws.FnAddBoxCount', WHERE WHAT IT READS IS OF BULK AT MOST 1048576: true; the input reads as it did. -/
def fnAddBoxCountUptoRow : OpenClaim := { program := "ytmdlhjngiadlpaa", sum := "0e43c715bf4cd33ea0b8a69d6f63d17d799850f108d6914cd6b42e63ceb711c4", func := "loop.example/flexlayout/laws.FnAddBoxCount", spec := "fnAddBoxCount", apart := false, narrowed := true }
def FnAddBoxCountUptoSaid : Prop := fnAddBoxCountUptoRow.holds Try.pinned (OpenSpec.upto fnAddBoxCountSpec)

/-- 'laws.FnAddBoxLeaf', WHERE WHAT IT READS IS OF BULK AT MOST 1048576: true; the input reads as it did. -/
def fnAddBoxLeafUptoRow : OpenClaim := { program := "ytmdlhjngiadlpaa", sum := "0e43c715bf4cd33ea0b8a69d6f63d17d799850f108d6914cd6b42e63ceb711c4", func := "loop.example/flexlayout/laws.FnAddBoxLeaf", spec := "fnAddBoxLeaf", apart := false, narrowed := true }
def FnAddBoxLeafUptoSaid : Prop := fnAddBoxLeafUptoRow.holds Try.pinned (OpenSpec.upto fnAddBoxLeafSpec)

/-- 'laws.FnAddBox', WHERE WHAT IT READS IS OF BULK AT MOST 1048576: true; the input reads as it did. -/
def fnAddBoxUptoRow : OpenClaim := { program := "ytmdlhjngiadlpaa", sum := "0e43c715bf4cd33ea0b8a69d6f63d17d799850f108d6914cd6b42e63ceb711c4", func := "loop.example/flexlayout/laws.FnAddBox", spec := "fnAddBox", apart := false, narrowed := true }
def FnAddBoxUptoSaid : Prop := fnAddBoxUptoRow.holds Try.pinned (OpenSpec.upto fnAddBoxSpec)

/-- 'laws.FnRemoveBox', WHERE WHAT IT READS IS OF BULK AT MOST 1048576: true; the input reads as it did. -/
def fnRemoveBoxUptoRow : OpenClaim := { program := "ytmdlhjngiadlpaa", sum := "0e43c715bf4cd33ea0b8a69d6f63d17d799850f108d6914cd6b42e63ceb711c4", func := "loop.example/flexlayout/laws.FnRemoveBox", spec := "fnRemoveBox", apart := false, narrowed := true }
def FnRemoveBoxUptoSaid : Prop := fnRemoveBoxUptoRow.holds Try.pinned (OpenSpec.upto fnRemoveBoxSpec)

/-- 'laws.FnDirtyRootsAgain', WHERE WHAT IT READS IS OF BULK AT MOST 1048576: true; the input reads as it did. -/
def fnDirtyRootsAgainUptoRow : OpenClaim := { program := "ytmdlhjngiadlpaa", sum := "0e43c715bf4cd33ea0b8a69d6f63d17d799850f108d6914cd6b42e63ceb711c4", func := "loop.example/flexlayout/laws.FnDirtyRootsAgain", spec := "fnDirtyRootsAgain", unfollowed := true, recurses := true, apart := false, narrowed := true }
def FnDirtyRootsAgainUptoSaid : Prop := fnDirtyRootsAgainUptoRow.holds Try.pinned (OpenSpec.upto fnDirtyRootsAgainSpec)

/-- 'laws.FnDirtyBoxesAround', WHERE WHAT IT READS IS OF BULK AT MOST 1048576: true; the input reads as it did. -/
def fnDirtyBoxesAroundUptoRow : OpenClaim := { program := "ytmdlhjngiadlpaa", sum := "0e43c715bf4cd33ea0b8a69d6f63d17d799850f108d6914cd6b42e63ceb711c4", func := "loop.example/flexlayout/laws.FnDirtyBoxesAround", spec := "fnDirtyBoxesAround", unfollowed := true, recurses := true, apart := false, narrowed := true }
def FnDirtyBoxesAroundUptoSaid : Prop := fnDirtyBoxesAroundUptoRow.holds Try.pinned (OpenSpec.upto fnDirtyBoxesAroundSpec)

end Rows
end Go.Proofs.Ytmdlhjngiadlpaa
