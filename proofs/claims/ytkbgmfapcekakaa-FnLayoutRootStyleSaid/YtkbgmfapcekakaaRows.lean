/-
  No cell of these rows narrows 'for every input' (looked for: loops, veiled, ifaces, maps, wideKeys, modest, calm, conditions, laid).
  DERIVED. THE GIVEN ROWS OF THIS SEAT. 12 by the template 'for every input the law returns true; each argument reads behind the call as it read before'; 0 by the template 'total and deterministic' (their statements: YtkbgmfapcekakaaTotals.lean).
  GIVEN WITH THE SEED: the statements are not yours to turn. If you find one false, say at which input.
  Laid BY PROGRAM, IN A SANDBOX (cutbox-rows.mjs): the forced cells as the released guide's own fill.sh prints them over the translation 1829d663398f6fce… (all of the seat's roots in one cut). By AI agents, Wed Nov 11 2026. No macro, syntax, notation, axiom, sorry.
-/
import Derived.Test.YtkbgmfapcekakaaChecked
import GoSem.Claim
import GoSem.ClaimJoined
import GoSem.ClaimMapViews
import Derived.JoinedTies
import Derived.KernelRfl
namespace Go.Proofs.Ytkbgmfapcekakaa
/- THE CELL 'sum', in the pinned program and in every row, IS THE sha256 OF THE DUMP (.gsa) THAT YtkbgmfapcekakaaProg.lean LOADS. Nothing in Lean hashes anything: it is a label: what it is worth is what the hold of that sum in a sandbox is worth. -/
noncomputable def Try.pinned : Pinned := { name := "ytkbgmfapcekakaa", sum := "1829d663398f6fcec37ead5cf6b3f8e7815571a5529b2c5c2dd6393348b20c5d", checked := Try.checked }
namespace Rows
def none {H : Type} : Left H := { results := [], args := [] }

/-- 'laws.FnLayoutRootStyle': WHATEVER THE INPUT: true; the input reads as it did. -/
def fnLayoutRootStyleSpec : ChangeSpec := { name := "fnLayoutRootStyle", fn := fun _ => fun
  | [d] => { results := [.lit (.bool true)], args := [d] }
  | _ => none }
def fnLayoutRootStyleRow : OpenClaim := { program := "ytkbgmfapcekakaa", sum := "1829d663398f6fcec37ead5cf6b3f8e7815571a5529b2c5c2dd6393348b20c5d", func := "loop.example/flexlayout/laws.FnLayoutRootStyle", spec := "fnLayoutRootStyle", unfollowed := true, recurses := true, apart := false }
def FnLayoutRootStyleSaid : Prop := fnLayoutRootStyleRow.holds Try.pinned (OpenSpec.ofChange fnLayoutRootStyleSpec)

/-- ITS FALSE NEIGHBOUR: 'it returns false'. Refute it at one input. -/
def fnLayoutRootStyleWrong : ChangeSpec := { name := "fnLayoutRootStyle", fn := fun _ => fun
  | [d] => { results := [.lit (.bool false)], args := [d] }
  | _ => none }
def FnLayoutRootStyleWrongFalsely : Prop := fnLayoutRootStyleRow.holds Try.pinned (OpenSpec.ofChange fnLayoutRootStyleWrong)

/-- 'laws.FnLayoutTreeWide': WHATEVER THE INPUT: true; the input reads as it did. -/
def fnLayoutTreeWideSpec : ChangeSpec := { name := "fnLayoutTreeWide", fn := fun _ => fun
  | [d] => { results := [.lit (.bool true)], args := [d] }
  | _ => none }
def fnLayoutTreeWideRow : OpenClaim := { program := "ytkbgmfapcekakaa", sum := "1829d663398f6fcec37ead5cf6b3f8e7815571a5529b2c5c2dd6393348b20c5d", func := "loop.example/flexlayout/laws.FnLayoutTreeWide", spec := "fnLayoutTreeWide", unfollowed := true, recurses := true, apart := false }
def FnLayoutTreeWideSaid : Prop := fnLayoutTreeWideRow.holds Try.pinned (OpenSpec.ofChange fnLayoutTreeWideSpec)

/-- ITS FALSE NEIGHBOUR: 'it returns false'. Refute it at one input. -/
def fnLayoutTreeWideWrong : ChangeSpec := { name := "fnLayoutTreeWide", fn := fun _ => fun
  | [d] => { results := [.lit (.bool false)], args := [d] }
  | _ => none }
def FnLayoutTreeWideWrongFalsely : Prop := fnLayoutTreeWideRow.holds Try.pinned (OpenSpec.ofChange fnLayoutTreeWideWrong)

/-- 'laws.FnLayoutTree': WHATEVER THE INPUT: true; the input reads as it did. -/
def fnLayoutTreeSpec : ChangeSpec := { name := "fnLayoutTree", fn := fun _ => fun
  | [d] => { results := [.lit (.bool true)], args := [d] }
  | _ => none }
def fnLayoutTreeRow : OpenClaim := { program := "ytkbgmfapcekakaa", sum := "1829d663398f6fcec37ead5cf6b3f8e7815571a5529b2c5c2dd6393348b20c5d", func := "loop.example/flexlayout/laws.FnLayoutTree", spec := "fnLayoutTree", unfollowed := true, recurses := true, apart := false }
def FnLayoutTreeSaid : Prop := fnLayoutTreeRow.holds Try.pinned (OpenSpec.ofChange fnLayoutTreeSpec)

/-- ITS FALSE NEIGHBOUR: 'it returns false'. Refute it at one input. -/
def fnLayoutTreeWrong : ChangeSpec := { name := "fnLayoutTree", fn := fun _ => fun
  | [d] => { results := [.lit (.bool false)], args := [d] }
  | _ => none }
def FnLayoutTreeWrongFalsely : Prop := fnLayoutTreeRow.holds Try.pinned (OpenSpec.ofChange fnLayoutTreeWrong)

/-- 'laws.FnLayoutTreeOrder': WHATEVER THE INPUT: true; the input reads as it did. -/
def fnLayoutTreeOrderSpec : ChangeSpec := { name := "fnLayoutTreeOrder", fn := fun _ => fun
  | [d] => { results := [.lit (.bool true)], args := [d] }
  | _ => none }
def fnLayoutTreeOrderRow : OpenClaim := { program := "ytkbgmfapcekakaa", sum := "1829d663398f6fcec37ead5cf6b3f8e7815571a5529b2c5c2dd6393348b20c5d", func := "loop.example/flexlayout/laws.FnLayoutTreeOrder", spec := "fnLayoutTreeOrder", unfollowed := true, recurses := true, apart := false }
def FnLayoutTreeOrderSaid : Prop := fnLayoutTreeOrderRow.holds Try.pinned (OpenSpec.ofChange fnLayoutTreeOrderSpec)

/-- ITS FALSE NEIGHBOUR: 'it returns false'. Refute it at one input. -/
def fnLayoutTreeOrderWrong : ChangeSpec := { name := "fnLayoutTreeOrder", fn := fun _ => fun
  | [d] => { results := [.lit (.bool false)], args := [d] }
  | _ => none }
def FnLayoutTreeOrderWrongFalsely : Prop := fnLayoutTreeOrderRow.holds Try.pinned (OpenSpec.ofChange fnLayoutTreeOrderWrong)

/-- 'laws.FnRectOf': WHATEVER THE INPUT: true; the input reads as it did. -/
def fnRectOfSpec : ChangeSpec := { name := "fnRectOf", fn := fun _ => fun
  | [d] => { results := [.lit (.bool true)], args := [d] }
  | _ => none }
def fnRectOfRow : OpenClaim := { program := "ytkbgmfapcekakaa", sum := "1829d663398f6fcec37ead5cf6b3f8e7815571a5529b2c5c2dd6393348b20c5d", func := "loop.example/flexlayout/laws.FnRectOf", spec := "fnRectOf", unfollowed := true, recurses := true, apart := false }
def FnRectOfSaid : Prop := fnRectOfRow.holds Try.pinned (OpenSpec.ofChange fnRectOfSpec)

/-- ITS FALSE NEIGHBOUR: 'it returns false'. Refute it at one input. -/
def fnRectOfWrong : ChangeSpec := { name := "fnRectOf", fn := fun _ => fun
  | [d] => { results := [.lit (.bool false)], args := [d] }
  | _ => none }
def FnRectOfWrongFalsely : Prop := fnRectOfRow.holds Try.pinned (OpenSpec.ofChange fnRectOfWrong)

/-- 'laws.FnLayoutTreeBlock': WHATEVER THE INPUT: true; the input reads as it did. -/
def fnLayoutTreeBlockSpec : ChangeSpec := { name := "fnLayoutTreeBlock", fn := fun _ => fun
  | [d] => { results := [.lit (.bool true)], args := [d] }
  | _ => none }
def fnLayoutTreeBlockRow : OpenClaim := { program := "ytkbgmfapcekakaa", sum := "1829d663398f6fcec37ead5cf6b3f8e7815571a5529b2c5c2dd6393348b20c5d", func := "loop.example/flexlayout/laws.FnLayoutTreeBlock", spec := "fnLayoutTreeBlock", unfollowed := true, recurses := true, apart := false }
def FnLayoutTreeBlockSaid : Prop := fnLayoutTreeBlockRow.holds Try.pinned (OpenSpec.ofChange fnLayoutTreeBlockSpec)

/-- ITS FALSE NEIGHBOUR: 'it returns false'. Refute it at one input. -/
def fnLayoutTreeBlockWrong : ChangeSpec := { name := "fnLayoutTreeBlock", fn := fun _ => fun
  | [d] => { results := [.lit (.bool false)], args := [d] }
  | _ => none }
def FnLayoutTreeBlockWrongFalsely : Prop := fnLayoutTreeBlockRow.holds Try.pinned (OpenSpec.ofChange fnLayoutTreeBlockWrong)

/-- 'laws.FnLayoutTreeCross': WHATEVER THE INPUT: true; the input reads as it did. -/
def fnLayoutTreeCrossSpec : ChangeSpec := { name := "fnLayoutTreeCross", fn := fun _ => fun
  | [d] => { results := [.lit (.bool true)], args := [d] }
  | _ => none }
def fnLayoutTreeCrossRow : OpenClaim := { program := "ytkbgmfapcekakaa", sum := "1829d663398f6fcec37ead5cf6b3f8e7815571a5529b2c5c2dd6393348b20c5d", func := "loop.example/flexlayout/laws.FnLayoutTreeCross", spec := "fnLayoutTreeCross", unfollowed := true, recurses := true, apart := false }
def FnLayoutTreeCrossSaid : Prop := fnLayoutTreeCrossRow.holds Try.pinned (OpenSpec.ofChange fnLayoutTreeCrossSpec)

/-- ITS FALSE NEIGHBOUR: 'it returns false'. Refute it at one input. -/
def fnLayoutTreeCrossWrong : ChangeSpec := { name := "fnLayoutTreeCross", fn := fun _ => fun
  | [d] => { results := [.lit (.bool false)], args := [d] }
  | _ => none }
def FnLayoutTreeCrossWrongFalsely : Prop := fnLayoutTreeCrossRow.holds Try.pinned (OpenSpec.ofChange fnLayoutTreeCrossWrong)

/-- 'laws.FnLayoutTreeApart': WHATEVER THE INPUT: true; the input reads as it did. -/
def fnLayoutTreeApartSpec : ChangeSpec := { name := "fnLayoutTreeApart", fn := fun _ => fun
  | [d] => { results := [.lit (.bool true)], args := [d] }
  | _ => none }
def fnLayoutTreeApartRow : OpenClaim := { program := "ytkbgmfapcekakaa", sum := "1829d663398f6fcec37ead5cf6b3f8e7815571a5529b2c5c2dd6393348b20c5d", func := "loop.example/flexlayout/laws.FnLayoutTreeApart", spec := "fnLayoutTreeApart", unfollowed := true, recurses := true, apart := false }
def FnLayoutTreeApartSaid : Prop := fnLayoutTreeApartRow.holds Try.pinned (OpenSpec.ofChange fnLayoutTreeApartSpec)

/-- ITS FALSE NEIGHBOUR: 'it returns false'. Refute it at one input. -/
def fnLayoutTreeApartWrong : ChangeSpec := { name := "fnLayoutTreeApart", fn := fun _ => fun
  | [d] => { results := [.lit (.bool false)], args := [d] }
  | _ => none }
def FnLayoutTreeApartWrongFalsely : Prop := fnLayoutTreeApartRow.holds Try.pinned (OpenSpec.ofChange fnLayoutTreeApartWrong)

/-- 'laws.FnLayoutTreeRow': WHATEVER THE INPUT: true; the input reads as it did. -/
def fnLayoutTreeRowSpec : ChangeSpec := { name := "fnLayoutTreeRow", fn := fun _ => fun
  | [d] => { results := [.lit (.bool true)], args := [d] }
  | _ => none }
def fnLayoutTreeRowRow : OpenClaim := { program := "ytkbgmfapcekakaa", sum := "1829d663398f6fcec37ead5cf6b3f8e7815571a5529b2c5c2dd6393348b20c5d", func := "loop.example/flexlayout/laws.FnLayoutTreeRow", spec := "fnLayoutTreeRow", unfollowed := true, recurses := true, apart := false }
def FnLayoutTreeRowSaid : Prop := fnLayoutTreeRowRow.holds Try.pinned (OpenSpec.ofChange fnLayoutTreeRowSpec)

/-- ITS FALSE NEIGHBOUR: 'it returns false'. Refute it at one input. -/
def fnLayoutTreeRowWrong : ChangeSpec := { name := "fnLayoutTreeRow", fn := fun _ => fun
  | [d] => { results := [.lit (.bool false)], args := [d] }
  | _ => none }
def FnLayoutTreeRowWrongFalsely : Prop := fnLayoutTreeRowRow.holds Try.pinned (OpenSpec.ofChange fnLayoutTreeRowWrong)

/-- 'laws.FnSpillingLarge': WHATEVER THE INPUT: true; the input reads as it did. -/
def fnSpillingLargeSpec : ChangeSpec := { name := "fnSpillingLarge", fn := fun _ => fun
  | [d] => { results := [.lit (.bool true)], args := [d] }
  | _ => none }
def fnSpillingLargeRow : OpenClaim := { program := "ytkbgmfapcekakaa", sum := "1829d663398f6fcec37ead5cf6b3f8e7815571a5529b2c5c2dd6393348b20c5d", func := "loop.example/flexlayout/laws.FnSpillingLarge", spec := "fnSpillingLarge", unfollowed := true, recurses := true, apart := false }
def FnSpillingLargeSaid : Prop := fnSpillingLargeRow.holds Try.pinned (OpenSpec.ofChange fnSpillingLargeSpec)

/-- ITS FALSE NEIGHBOUR: 'it returns false'. Refute it at one input. -/
def fnSpillingLargeWrong : ChangeSpec := { name := "fnSpillingLarge", fn := fun _ => fun
  | [d] => { results := [.lit (.bool false)], args := [d] }
  | _ => none }
def FnSpillingLargeWrongFalsely : Prop := fnSpillingLargeRow.holds Try.pinned (OpenSpec.ofChange fnSpillingLargeWrong)

/-- 'laws.FnSpillingNone': WHATEVER THE INPUT: true; the input reads as it did. -/
def fnSpillingNoneSpec : ChangeSpec := { name := "fnSpillingNone", fn := fun _ => fun
  | [d] => { results := [.lit (.bool true)], args := [d] }
  | _ => none }
def fnSpillingNoneRow : OpenClaim := { program := "ytkbgmfapcekakaa", sum := "1829d663398f6fcec37ead5cf6b3f8e7815571a5529b2c5c2dd6393348b20c5d", func := "loop.example/flexlayout/laws.FnSpillingNone", spec := "fnSpillingNone", unfollowed := true, recurses := true, apart := false }
def FnSpillingNoneSaid : Prop := fnSpillingNoneRow.holds Try.pinned (OpenSpec.ofChange fnSpillingNoneSpec)

/-- ITS FALSE NEIGHBOUR: 'it returns false'. Refute it at one input. -/
def fnSpillingNoneWrong : ChangeSpec := { name := "fnSpillingNone", fn := fun _ => fun
  | [d] => { results := [.lit (.bool false)], args := [d] }
  | _ => none }
def FnSpillingNoneWrongFalsely : Prop := fnSpillingNoneRow.holds Try.pinned (OpenSpec.ofChange fnSpillingNoneWrong)

/-- 'laws.FnSpilling': WHATEVER THE INPUT: true; the input reads as it did. -/
def fnSpillingSpec : ChangeSpec := { name := "fnSpilling", fn := fun _ => fun
  | [d] => { results := [.lit (.bool true)], args := [d] }
  | _ => none }
def fnSpillingRow : OpenClaim := { program := "ytkbgmfapcekakaa", sum := "1829d663398f6fcec37ead5cf6b3f8e7815571a5529b2c5c2dd6393348b20c5d", func := "loop.example/flexlayout/laws.FnSpilling", spec := "fnSpilling", unfollowed := true, recurses := true, apart := false }
def FnSpillingSaid : Prop := fnSpillingRow.holds Try.pinned (OpenSpec.ofChange fnSpillingSpec)

/-- ITS FALSE NEIGHBOUR: 'it returns false'. Refute it at one input. -/
def fnSpillingWrong : ChangeSpec := { name := "fnSpilling", fn := fun _ => fun
  | [d] => { results := [.lit (.bool false)], args := [d] }
  | _ => none }
def FnSpillingWrongFalsely : Prop := fnSpillingRow.holds Try.pinned (OpenSpec.ofChange fnSpillingWrong)

/- THE SECOND FORM. 'bulk': how many values and letters a reading holds, each counted each time it is reached (what is shared counts as often as it is met; a slice's spare places count too). A statement '..UptoSaid' is the law's where the arguments, and the package variables that the reading takes, are together of bulk at most 1048576: NARROWER than '..Said'. Prove '..Said' where nothing that the law and all that it calls make is longer than what came in: it says more and counts as full. Else prove '..UptoSaid'. A law counts once. -/
mutual
def uptoBulk {H : Type} : DataW H → Nat
  | .lit (.string bytes) => bytes.length + 1
  | .lit _ => 1
  | .nil => 1
  | .ptr d => uptoBulk d + 1
  | .slice elems spare => uptoBulkAll elems + uptoBulkAll spare + 1
  | .agg parts => uptoBulkAll parts + 1
  | .iface _ d => uptoBulk d + 1
  | .map entries => uptoBulkEntries entries + 1
  | .held _ => 1
def uptoBulkAll {H : Type} : List (DataW H) → Nat
  | [] => 0
  | d :: r => uptoBulk d + uptoBulkAll r
def uptoBulkEntries {H : Type} : List (Lit × DataW H) → Nat
  | [] => 0
  | x :: r => uptoBulkEntry x + uptoBulkEntries r
def uptoBulkEntry {H : Type} : Lit × DataW H → Nat
  | (.string bytes, d) => bytes.length + uptoBulk d + 1
  | (_, d) => uptoBulk d + 1
 end
def uptoSmall : (H : Type) → List (DataW H) → Bool := fun _ ds => decide (uptoBulkAll ds ≤ 1048576)
def OpenSpec.upto (s : _root_.Go.ChangeSpec) : _root_.Go.OpenSpec := { _root_.Go.OpenSpec.ofChange s with cond := some uptoSmall }

/-- 'laws.FnLayoutRootStyle', WHERE WHAT IT READS IS OF BULK AT MOST 1048576: true; the input reads as it did. -/
def fnLayoutRootStyleUptoRow : OpenClaim := { program := "ytkbgmfapcekakaa", sum := "1829d663398f6fcec37ead5cf6b3f8e7815571a5529b2c5c2dd6393348b20c5d", func := "loop.example/flexlayout/laws.FnLayoutRootStyle", spec := "fnLayoutRootStyle", unfollowed := true, recurses := true, apart := false, narrowed := true }
def FnLayoutRootStyleUptoSaid : Prop := fnLayoutRootStyleUptoRow.holds Try.pinned (OpenSpec.upto fnLayoutRootStyleSpec)

/-- 'laws.FnLayoutTreeWide', WHERE WHAT IT READS IS OF BULK AT MOST 1048576: true; the input reads as it did. -/
def fnLayoutTreeWideUptoRow : OpenClaim := { program := "ytkbgmfapcekakaa", sum := "1829d663398f6fcec37ead5cf6b3f8e7815571a5529b2c5c2dd6393348b20c5d", func := "loop.example/flexlayout/laws.FnLayoutTreeWide", spec := "fnLayoutTreeWide", unfollowed := true, recurses := true, apart := false, narrowed := true }
def FnLayoutTreeWideUptoSaid : Prop := fnLayoutTreeWideUptoRow.holds Try.pinned (OpenSpec.upto fnLayoutTreeWideSpec)

/-- 'laws.FnLayoutTree', WHERE WHAT IT READS IS OF BULK AT MOST 1048576: true; the input reads as it did. -/
def fnLayoutTreeUptoRow : OpenClaim := { program := "ytkbgmfapcekakaa", sum := "1829d663398f6fcec37ead5cf6b3f8e7815571a5529b2c5c2dd6393348b20c5d", func := "loop.example/flexlayout/laws.FnLayoutTree", spec := "fnLayoutTree", unfollowed := true, recurses := true, apart := false, narrowed := true }
def FnLayoutTreeUptoSaid : Prop := fnLayoutTreeUptoRow.holds Try.pinned (OpenSpec.upto fnLayoutTreeSpec)

/-- 'laws.FnLayoutTreeOrder', WHERE WHAT IT READS IS OF BULK AT MOST 1048576: true; the input reads as it did. -/
def fnLayoutTreeOrderUptoRow : OpenClaim := { program := "ytkbgmfapcekakaa", sum := "1829d663398f6fcec37ead5cf6b3f8e7815571a5529b2c5c2dd6393348b20c5d", func := "loop.example/flexlayout/laws.FnLayoutTreeOrder", spec := "fnLayoutTreeOrder", unfollowed := true, recurses := true, apart := false, narrowed := true }
def FnLayoutTreeOrderUptoSaid : Prop := fnLayoutTreeOrderUptoRow.holds Try.pinned (OpenSpec.upto fnLayoutTreeOrderSpec)

/-- 'laws.FnRectOf', WHERE WHAT IT READS IS OF BULK AT MOST 1048576: true; the input reads as it did. -/
def fnRectOfUptoRow : OpenClaim := { program := "ytkbgmfapcekakaa", sum := "1829d663398f6fcec37ead5cf6b3f8e7815571a5529b2c5c2dd6393348b20c5d", func := "loop.example/flexlayout/laws.FnRectOf", spec := "fnRectOf", unfollowed := true, recurses := true, apart := false, narrowed := true }
def FnRectOfUptoSaid : Prop := fnRectOfUptoRow.holds Try.pinned (OpenSpec.upto fnRectOfSpec)

/-- 'laws.FnLayoutTreeBlock', WHERE WHAT IT READS IS OF BULK AT MOST 1048576: true; the input reads as it did. -/
def fnLayoutTreeBlockUptoRow : OpenClaim := { program := "ytkbgmfapcekakaa", sum := "1829d663398f6fcec37ead5cf6b3f8e7815571a5529b2c5c2dd6393348b20c5d", func := "loop.example/flexlayout/laws.FnLayoutTreeBlock", spec := "fnLayoutTreeBlock", unfollowed := true, recurses := true, apart := false, narrowed := true }
def FnLayoutTreeBlockUptoSaid : Prop := fnLayoutTreeBlockUptoRow.holds Try.pinned (OpenSpec.upto fnLayoutTreeBlockSpec)

/-- 'laws.FnLayoutTreeCross', WHERE WHAT IT READS IS OF BULK AT MOST 1048576: true; the input reads as it did. -/
def fnLayoutTreeCrossUptoRow : OpenClaim := { program := "ytkbgmfapcekakaa", sum := "1829d663398f6fcec37ead5cf6b3f8e7815571a5529b2c5c2dd6393348b20c5d", func := "loop.example/flexlayout/laws.FnLayoutTreeCross", spec := "fnLayoutTreeCross", unfollowed := true, recurses := true, apart := false, narrowed := true }
def FnLayoutTreeCrossUptoSaid : Prop := fnLayoutTreeCrossUptoRow.holds Try.pinned (OpenSpec.upto fnLayoutTreeCrossSpec)

/-- 'laws.FnLayoutTreeApart', WHERE WHAT IT READS IS OF BULK AT MOST 1048576: true; the input reads as it did. -/
def fnLayoutTreeApartUptoRow : OpenClaim := { program := "ytkbgmfapcekakaa", sum := "1829d663398f6fcec37ead5cf6b3f8e7815571a5529b2c5c2dd6393348b20c5d", func := "loop.example/flexlayout/laws.FnLayoutTreeApart", spec := "fnLayoutTreeApart", unfollowed := true, recurses := true, apart := false, narrowed := true }
def FnLayoutTreeApartUptoSaid : Prop := fnLayoutTreeApartUptoRow.holds Try.pinned (OpenSpec.upto fnLayoutTreeApartSpec)

/-- 'laws.FnLayoutTreeRow', WHERE WHAT IT READS IS OF BULK AT MOST 1048576: true; the input reads as it did. -/
def fnLayoutTreeRowUptoRow : OpenClaim := { program := "ytkbgmfapcekakaa", sum := "1829d663398f6fcec37ead5cf6b3f8e7815571a5529b2c5c2dd6393348b20c5d", func := "loop.example/flexlayout/laws.FnLayoutTreeRow", spec := "fnLayoutTreeRow", unfollowed := true, recurses := true, apart := false, narrowed := true }
def FnLayoutTreeRowUptoSaid : Prop := fnLayoutTreeRowUptoRow.holds Try.pinned (OpenSpec.upto fnLayoutTreeRowSpec)

/-- 'laws.FnSpillingLarge', WHERE WHAT IT READS IS OF BULK AT MOST 1048576: true; the input reads as it did. -/
def fnSpillingLargeUptoRow : OpenClaim := { program := "ytkbgmfapcekakaa", sum := "1829d663398f6fcec37ead5cf6b3f8e7815571a5529b2c5c2dd6393348b20c5d", func := "loop.example/flexlayout/laws.FnSpillingLarge", spec := "fnSpillingLarge", unfollowed := true, recurses := true, apart := false, narrowed := true }
def FnSpillingLargeUptoSaid : Prop := fnSpillingLargeUptoRow.holds Try.pinned (OpenSpec.upto fnSpillingLargeSpec)

/-- 'laws.FnSpillingNone', WHERE WHAT IT READS IS OF BULK AT MOST 1048576: true; the input reads as it did. -/
def fnSpillingNoneUptoRow : OpenClaim := { program := "ytkbgmfapcekakaa", sum := "1829d663398f6fcec37ead5cf6b3f8e7815571a5529b2c5c2dd6393348b20c5d", func := "loop.example/flexlayout/laws.FnSpillingNone", spec := "fnSpillingNone", unfollowed := true, recurses := true, apart := false, narrowed := true }
def FnSpillingNoneUptoSaid : Prop := fnSpillingNoneUptoRow.holds Try.pinned (OpenSpec.upto fnSpillingNoneSpec)

/-- 'laws.FnSpilling', WHERE WHAT IT READS IS OF BULK AT MOST 1048576: true; the input reads as it did. -/
def fnSpillingUptoRow : OpenClaim := { program := "ytkbgmfapcekakaa", sum := "1829d663398f6fcec37ead5cf6b3f8e7815571a5529b2c5c2dd6393348b20c5d", func := "loop.example/flexlayout/laws.FnSpilling", spec := "fnSpilling", unfollowed := true, recurses := true, apart := false, narrowed := true }
def FnSpillingUptoSaid : Prop := fnSpillingUptoRow.holds Try.pinned (OpenSpec.upto fnSpillingSpec)

end Rows
end Go.Proofs.Ytkbgmfapcekakaa
