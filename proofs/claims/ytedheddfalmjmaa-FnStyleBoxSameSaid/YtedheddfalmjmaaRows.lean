/-
  No cell of these rows narrows 'for every input' (looked for: loops, veiled, ifaces, maps, wideKeys, modest, calm, conditions, laid).
  DERIVED. THE GIVEN ROWS OF THIS SEAT. 12 by the template 'for every input the law returns true; each argument reads behind the call as it read before'; 0 by the template 'total and deterministic' (their statements: YtedheddfalmjmaaTotals.lean).
  GIVEN WITH THE SEED: the statements are not yours to turn. If you find one false, say at which input.
  Laid BY PROGRAM, IN A SANDBOX (cutbox-rows.mjs): the forced cells as the released guide's own fill.sh prints them over the translation 85b9c00412650867… (all of the seat's roots in one cut). By AI agents, Wed Nov 11 2026. No macro, syntax, notation, axiom, sorry.
-/
import Derived.Test.YtedheddfalmjmaaChecked
import GoSem.Claim
import GoSem.ClaimJoined
import GoSem.ClaimMapViews
import Derived.JoinedTies
import Derived.KernelRfl
namespace Go.Proofs.Ytedheddfalmjmaa
/- THE CELL 'sum', in the pinned program and in every row, IS THE sha256 OF THE DUMP (.gsa) THAT YtedheddfalmjmaaProg.lean LOADS. Nothing in Lean hashes anything: it is a label: what it is worth is what the hold of that sum in a sandbox is worth. -/
noncomputable def Try.pinned : Pinned := { name := "ytedheddfalmjmaa", sum := "85b9c00412650867f5d57bdc2af6a5c0487711dcd302c2fb242115956ba0f866", checked := Try.checked }
namespace Rows
def none {H : Type} : Left H := { results := [], args := [] }

/-- 'laws.FnFitsInMore': WHATEVER THE INPUT: true; the input reads as it did. -/
def fnFitsInMoreSpec : ChangeSpec := { name := "fnFitsInMore", fn := fun _ => fun
  | [d] => { results := [.lit (.bool true)], args := [d] }
  | _ => none }
def fnFitsInMoreRow : OpenClaim := { program := "ytedheddfalmjmaa", sum := "85b9c00412650867f5d57bdc2af6a5c0487711dcd302c2fb242115956ba0f866", func := "loop.example/flexlayout/laws.FnFitsInMore", spec := "fnFitsInMore", recurses := true, apart := false }
def FnFitsInMoreSaid : Prop := fnFitsInMoreRow.holds Try.pinned (OpenSpec.ofChange fnFitsInMoreSpec)

/-- ITS FALSE NEIGHBOUR: 'it returns false'. Refute it at one input. -/
def fnFitsInMoreWrong : ChangeSpec := { name := "fnFitsInMore", fn := fun _ => fun
  | [d] => { results := [.lit (.bool false)], args := [d] }
  | _ => none }
def FnFitsInMoreWrongFalsely : Prop := fnFitsInMoreRow.holds Try.pinned (OpenSpec.ofChange fnFitsInMoreWrong)

/-- 'laws.FnStyleBox': WHATEVER THE INPUT: true; the input reads as it did. -/
def fnStyleBoxSpec : ChangeSpec := { name := "fnStyleBox", fn := fun _ => fun
  | [d] => { results := [.lit (.bool true)], args := [d] }
  | _ => none }
def fnStyleBoxRow : OpenClaim := { program := "ytedheddfalmjmaa", sum := "85b9c00412650867f5d57bdc2af6a5c0487711dcd302c2fb242115956ba0f866", func := "loop.example/flexlayout/laws.FnStyleBox", spec := "fnStyleBox", apart := false }
def FnStyleBoxSaid : Prop := fnStyleBoxRow.holds Try.pinned (OpenSpec.ofChange fnStyleBoxSpec)

/-- ITS FALSE NEIGHBOUR: 'it returns false'. Refute it at one input. -/
def fnStyleBoxWrong : ChangeSpec := { name := "fnStyleBox", fn := fun _ => fun
  | [d] => { results := [.lit (.bool false)], args := [d] }
  | _ => none }
def FnStyleBoxWrongFalsely : Prop := fnStyleBoxRow.holds Try.pinned (OpenSpec.ofChange fnStyleBoxWrong)

/-- 'laws.FnStyleBoxSame': WHATEVER THE INPUT: true; the input reads as it did. -/
def fnStyleBoxSameSpec : ChangeSpec := { name := "fnStyleBoxSame", fn := fun _ => fun
  | [d] => { results := [.lit (.bool true)], args := [d] }
  | _ => none }
def fnStyleBoxSameRow : OpenClaim := { program := "ytedheddfalmjmaa", sum := "85b9c00412650867f5d57bdc2af6a5c0487711dcd302c2fb242115956ba0f866", func := "loop.example/flexlayout/laws.FnStyleBoxSame", spec := "fnStyleBoxSame", apart := false }
def FnStyleBoxSameSaid : Prop := fnStyleBoxSameRow.holds Try.pinned (OpenSpec.ofChange fnStyleBoxSameSpec)

/-- ITS FALSE NEIGHBOUR: 'it returns false'. Refute it at one input. -/
def fnStyleBoxSameWrong : ChangeSpec := { name := "fnStyleBoxSame", fn := fun _ => fun
  | [d] => { results := [.lit (.bool false)], args := [d] }
  | _ => none }
def FnStyleBoxSameWrongFalsely : Prop := fnStyleBoxSameRow.holds Try.pinned (OpenSpec.ofChange fnStyleBoxSameWrong)

/-- 'laws.FnFitsIn': WHATEVER THE INPUT: true; the input reads as it did. -/
def fnFitsInSpec : ChangeSpec := { name := "fnFitsIn", fn := fun _ => fun
  | [d] => { results := [.lit (.bool true)], args := [d] }
  | _ => none }
def fnFitsInRow : OpenClaim := { program := "ytedheddfalmjmaa", sum := "85b9c00412650867f5d57bdc2af6a5c0487711dcd302c2fb242115956ba0f866", func := "loop.example/flexlayout/laws.FnFitsIn", spec := "fnFitsIn", recurses := true, apart := false }
def FnFitsInSaid : Prop := fnFitsInRow.holds Try.pinned (OpenSpec.ofChange fnFitsInSpec)

/-- ITS FALSE NEIGHBOUR: 'it returns false'. Refute it at one input. -/
def fnFitsInWrong : ChangeSpec := { name := "fnFitsIn", fn := fun _ => fun
  | [d] => { results := [.lit (.bool false)], args := [d] }
  | _ => none }
def FnFitsInWrongFalsely : Prop := fnFitsInRow.holds Try.pinned (OpenSpec.ofChange fnFitsInWrong)

/-- 'laws.FnPartOfPart': WHATEVER THE INPUT: true; the input reads as it did. -/
def fnPartOfPartSpec : ChangeSpec := { name := "fnPartOfPart", fn := fun _ => fun
  | [d] => { results := [.lit (.bool true)], args := [d] }
  | _ => none }
def fnPartOfPartRow : OpenClaim := { program := "ytedheddfalmjmaa", sum := "85b9c00412650867f5d57bdc2af6a5c0487711dcd302c2fb242115956ba0f866", func := "loop.example/flexlayout/laws.FnPartOfPart", spec := "fnPartOfPart", apart := false }
def FnPartOfPartSaid : Prop := fnPartOfPartRow.holds Try.pinned (OpenSpec.ofChange fnPartOfPartSpec)

/-- ITS FALSE NEIGHBOUR: 'it returns false'. Refute it at one input. -/
def fnPartOfPartWrong : ChangeSpec := { name := "fnPartOfPart", fn := fun _ => fun
  | [d] => { results := [.lit (.bool false)], args := [d] }
  | _ => none }
def FnPartOfPartWrongFalsely : Prop := fnPartOfPartRow.holds Try.pinned (OpenSpec.ofChange fnPartOfPartWrong)

/-- 'laws.FnNaturalSize': WHATEVER THE INPUT: true; the input reads as it did. -/
def fnNaturalSizeSpec : ChangeSpec := { name := "fnNaturalSize", fn := fun _ => fun
  | [d] => { results := [.lit (.bool true)], args := [d] }
  | _ => none }
def fnNaturalSizeRow : OpenClaim := { program := "ytedheddfalmjmaa", sum := "85b9c00412650867f5d57bdc2af6a5c0487711dcd302c2fb242115956ba0f866", func := "loop.example/flexlayout/laws.FnNaturalSize", spec := "fnNaturalSize", recurses := true, apart := false }
def FnNaturalSizeSaid : Prop := fnNaturalSizeRow.holds Try.pinned (OpenSpec.ofChange fnNaturalSizeSpec)

/-- ITS FALSE NEIGHBOUR: 'it returns false'. Refute it at one input. -/
def fnNaturalSizeWrong : ChangeSpec := { name := "fnNaturalSize", fn := fun _ => fun
  | [d] => { results := [.lit (.bool false)], args := [d] }
  | _ => none }
def FnNaturalSizeWrongFalsely : Prop := fnNaturalSizeRow.holds Try.pinned (OpenSpec.ofChange fnNaturalSizeWrong)

/-- 'laws.FnNaturalSizeKids': WHATEVER THE INPUT: true; the input reads as it did. -/
def fnNaturalSizeKidsSpec : ChangeSpec := { name := "fnNaturalSizeKids", fn := fun _ => fun
  | [d] => { results := [.lit (.bool true)], args := [d] }
  | _ => none }
def fnNaturalSizeKidsRow : OpenClaim := { program := "ytedheddfalmjmaa", sum := "85b9c00412650867f5d57bdc2af6a5c0487711dcd302c2fb242115956ba0f866", func := "loop.example/flexlayout/laws.FnNaturalSizeKids", spec := "fnNaturalSizeKids", recurses := true, apart := false }
def FnNaturalSizeKidsSaid : Prop := fnNaturalSizeKidsRow.holds Try.pinned (OpenSpec.ofChange fnNaturalSizeKidsSpec)

/-- ITS FALSE NEIGHBOUR: 'it returns false'. Refute it at one input. -/
def fnNaturalSizeKidsWrong : ChangeSpec := { name := "fnNaturalSizeKids", fn := fun _ => fun
  | [d] => { results := [.lit (.bool false)], args := [d] }
  | _ => none }
def FnNaturalSizeKidsWrongFalsely : Prop := fnNaturalSizeKidsRow.holds Try.pinned (OpenSpec.ofChange fnNaturalSizeKidsWrong)

/-- 'laws.FnNaturalSizeRow': WHATEVER THE INPUT: true; the input reads as it did. -/
def fnNaturalSizeRowSpec : ChangeSpec := { name := "fnNaturalSizeRow", fn := fun _ => fun
  | [d] => { results := [.lit (.bool true)], args := [d] }
  | _ => none }
def fnNaturalSizeRowRow : OpenClaim := { program := "ytedheddfalmjmaa", sum := "85b9c00412650867f5d57bdc2af6a5c0487711dcd302c2fb242115956ba0f866", func := "loop.example/flexlayout/laws.FnNaturalSizeRow", spec := "fnNaturalSizeRow", recurses := true, apart := false }
def FnNaturalSizeRowSaid : Prop := fnNaturalSizeRowRow.holds Try.pinned (OpenSpec.ofChange fnNaturalSizeRowSpec)

/-- ITS FALSE NEIGHBOUR: 'it returns false'. Refute it at one input. -/
def fnNaturalSizeRowWrong : ChangeSpec := { name := "fnNaturalSizeRow", fn := fun _ => fun
  | [d] => { results := [.lit (.bool false)], args := [d] }
  | _ => none }
def FnNaturalSizeRowWrongFalsely : Prop := fnNaturalSizeRowRow.holds Try.pinned (OpenSpec.ofChange fnNaturalSizeRowWrong)

/-- 'laws.FnPartOf': WHATEVER THE INPUT: true; the input reads as it did. -/
def fnPartOfSpec : ChangeSpec := { name := "fnPartOf", fn := fun _ => fun
  | [d] => { results := [.lit (.bool true)], args := [d] }
  | _ => none }
def fnPartOfRow : OpenClaim := { program := "ytedheddfalmjmaa", sum := "85b9c00412650867f5d57bdc2af6a5c0487711dcd302c2fb242115956ba0f866", func := "loop.example/flexlayout/laws.FnPartOf", spec := "fnPartOf", apart := false }
def FnPartOfSaid : Prop := fnPartOfRow.holds Try.pinned (OpenSpec.ofChange fnPartOfSpec)

/-- ITS FALSE NEIGHBOUR: 'it returns false'. Refute it at one input. -/
def fnPartOfWrong : ChangeSpec := { name := "fnPartOf", fn := fun _ => fun
  | [d] => { results := [.lit (.bool false)], args := [d] }
  | _ => none }
def FnPartOfWrongFalsely : Prop := fnPartOfRow.holds Try.pinned (OpenSpec.ofChange fnPartOfWrong)

/-- 'laws.FnExactPartOf': WHATEVER THE INPUT: true; the input reads as it did. -/
def fnExactPartOfSpec : ChangeSpec := { name := "fnExactPartOf", fn := fun _ => fun
  | [d1, d2] => { results := [.lit (.bool true)], args := [d1, d2] }
  | _ => none }
def fnExactPartOfRow : OpenClaim := { program := "ytedheddfalmjmaa", sum := "85b9c00412650867f5d57bdc2af6a5c0487711dcd302c2fb242115956ba0f866", func := "loop.example/flexlayout/laws.FnExactPartOf", spec := "fnExactPartOf", apart := false }
def FnExactPartOfSaid : Prop := fnExactPartOfRow.holds Try.pinned (OpenSpec.ofChange fnExactPartOfSpec)

/-- ITS FALSE NEIGHBOUR: 'it returns false'. Refute it at one input. -/
def fnExactPartOfWrong : ChangeSpec := { name := "fnExactPartOf", fn := fun _ => fun
  | [d1, d2] => { results := [.lit (.bool false)], args := [d1, d2] }
  | _ => none }
def FnExactPartOfWrongFalsely : Prop := fnExactPartOfRow.holds Try.pinned (OpenSpec.ofChange fnExactPartOfWrong)

/-- 'laws.FnNaturalSizePad': WHATEVER THE INPUT: true; the input reads as it did. -/
def fnNaturalSizePadSpec : ChangeSpec := { name := "fnNaturalSizePad", fn := fun _ => fun
  | [d] => { results := [.lit (.bool true)], args := [d] }
  | _ => none }
def fnNaturalSizePadRow : OpenClaim := { program := "ytedheddfalmjmaa", sum := "85b9c00412650867f5d57bdc2af6a5c0487711dcd302c2fb242115956ba0f866", func := "loop.example/flexlayout/laws.FnNaturalSizePad", spec := "fnNaturalSizePad", recurses := true, apart := false }
def FnNaturalSizePadSaid : Prop := fnNaturalSizePadRow.holds Try.pinned (OpenSpec.ofChange fnNaturalSizePadSpec)

/-- ITS FALSE NEIGHBOUR: 'it returns false'. Refute it at one input. -/
def fnNaturalSizePadWrong : ChangeSpec := { name := "fnNaturalSizePad", fn := fun _ => fun
  | [d] => { results := [.lit (.bool false)], args := [d] }
  | _ => none }
def FnNaturalSizePadWrongFalsely : Prop := fnNaturalSizePadRow.holds Try.pinned (OpenSpec.ofChange fnNaturalSizePadWrong)

/-- 'laws.FnWidestKidWidth': WHATEVER THE INPUT: true; the input reads as it did. -/
def fnWidestKidWidthSpec : ChangeSpec := { name := "fnWidestKidWidth", fn := fun _ => fun
  | [d] => { results := [.lit (.bool true)], args := [d] }
  | _ => none }
def fnWidestKidWidthRow : OpenClaim := { program := "ytedheddfalmjmaa", sum := "85b9c00412650867f5d57bdc2af6a5c0487711dcd302c2fb242115956ba0f866", func := "loop.example/flexlayout/laws.FnWidestKidWidth", spec := "fnWidestKidWidth", recurses := true, apart := false }
def FnWidestKidWidthSaid : Prop := fnWidestKidWidthRow.holds Try.pinned (OpenSpec.ofChange fnWidestKidWidthSpec)

/-- ITS FALSE NEIGHBOUR: 'it returns false'. Refute it at one input. -/
def fnWidestKidWidthWrong : ChangeSpec := { name := "fnWidestKidWidth", fn := fun _ => fun
  | [d] => { results := [.lit (.bool false)], args := [d] }
  | _ => none }
def FnWidestKidWidthWrongFalsely : Prop := fnWidestKidWidthRow.holds Try.pinned (OpenSpec.ofChange fnWidestKidWidthWrong)

/- THE SECOND FORM. 'bulk': how many values and letters a reading holds, each counted each time it is reached (what is shared counts as often as it is met; a slice's spare places count too). A statement '..UptoSaid' is the law's where the arguments, and the package variables that the reading takes, are together of bulk at most 1048576: NARROWER than '..Said'. Prove '..Said' where nothing that the law and all that it calls make is longer than what came in: it says more and counts as full. Else prove '..UptoSaid'. A law counts once. -/
mutual
def uptoBulk {H : Type} : DataW H → Nat
  | .lit (.string bytes) => bytes.length + 1
  | .lit _ => 1
  | .nil => 1
  | .ptr d => uptoBulk d + 1
  | .slice elems spare => uptoBulkAll elems + uptoBulkAll spare + 1
  | .agg parts => uptoBulkAll parts + 1
  | .iface _ d => uptoBulk d + 1
  | .map entries => uptoBulkEntries entries + 1
  | .held _ => 1
def uptoBulkAll {H : Type} : List (DataW H) → Nat
  | [] => 0
  | d :: r => uptoBulk d + uptoBulkAll r
def uptoBulkEntries {H : Type} : List (Lit × DataW H) → Nat
  | [] => 0
  | x :: r => uptoBulkEntry x + uptoBulkEntries r
def uptoBulkEntry {H : Type} : Lit × DataW H → Nat
  | (.string bytes, d) => bytes.length + uptoBulk d + 1
  | (_, d) => uptoBulk d + 1
 end
def uptoSmall : (H : Type) → List (DataW H) → Bool := fun _ ds => decide (uptoBulkAll ds ≤ 1048576)
def OpenSpec.upto (s : _root_.Go.ChangeSpec) : _root_.Go.OpenSpec := { _root_.Go.OpenSpec.ofChange s with cond := some uptoSmall }

/-- 'laws.FnFitsInMore', WHERE WHAT IT READS IS OF BULK AT MOST 1048576: true; the input reads as it did. -/
def fnFitsInMoreUptoRow : OpenClaim := { program := "ytedheddfalmjmaa", sum := "85b9c00412650867f5d57bdc2af6a5c0487711dcd302c2fb242115956ba0f866", func := "loop.example/flexlayout/laws.FnFitsInMore", spec := "fnFitsInMore", recurses := true, apart := false, narrowed := true }
def FnFitsInMoreUptoSaid : Prop := fnFitsInMoreUptoRow.holds Try.pinned (OpenSpec.upto fnFitsInMoreSpec)

/-- 'laws.FnStyleBox', WHERE WHAT IT READS IS OF BULK AT MOST 1048576: true; the input reads as it did. -/
def fnStyleBoxUptoRow : OpenClaim := { program := "ytedheddfalmjmaa", sum := "85b9c00412650867f5d57bdc2af6a5c0487711dcd302c2fb242115956ba0f866", func := "loop.example/flexlayout/laws.FnStyleBox", spec := "fnStyleBox", apart := false, narrowed := true }
def FnStyleBoxUptoSaid : Prop := fnStyleBoxUptoRow.holds Try.pinned (OpenSpec.upto fnStyleBoxSpec)

/-- 'laws.FnStyleBoxSame', WHERE WHAT IT READS IS OF BULK AT MOST 1048576: true; the input reads as it did. -/
def fnStyleBoxSameUptoRow : OpenClaim := { program := "ytedheddfalmjmaa", sum := "85b9c00412650867f5d57bdc2af6a5c0487711dcd302c2fb242115956ba0f866", func := "loop.example/flexlayout/laws.FnStyleBoxSame", spec := "fnStyleBoxSame", apart := false, narrowed := true }
def FnStyleBoxSameUptoSaid : Prop := fnStyleBoxSameUptoRow.holds Try.pinned (OpenSpec.upto fnStyleBoxSameSpec)

/-- 'laws.FnFitsIn', WHERE WHAT IT READS IS OF BULK AT MOST 1048576: true; the input reads as it did. -/
def fnFitsInUptoRow : OpenClaim := { program := "ytedheddfalmjmaa", sum := "85b9c00412650867f5d57bdc2af6a5c0487711dcd302c2fb242115956ba0f866", func := "loop.example/flexlayout/laws.FnFitsIn", spec := "fnFitsIn", recurses := true, apart := false, narrowed := true }
def FnFitsInUptoSaid : Prop := fnFitsInUptoRow.holds Try.pinned (OpenSpec.upto fnFitsInSpec)

/-- 'laws.FnPartOfPart', WHERE WHAT IT READS IS OF BULK AT MOST 1048576: true; the input reads as it did. -/
def fnPartOfPartUptoRow : OpenClaim := { program := "ytedheddfalmjmaa", sum := "85b9c00412650867f5d57bdc2af6a5c0487711dcd302c2fb242115956ba0f866", func := "loop.example/flexlayout/laws.FnPartOfPart", spec := "fnPartOfPart", apart := false, narrowed := true }
def FnPartOfPartUptoSaid : Prop := fnPartOfPartUptoRow.holds Try.pinned (OpenSpec.upto fnPartOfPartSpec)

/-- 'laws.FnNaturalSize', WHERE WHAT IT READS IS OF BULK AT MOST 1048576: true; the input reads as it did. -/
def fnNaturalSizeUptoRow : OpenClaim := { program := "ytedheddfalmjmaa", sum := "85b9c00412650867f5d57bdc2af6a5c0487711dcd302c2fb242115956ba0f866", func := "loop.example/flexlayout/laws.FnNaturalSize", spec := "fnNaturalSize", recurses := true, apart := false, narrowed := true }
def FnNaturalSizeUptoSaid : Prop := fnNaturalSizeUptoRow.holds Try.pinned (OpenSpec.upto fnNaturalSizeSpec)

/-- 'laws.FnNaturalSizeKids', WHERE WHAT IT READS IS OF BULK AT MOST 1048576: true; the input reads as it did. -/
def fnNaturalSizeKidsUptoRow : OpenClaim := { program := "ytedheddfalmjmaa", sum := "85b9c00412650867f5d57bdc2af6a5c0487711dcd302c2fb242115956ba0f866", func := "loop.example/flexlayout/laws.FnNaturalSizeKids", spec := "fnNaturalSizeKids", recurses := true, apart := false, narrowed := true }
def FnNaturalSizeKidsUptoSaid : Prop := fnNaturalSizeKidsUptoRow.holds Try.pinned (OpenSpec.upto fnNaturalSizeKidsSpec)

/-- 'laws.FnNaturalSizeRow', WHERE WHAT IT READS IS OF BULK AT MOST 1048576: true; the input reads as it did. -/
def fnNaturalSizeRowUptoRow : OpenClaim := { program := "ytedheddfalmjmaa", sum := "85b9c00412650867f5d57bdc2af6a5c0487711dcd302c2fb242115956ba0f866", func := "loop.example/flexlayout/laws.FnNaturalSizeRow", spec := "fnNaturalSizeRow", recurses := true, apart := false, narrowed := true }
def FnNaturalSizeRowUptoSaid : Prop := fnNaturalSizeRowUptoRow.holds Try.pinned (OpenSpec.upto fnNaturalSizeRowSpec)

/-- 'laws.FnPartOf', WHERE WHAT IT READS IS OF BULK AT MOST 1048576: true; the input reads as it did. -/
def fnPartOfUptoRow : OpenClaim := { program := "ytedheddfalmjmaa", sum := "85b9c00412650867f5d57bdc2af6a5c0487711dcd302c2fb242115956ba0f866", func := "loop.example/flexlayout/laws.FnPartOf", spec := "fnPartOf", apart := false, narrowed := true }
def FnPartOfUptoSaid : Prop := fnPartOfUptoRow.holds Try.pinned (OpenSpec.upto fnPartOfSpec)

/-- 'laws.FnExactPartOf', WHERE WHAT IT READS IS OF BULK AT MOST 1048576: true; the input reads as it did. -/
def fnExactPartOfUptoRow : OpenClaim := { program := "ytedheddfalmjmaa", sum := "85b9c00412650867f5d57bdc2af6a5c0487711dcd302c2fb242115956ba0f866", func := "loop.example/flexlayout/laws.FnExactPartOf", spec := "fnExactPartOf", apart := false, narrowed := true }
def FnExactPartOfUptoSaid : Prop := fnExactPartOfUptoRow.holds Try.pinned (OpenSpec.upto fnExactPartOfSpec)

/-- 'laws.FnNaturalSizePad', WHERE WHAT IT READS IS OF BULK AT MOST 1048576: true; the input reads as it did. -/
def fnNaturalSizePadUptoRow : OpenClaim := { program := "ytedheddfalmjmaa", sum := "85b9c00412650867f5d57bdc2af6a5c0487711dcd302c2fb242115956ba0f866", func := "loop.example/flexlayout/laws.FnNaturalSizePad", spec := "fnNaturalSizePad", recurses := true, apart := false, narrowed := true }
def FnNaturalSizePadUptoSaid : Prop := fnNaturalSizePadUptoRow.holds Try.pinned (OpenSpec.upto fnNaturalSizePadSpec)

/-- 'laws.FnWidestKidWidth', WHERE WHAT IT READS IS OF BULK AT MOST 1048576: true; the input reads as it did. -/
def fnWidestKidWidthUptoRow : OpenClaim := { program := "ytedheddfalmjmaa", sum := "85b9c00412650867f5d57bdc2af6a5c0487711dcd302c2fb242115956ba0f866", func := "loop.example/flexlayout/laws.FnWidestKidWidth", spec := "fnWidestKidWidth", recurses := true, apart := false, narrowed := true }
def FnWidestKidWidthUptoSaid : Prop := fnWidestKidWidthUptoRow.holds Try.pinned (OpenSpec.upto fnWidestKidWidthSpec)

end Rows
end Go.Proofs.Ytedheddfalmjmaa
