/-
  No cell of these rows narrows 'for every input' (looked for: loops, veiled, ifaces, maps, wideKeys, modest, calm, conditions, laid).
  DERIVED. THE GIVEN ROWS OF THIS SEAT. 12 by the template 'for every input the law returns true; each argument reads behind the call as it read before'; 0 by the template 'total and deterministic' (their statements: YtbkhbmcoococmaaTotals.lean).
  GIVEN WITH THE SEED: the statements are not yours to turn. If you find one false, say at which input.
  Laid BY PROGRAM, IN A SANDBOX (cutbox-rows.mjs): the forced cells as the released guide's own fill.sh prints them over the translation cdf68f63689941e7… (all of the seat's roots in one cut). By AI agents, Wed Nov 11 2026. No macro, syntax, notation, axiom, sorry.
-/
import Derived.Test.YtbkhbmcoococmaaChecked
import GoSem.Claim
import GoSem.ClaimJoined
import GoSem.ClaimMapViews
import Derived.JoinedTies
import Derived.KernelRfl
namespace Go.Proofs.Ytbkhbmcoococmaa
/- THE CELL 'sum', in the pinned program and in every row, IS THE sha256 OF THE DUMP (.gsa) THAT YtbkhbmcoococmaaProg.lean LOADS. Nothing in Lean hashes anything: it is a label: what it is worth is what the hold of that sum in a sandbox is worth. -/
noncomputable def Try.pinned : Pinned := { name := "ytbkhbmcoococmaa", sum := "cdf68f63689941e757e3aa6783410f93321ebc677bb136e84d962e1123d7589f", checked := Try.checked }
namespace Rows
def none {H : Type} : Left H := { results := [], args := [] }

/-- 'laws.FnLayoutTreeRow': WHATEVER THE INPUT: true; the input reads as it did. -/
def fnLayoutTreeRowSpec : ChangeSpec := { name := "fnLayoutTreeRow", fn := fun _ => fun
  | [d] => { results := [.lit (.bool true)], args := [d] }
  | _ => none }
def fnLayoutTreeRowRow : OpenClaim := { program := "ytbkhbmcoococmaa", sum := "cdf68f63689941e757e3aa6783410f93321ebc677bb136e84d962e1123d7589f", func := "loop.example/flexlayout/laws.FnLayoutTreeRow", spec := "fnLayoutTreeRow", unfollowed := true, recurses := true, apart := false }
def FnLayoutTreeRowSaid : Prop := fnLayoutTreeRowRow.holds Try.pinned (OpenSpec.ofChange fnLayoutTreeRowSpec)

/-- ITS FALSE NEIGHBOUR: 'it returns false'. Refute it at one input. -/
def fnLayoutTreeRowWrong : ChangeSpec := { name := "fnLayoutTreeRow", fn := fun _ => fun
  | [d] => { results := [.lit (.bool false)], args := [d] }
  | _ => none }
def FnLayoutTreeRowWrongFalsely : Prop := fnLayoutTreeRowRow.holds Try.pinned (OpenSpec.ofChange fnLayoutTreeRowWrong)

/-- 'laws.FnExactHitBox': WHATEVER THE INPUT: true; the input reads as it did. -/
def fnExactHitBoxSpec : ChangeSpec := { name := "fnExactHitBox", fn := fun _ => fun
  | [d1, d2, d3, d4, d5] => { results := [.lit (.bool true)], args := [d1, d2, d3, d4, d5] }
  | _ => none }
def fnExactHitBoxRow : OpenClaim := { program := "ytbkhbmcoococmaa", sum := "cdf68f63689941e757e3aa6783410f93321ebc677bb136e84d962e1123d7589f", func := "loop.example/flexlayout/laws.FnExactHitBox", spec := "fnExactHitBox", unfollowed := true, recurses := true, apart := false }
def FnExactHitBoxSaid : Prop := fnExactHitBoxRow.holds Try.pinned (OpenSpec.ofChange fnExactHitBoxSpec)

/-- ITS FALSE NEIGHBOUR: 'it returns false'. Refute it at one input. -/
def fnExactHitBoxWrong : ChangeSpec := { name := "fnExactHitBox", fn := fun _ => fun
  | [d1, d2, d3, d4, d5] => { results := [.lit (.bool false)], args := [d1, d2, d3, d4, d5] }
  | _ => none }
def FnExactHitBoxWrongFalsely : Prop := fnExactHitBoxRow.holds Try.pinned (OpenSpec.ofChange fnExactHitBoxWrong)

/-- 'laws.FnRectOfScreen': WHATEVER THE INPUT: true; the input reads as it did. -/
def fnRectOfScreenSpec : ChangeSpec := { name := "fnRectOfScreen", fn := fun _ => fun
  | [d] => { results := [.lit (.bool true)], args := [d] }
  | _ => none }
def fnRectOfScreenRow : OpenClaim := { program := "ytbkhbmcoococmaa", sum := "cdf68f63689941e757e3aa6783410f93321ebc677bb136e84d962e1123d7589f", func := "loop.example/flexlayout/laws.FnRectOfScreen", spec := "fnRectOfScreen", unfollowed := true, recurses := true, apart := false }
def FnRectOfScreenSaid : Prop := fnRectOfScreenRow.holds Try.pinned (OpenSpec.ofChange fnRectOfScreenSpec)

/-- ITS FALSE NEIGHBOUR: 'it returns false'. Refute it at one input. -/
def fnRectOfScreenWrong : ChangeSpec := { name := "fnRectOfScreen", fn := fun _ => fun
  | [d] => { results := [.lit (.bool false)], args := [d] }
  | _ => none }
def FnRectOfScreenWrongFalsely : Prop := fnRectOfScreenRow.holds Try.pinned (OpenSpec.ofChange fnRectOfScreenWrong)

/-- 'laws.FnHitBoxScreen': WHATEVER THE INPUT: true; the input reads as it did. -/
def fnHitBoxScreenSpec : ChangeSpec := { name := "fnHitBoxScreen", fn := fun _ => fun
  | [d] => { results := [.lit (.bool true)], args := [d] }
  | _ => none }
def fnHitBoxScreenRow : OpenClaim := { program := "ytbkhbmcoococmaa", sum := "cdf68f63689941e757e3aa6783410f93321ebc677bb136e84d962e1123d7589f", func := "loop.example/flexlayout/laws.FnHitBoxScreen", spec := "fnHitBoxScreen", unfollowed := true, recurses := true, apart := false }
def FnHitBoxScreenSaid : Prop := fnHitBoxScreenRow.holds Try.pinned (OpenSpec.ofChange fnHitBoxScreenSpec)

/-- ITS FALSE NEIGHBOUR: 'it returns false'. Refute it at one input. -/
def fnHitBoxScreenWrong : ChangeSpec := { name := "fnHitBoxScreen", fn := fun _ => fun
  | [d] => { results := [.lit (.bool false)], args := [d] }
  | _ => none }
def FnHitBoxScreenWrongFalsely : Prop := fnHitBoxScreenRow.holds Try.pinned (OpenSpec.ofChange fnHitBoxScreenWrong)

/-- 'laws.FnRectOfPart': WHATEVER THE INPUT: true; the input reads as it did. -/
def fnRectOfPartSpec : ChangeSpec := { name := "fnRectOfPart", fn := fun _ => fun
  | [d] => { results := [.lit (.bool true)], args := [d] }
  | _ => none }
def fnRectOfPartRow : OpenClaim := { program := "ytbkhbmcoococmaa", sum := "cdf68f63689941e757e3aa6783410f93321ebc677bb136e84d962e1123d7589f", func := "loop.example/flexlayout/laws.FnRectOfPart", spec := "fnRectOfPart", unfollowed := true, recurses := true, apart := false }
def FnRectOfPartSaid : Prop := fnRectOfPartRow.holds Try.pinned (OpenSpec.ofChange fnRectOfPartSpec)

/-- ITS FALSE NEIGHBOUR: 'it returns false'. Refute it at one input. -/
def fnRectOfPartWrong : ChangeSpec := { name := "fnRectOfPart", fn := fun _ => fun
  | [d] => { results := [.lit (.bool false)], args := [d] }
  | _ => none }
def FnRectOfPartWrongFalsely : Prop := fnRectOfPartRow.holds Try.pinned (OpenSpec.ofChange fnRectOfPartWrong)

/-- 'laws.FnHitBox': WHATEVER THE INPUT: true; the input reads as it did. -/
def fnHitBoxSpec : ChangeSpec := { name := "fnHitBox", fn := fun _ => fun
  | [d] => { results := [.lit (.bool true)], args := [d] }
  | _ => none }
def fnHitBoxRow : OpenClaim := { program := "ytbkhbmcoococmaa", sum := "cdf68f63689941e757e3aa6783410f93321ebc677bb136e84d962e1123d7589f", func := "loop.example/flexlayout/laws.FnHitBox", spec := "fnHitBox", unfollowed := true, recurses := true, apart := false }
def FnHitBoxSaid : Prop := fnHitBoxRow.holds Try.pinned (OpenSpec.ofChange fnHitBoxSpec)

/-- ITS FALSE NEIGHBOUR: 'it returns false'. Refute it at one input. -/
def fnHitBoxWrong : ChangeSpec := { name := "fnHitBox", fn := fun _ => fun
  | [d] => { results := [.lit (.bool false)], args := [d] }
  | _ => none }
def FnHitBoxWrongFalsely : Prop := fnHitBoxRow.holds Try.pinned (OpenSpec.ofChange fnHitBoxWrong)

/-- 'laws.FnHitBoxInner': WHATEVER THE INPUT: true; the input reads as it did. -/
def fnHitBoxInnerSpec : ChangeSpec := { name := "fnHitBoxInner", fn := fun _ => fun
  | [d] => { results := [.lit (.bool true)], args := [d] }
  | _ => none }
def fnHitBoxInnerRow : OpenClaim := { program := "ytbkhbmcoococmaa", sum := "cdf68f63689941e757e3aa6783410f93321ebc677bb136e84d962e1123d7589f", func := "loop.example/flexlayout/laws.FnHitBoxInner", spec := "fnHitBoxInner", unfollowed := true, recurses := true, apart := false }
def FnHitBoxInnerSaid : Prop := fnHitBoxInnerRow.holds Try.pinned (OpenSpec.ofChange fnHitBoxInnerSpec)

/-- ITS FALSE NEIGHBOUR: 'it returns false'. Refute it at one input. -/
def fnHitBoxInnerWrong : ChangeSpec := { name := "fnHitBoxInner", fn := fun _ => fun
  | [d] => { results := [.lit (.bool false)], args := [d] }
  | _ => none }
def FnHitBoxInnerWrongFalsely : Prop := fnHitBoxInnerRow.holds Try.pinned (OpenSpec.ofChange fnHitBoxInnerWrong)

/-- 'laws.FnSeenBoxesHit': WHATEVER THE INPUT: true; the input reads as it did. -/
def fnSeenBoxesHitSpec : ChangeSpec := { name := "fnSeenBoxesHit", fn := fun _ => fun
  | [d] => { results := [.lit (.bool true)], args := [d] }
  | _ => none }
def fnSeenBoxesHitRow : OpenClaim := { program := "ytbkhbmcoococmaa", sum := "cdf68f63689941e757e3aa6783410f93321ebc677bb136e84d962e1123d7589f", func := "loop.example/flexlayout/laws.FnSeenBoxesHit", spec := "fnSeenBoxesHit", unfollowed := true, recurses := true, apart := false }
def FnSeenBoxesHitSaid : Prop := fnSeenBoxesHitRow.holds Try.pinned (OpenSpec.ofChange fnSeenBoxesHitSpec)

/-- ITS FALSE NEIGHBOUR: 'it returns false'. Refute it at one input. -/
def fnSeenBoxesHitWrong : ChangeSpec := { name := "fnSeenBoxesHit", fn := fun _ => fun
  | [d] => { results := [.lit (.bool false)], args := [d] }
  | _ => none }
def FnSeenBoxesHitWrongFalsely : Prop := fnSeenBoxesHitRow.holds Try.pinned (OpenSpec.ofChange fnSeenBoxesHitWrong)

/-- 'laws.FnSeenBoxes': WHATEVER THE INPUT: true; the input reads as it did. -/
def fnSeenBoxesSpec : ChangeSpec := { name := "fnSeenBoxes", fn := fun _ => fun
  | [d] => { results := [.lit (.bool true)], args := [d] }
  | _ => none }
def fnSeenBoxesRow : OpenClaim := { program := "ytbkhbmcoococmaa", sum := "cdf68f63689941e757e3aa6783410f93321ebc677bb136e84d962e1123d7589f", func := "loop.example/flexlayout/laws.FnSeenBoxes", spec := "fnSeenBoxes", unfollowed := true, recurses := true, apart := false }
def FnSeenBoxesSaid : Prop := fnSeenBoxesRow.holds Try.pinned (OpenSpec.ofChange fnSeenBoxesSpec)

/-- ITS FALSE NEIGHBOUR: 'it returns false'. Refute it at one input. -/
def fnSeenBoxesWrong : ChangeSpec := { name := "fnSeenBoxes", fn := fun _ => fun
  | [d] => { results := [.lit (.bool false)], args := [d] }
  | _ => none }
def FnSeenBoxesWrongFalsely : Prop := fnSeenBoxesRow.holds Try.pinned (OpenSpec.ofChange fnSeenBoxesWrong)

/-- 'laws.FnSeenBoxesAll': WHATEVER THE INPUT: true; the input reads as it did. -/
def fnSeenBoxesAllSpec : ChangeSpec := { name := "fnSeenBoxesAll", fn := fun _ => fun
  | [d] => { results := [.lit (.bool true)], args := [d] }
  | _ => none }
def fnSeenBoxesAllRow : OpenClaim := { program := "ytbkhbmcoococmaa", sum := "cdf68f63689941e757e3aa6783410f93321ebc677bb136e84d962e1123d7589f", func := "loop.example/flexlayout/laws.FnSeenBoxesAll", spec := "fnSeenBoxesAll", unfollowed := true, recurses := true, apart := false }
def FnSeenBoxesAllSaid : Prop := fnSeenBoxesAllRow.holds Try.pinned (OpenSpec.ofChange fnSeenBoxesAllSpec)

/-- ITS FALSE NEIGHBOUR: 'it returns false'. Refute it at one input. -/
def fnSeenBoxesAllWrong : ChangeSpec := { name := "fnSeenBoxesAll", fn := fun _ => fun
  | [d] => { results := [.lit (.bool false)], args := [d] }
  | _ => none }
def FnSeenBoxesAllWrongFalsely : Prop := fnSeenBoxesAllRow.holds Try.pinned (OpenSpec.ofChange fnSeenBoxesAllWrong)

/-- 'laws.FnHitBoxCorner': WHATEVER THE INPUT: true; the input reads as it did. -/
def fnHitBoxCornerSpec : ChangeSpec := { name := "fnHitBoxCorner", fn := fun _ => fun
  | [d] => { results := [.lit (.bool true)], args := [d] }
  | _ => none }
def fnHitBoxCornerRow : OpenClaim := { program := "ytbkhbmcoococmaa", sum := "cdf68f63689941e757e3aa6783410f93321ebc677bb136e84d962e1123d7589f", func := "loop.example/flexlayout/laws.FnHitBoxCorner", spec := "fnHitBoxCorner", unfollowed := true, recurses := true, apart := false }
def FnHitBoxCornerSaid : Prop := fnHitBoxCornerRow.holds Try.pinned (OpenSpec.ofChange fnHitBoxCornerSpec)

/-- ITS FALSE NEIGHBOUR: 'it returns false'. Refute it at one input. -/
def fnHitBoxCornerWrong : ChangeSpec := { name := "fnHitBoxCorner", fn := fun _ => fun
  | [d] => { results := [.lit (.bool false)], args := [d] }
  | _ => none }
def FnHitBoxCornerWrongFalsely : Prop := fnHitBoxCornerRow.holds Try.pinned (OpenSpec.ofChange fnHitBoxCornerWrong)

/-- 'laws.FnRectOf': WHATEVER THE INPUT: true; the input reads as it did. -/
def fnRectOfSpec : ChangeSpec := { name := "fnRectOf", fn := fun _ => fun
  | [d] => { results := [.lit (.bool true)], args := [d] }
  | _ => none }
def fnRectOfRow : OpenClaim := { program := "ytbkhbmcoococmaa", sum := "cdf68f63689941e757e3aa6783410f93321ebc677bb136e84d962e1123d7589f", func := "loop.example/flexlayout/laws.FnRectOf", spec := "fnRectOf", unfollowed := true, recurses := true, apart := false }
def FnRectOfSaid : Prop := fnRectOfRow.holds Try.pinned (OpenSpec.ofChange fnRectOfSpec)

/-- ITS FALSE NEIGHBOUR: 'it returns false'. Refute it at one input. -/
def fnRectOfWrong : ChangeSpec := { name := "fnRectOf", fn := fun _ => fun
  | [d] => { results := [.lit (.bool false)], args := [d] }
  | _ => none }
def FnRectOfWrongFalsely : Prop := fnRectOfRow.holds Try.pinned (OpenSpec.ofChange fnRectOfWrong)

/- THE SECOND FORM. 'bulk': how many values and letters a reading holds, each counted each time it is reached (what is shared counts as often as it is met; a slice's spare places count too). A statement '..UptoSaid' is the law's where the arguments, and the package variables that the reading takes, are together of bulk at most 1048576: NARROWER than '..Said'. Prove '..Said' where nothing that the law and all that it calls make is longer than what came in: it says more and counts as full. Else prove '..UptoSaid'. A law counts once. -/
mutual
def uptoBulk {H : Type} : DataW H → Nat
  | .lit (.string bytes) => bytes.length + 1
  | .lit _ => 1
  | .nil => 1
  | .ptr d => uptoBulk d + 1
  | .slice elems spare => uptoBulkAll elems + uptoBulkAll spare + 1
  | .agg parts => uptoBulkAll parts + 1
  | .iface _ d => uptoBulk d + 1
  | .map entries => uptoBulkEntries entries + 1
  | .held _ => 1
def uptoBulkAll {H : Type} : List (DataW H) → Nat
  | [] => 0
  | d :: r => uptoBulk d + uptoBulkAll r
def uptoBulkEntries {H : Type} : List (Lit × DataW H) → Nat
  | [] => 0
  | x :: r => uptoBulkEntry x + uptoBulkEntries r
def uptoBulkEntry {H : Type} : Lit × DataW H → Nat
  | (.string bytes, d) => bytes.length + uptoBulk d + 1
  | (_, d) => uptoBulk d + 1
 end
def uptoSmall : (H : Type) → List (DataW H) → Bool := fun _ ds => decide (uptoBulkAll ds ≤ 1048576)
def OpenSpec.upto (s : _root_.Go.ChangeSpec) : _root_.Go.OpenSpec := { _root_.Go.OpenSpec.ofChange s with cond := some uptoSmall }

/-- 'laws.FnLayoutTreeRow', WHERE WHAT IT READS IS OF BULK AT MOST 1048576: true; the input reads as it did. -/
def fnLayoutTreeRowUptoRow : OpenClaim := { program := "ytbkhbmcoococmaa", sum := "cdf68f63689941e757e3aa6783410f93321ebc677bb136e84d962e1123d7589f", func := "loop.example/flexlayout/laws.FnLayoutTreeRow", spec := "fnLayoutTreeRow", unfollowed := true, recurses := true, apart := false, narrowed := true }
def FnLayoutTreeRowUptoSaid : Prop := fnLayoutTreeRowUptoRow.holds Try.pinned (OpenSpec.upto fnLayoutTreeRowSpec)

/-- 'laws.FnExactHitBox', WHERE WHAT IT READS IS OF BULK AT MOST 1048576: true; the input reads as it did. -/
def fnExactHitBoxUptoRow : OpenClaim := { program := "ytbkhbmcoococmaa", sum := "cdf68f63689941e757e3aa6783410f93321ebc677bb136e84d962e1123d7589f", func := "loop.example/flexlayout/laws.FnExactHitBox", spec := "fnExactHitBox", unfollowed := true, recurses := true, apart := false, narrowed := true }
def FnExactHitBoxUptoSaid : Prop := fnExactHitBoxUptoRow.holds Try.pinned (OpenSpec.upto fnExactHitBoxSpec)

/-- 'laws.FnRectOfScreen', WHERE WHAT IT READS IS OF BULK AT MOST 1048576: true; the input reads as it did. -/
def fnRectOfScreenUptoRow : OpenClaim := { program := "ytbkhbmcoococmaa", sum := "cdf68f63689941e757e3aa6783410f93321ebc677bb136e84d962e1123d7589f", func := "loop.example/flexlayout/laws.FnRectOfScreen", spec := "fnRectOfScreen", unfollowed := true, recurses := true, apart := false, narrowed := true }
def FnRectOfScreenUptoSaid : Prop := fnRectOfScreenUptoRow.holds Try.pinned (OpenSpec.upto fnRectOfScreenSpec)

/-- 'laws.FnHitBoxScreen', WHERE WHAT IT READS IS OF BULK AT MOST 1048576: true; the input reads as it did. -/
def fnHitBoxScreenUptoRow : OpenClaim := { program := "ytbkhbmcoococmaa", sum := "cdf68f63689941e757e3aa6783410f93321ebc677bb136e84d962e1123d7589f", func := "loop.example/flexlayout/laws.FnHitBoxScreen", spec := "fnHitBoxScreen", unfollowed := true, recurses := true, apart := false, narrowed := true }
def FnHitBoxScreenUptoSaid : Prop := fnHitBoxScreenUptoRow.holds Try.pinned (OpenSpec.upto fnHitBoxScreenSpec)

/-- 'laws.FnRectOfPart', WHERE WHAT IT READS IS OF BULK AT MOST 1048576: true; the input reads as it did. -/
def fnRectOfPartUptoRow : OpenClaim := { program := "ytbkhbmcoococmaa", sum := "cdf68f63689941e757e3aa6783410f93321ebc677bb136e84d962e1123d7589f", func := "loop.example/flexlayout/laws.FnRectOfPart", spec := "fnRectOfPart", unfollowed := true, recurses := true, apart := false, narrowed := true }
def FnRectOfPartUptoSaid : Prop := fnRectOfPartUptoRow.holds Try.pinned (OpenSpec.upto fnRectOfPartSpec)

/-- 'laws.FnHitBox', WHERE WHAT IT READS IS OF BULK AT MOST 1048576: true; the input reads as it did. -/
def fnHitBoxUptoRow : OpenClaim := { program := "ytbkhbmcoococmaa", sum := "cdf68f63689941e757e3aa6783410f93321ebc677bb136e84d962e1123d7589f", func := "loop.example/flexlayout/laws.FnHitBox", spec := "fnHitBox", unfollowed := true, recurses := true, apart := false, narrowed := true }
def FnHitBoxUptoSaid : Prop := fnHitBoxUptoRow.holds Try.pinned (OpenSpec.upto fnHitBoxSpec)

/-- 'laws.FnHitBoxInner', WHERE WHAT IT READS IS OF BULK AT MOST 1048576: true; the input reads as it did. -/
def fnHitBoxInnerUptoRow : OpenClaim := { program := "ytbkhbmcoococmaa", sum := "cdf68f63689941e757e3aa6783410f93321ebc677bb136e84d962e1123d7589f", func := "loop.example/flexlayout/laws.FnHitBoxInner", spec := "fnHitBoxInner", unfollowed := true, recurses := true, apart := false, narrowed := true }
def FnHitBoxInnerUptoSaid : Prop := fnHitBoxInnerUptoRow.holds Try.pinned (OpenSpec.upto fnHitBoxInnerSpec)

/-- 'laws.FnSeenBoxesHit', WHERE WHAT IT READS IS OF BULK AT MOST 1048576: true; the input reads as it did. -/
def fnSeenBoxesHitUptoRow : OpenClaim := { program := "ytbkhbmcoococmaa", sum := "cdf68f63689941e757e3aa6783410f93321ebc677bb136e84d962e1123d7589f", func := "loop.example/flexlayout/laws.FnSeenBoxesHit", spec := "fnSeenBoxesHit", unfollowed := true, recurses := true, apart := false, narrowed := true }
def FnSeenBoxesHitUptoSaid : Prop := fnSeenBoxesHitUptoRow.holds Try.pinned (OpenSpec.upto fnSeenBoxesHitSpec)

/-- 'laws.FnSeenBoxes', WHERE WHAT IT READS IS OF BULK AT MOST 1048576: true; the input reads as it did. -/
def fnSeenBoxesUptoRow : OpenClaim := { program := "ytbkhbmcoococmaa", sum := "cdf68f63689941e757e3aa6783410f93321ebc677bb136e84d962e1123d7589f", func := "loop.example/flexlayout/laws.FnSeenBoxes", spec := "fnSeenBoxes", unfollowed := true, recurses := true, apart := false, narrowed := true }
def FnSeenBoxesUptoSaid : Prop := fnSeenBoxesUptoRow.holds Try.pinned (OpenSpec.upto fnSeenBoxesSpec)

/-- 'laws.FnSeenBoxesAll', WHERE WHAT IT READS IS OF BULK AT MOST 1048576: true; the input reads as it did. -/
def fnSeenBoxesAllUptoRow : OpenClaim := { program := "ytbkhbmcoococmaa", sum := "cdf68f63689941e757e3aa6783410f93321ebc677bb136e84d962e1123d7589f", func := "loop.example/flexlayout/laws.FnSeenBoxesAll", spec := "fnSeenBoxesAll", unfollowed := true, recurses := true, apart := false, narrowed := true }
def FnSeenBoxesAllUptoSaid : Prop := fnSeenBoxesAllUptoRow.holds Try.pinned (OpenSpec.upto fnSeenBoxesAllSpec)

/-- 'laws.FnHitBoxCorner', WHERE WHAT IT READS IS OF BULK AT MOST 1048576: true; the input reads as it did. -/
def fnHitBoxCornerUptoRow : OpenClaim := { program := "ytbkhbmcoococmaa", sum := "cdf68f63689941e757e3aa6783410f93321ebc677bb136e84d962e1123d7589f", func := "loop.example/flexlayout/laws.FnHitBoxCorner", spec := "fnHitBoxCorner", unfollowed := true, recurses := true, apart := false, narrowed := true }
def FnHitBoxCornerUptoSaid : Prop := fnHitBoxCornerUptoRow.holds Try.pinned (OpenSpec.upto fnHitBoxCornerSpec)

/-- 'laws.FnRectOf', WHERE WHAT IT READS IS OF BULK AT MOST 1048576: true; the input reads as it did. -/
def fnRectOfUptoRow : OpenClaim := { program := "ytbkhbmcoococmaa", sum := "cdf68f63689941e757e3aa6783410f93321ebc677bb136e84d962e1123d7589f", func := "loop.example/flexlayout/laws.FnRectOf", spec := "fnRectOf", unfollowed := true, recurses := true, apart := false, narrowed := true }
def FnRectOfUptoSaid : Prop := fnRectOfUptoRow.holds Try.pinned (OpenSpec.upto fnRectOfSpec)

end Rows
end Go.Proofs.Ytbkhbmcoococmaa
