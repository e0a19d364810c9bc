/-
  DERIVED. GIVEN WITH THE SEED: THE CARDS: each row of YtdlggpphfkjidaaDoorRows.lean that lists a variable, with what it lists TIED to the program's text (the seventh form; the later family's looks); each row that meets fmt, with fmt's text TOLD by the authors' own Lean function (tested against real Go, not proved from fmt's source: count such statements apart). THE CARD IS WHAT COUNTS. Prove the row's statement (the work); the ties are given (YtdlggpphfkjidaaDoorTie.lean); close each card by the builder's one call (the guide's Derived/Test/ToyasCard.lean, 'card_holds'). Laid BY PROGRAM, IN A SANDBOX (cutbox-door.mjs). By AI agents, Wed Nov 11 2026. No macro, syntax, notation, axiom, sorry.
-/
import Derived.Test.YtdlggpphfkjidaaDoorRows
import GoSem.ClaimSeven
namespace Go.Proofs.YtdlggpphfkjidaaDoor
namespace Rows

/-- THE TIED CARD OF 'laws.FnTreeTextLines'. -/
def fnTreeTextLinesCard : Claim7 := { stood := { row := fnTreeTextLinesRow, standIns := [], harness := (true, "1340f110f677701be72c41f9c5b1e0c2e9cea9541ef3dd8f55328eb6cc0ae1f1"), looks := false }, kinds := [], alts := [], laidByText := true, laidKinds := [.data, .data, .data], laidTests := true, laidLooks := .later }
def FnTreeTextLinesCardSaid : Prop := Claim7.holds Tryd.pinned (.plain (OpenSpec.ofChange fnTreeTextLinesSpec)) fnTreeTextLinesCard

/-- THE TIED CARD OF 'laws.FnTreeTextShort'. -/
def fnTreeTextShortCard : Claim7 := { stood := { row := fnTreeTextShortRow, standIns := [], harness := (true, "1340f110f677701be72c41f9c5b1e0c2e9cea9541ef3dd8f55328eb6cc0ae1f1"), looks := false }, kinds := [], alts := [], laidByText := true, laidKinds := [.data, .data, .data], laidTests := true, laidLooks := .later }
def FnTreeTextShortCardSaid : Prop := Claim7.holds Tryd.pinned (.plain (OpenSpec.ofChange fnTreeTextShortSpec)) fnTreeTextShortCard

/-- THE SECOND FORM's CARD OF 'laws.FnTreeTextLines'. -/
def fnTreeTextLinesUptoCard : Claim7 := { stood := { row := fnTreeTextLinesUptoRow, standIns := [], harness := (true, "1340f110f677701be72c41f9c5b1e0c2e9cea9541ef3dd8f55328eb6cc0ae1f1"), looks := false }, kinds := [], alts := [], laidByText := true, laidKinds := [.data, .data, .data], laidTests := true, laidLooks := .later }
def FnTreeTextLinesUptoCardSaid : Prop := Claim7.holds Tryd.pinned (.plain (OpenSpec.upto fnTreeTextLinesSpec)) fnTreeTextLinesUptoCard

/-- THE SECOND FORM's CARD OF 'laws.FnTreeTextShort'. -/
def fnTreeTextShortUptoCard : Claim7 := { stood := { row := fnTreeTextShortUptoRow, standIns := [], harness := (true, "1340f110f677701be72c41f9c5b1e0c2e9cea9541ef3dd8f55328eb6cc0ae1f1"), looks := false }, kinds := [], alts := [], laidByText := true, laidKinds := [.data, .data, .data], laidTests := true, laidLooks := .later }
def FnTreeTextShortUptoCardSaid : Prop := Claim7.holds Tryd.pinned (.plain (OpenSpec.upto fnTreeTextShortSpec)) fnTreeTextShortUptoCard
end Rows
end Go.Proofs.YtdlggpphfkjidaaDoor
