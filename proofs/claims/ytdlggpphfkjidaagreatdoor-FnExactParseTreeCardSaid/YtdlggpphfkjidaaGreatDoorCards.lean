/-
  DERIVED. GIVEN WITH THE SEED: THE CARDS: each row of YtdlggpphfkjidaaGreatDoorRows.lean that lists a variable, with what it lists TIED to the program's text (the seventh form; the later family's looks); each row that meets fmt, with fmt's text TOLD by the authors' own Lean function (tested against real Go, not proved from fmt's source: count such statements apart). THE CARD IS WHAT COUNTS. Prove the row's statement (the work); the ties are given (YtdlggpphfkjidaaGreatDoorTie.lean); close each card by the builder's one call (the guide's Derived/Test/ToyasCard.lean, 'card_holds'). Laid BY PROGRAM, IN A SANDBOX (cutbox-door.mjs). By AI agents, Wed Nov 11 2026. No macro, syntax, notation, axiom, sorry.
-/
import Derived.Test.YtdlggpphfkjidaaGreatDoorRows
import GoSem.ClaimSeven
namespace Go.Proofs.YtdlggpphfkjidaaGreatDoor
namespace Rows

/-- THE TIED CARD OF 'laws.FnTreeRoundTrip'. -/
def fnTreeRoundTripCard : Claim7 := { stood := { row := fnTreeRoundTripRow, standIns := [], harness := (true, "7e0da2f1a9262f089350dcccf673dc67e434c88d98bf9a8a0a24433b24ce65ef"), looks := true }, kinds := [], alts := [], laidByText := true, laidKinds := [.data, .data, .data, .data, .sentinel, .sentinel, .pinned], laidTests := true, laidLooks := .later }
def FnTreeRoundTripCardSaid : Prop := Claim7.holds Tryz.pinned (.plain (OpenSpec.ofChange fnTreeRoundTripSpec)) fnTreeRoundTripCard

/-- THE TIED CARD OF 'laws.FnExactParseTree'. -/
def fnExactParseTreeCard : Claim7 := { stood := { row := fnExactParseTreeRow, standIns := [], harness := (true, "7e0da2f1a9262f089350dcccf673dc67e434c88d98bf9a8a0a24433b24ce65ef"), looks := true }, kinds := [], alts := [], laidByText := true, laidKinds := [.data, .data, .data, .data, .sentinel, .sentinel, .pinned], laidTests := true, laidLooks := .later }
def FnExactParseTreeCardSaid : Prop := Claim7.holds Tryz.pinned (.plain (OpenSpec.ofChange fnExactParseTreeSpec)) fnExactParseTreeCard

/-- THE TIED CARD OF 'laws.FnTreeCanonical'. -/
def fnTreeCanonicalCard : Claim7 := { stood := { row := fnTreeCanonicalRow, standIns := [], harness := (true, "7e0da2f1a9262f089350dcccf673dc67e434c88d98bf9a8a0a24433b24ce65ef"), looks := true }, kinds := [], alts := [], laidByText := true, laidKinds := [.data, .data, .data, .data, .sentinel, .sentinel, .pinned], laidTests := true, laidLooks := .later }
def FnTreeCanonicalCardSaid : Prop := Claim7.holds Tryz.pinned (.plain (OpenSpec.ofChange fnTreeCanonicalSpec)) fnTreeCanonicalCard

/-- THE SECOND FORM's CARD OF 'laws.FnTreeRoundTrip'. -/
def fnTreeRoundTripUptoCard : Claim7 := { stood := { row := fnTreeRoundTripUptoRow, standIns := [], harness := (true, "7e0da2f1a9262f089350dcccf673dc67e434c88d98bf9a8a0a24433b24ce65ef"), looks := true }, kinds := [], alts := [], laidByText := true, laidKinds := [.data, .data, .data, .data, .sentinel, .sentinel, .pinned], laidTests := true, laidLooks := .later }
def FnTreeRoundTripUptoCardSaid : Prop := Claim7.holds Tryz.pinned (.plain (OpenSpec.upto fnTreeRoundTripSpec)) fnTreeRoundTripUptoCard

/-- THE SECOND FORM's CARD OF 'laws.FnExactParseTree'. -/
def fnExactParseTreeUptoCard : Claim7 := { stood := { row := fnExactParseTreeUptoRow, standIns := [], harness := (true, "7e0da2f1a9262f089350dcccf673dc67e434c88d98bf9a8a0a24433b24ce65ef"), looks := true }, kinds := [], alts := [], laidByText := true, laidKinds := [.data, .data, .data, .data, .sentinel, .sentinel, .pinned], laidTests := true, laidLooks := .later }
def FnExactParseTreeUptoCardSaid : Prop := Claim7.holds Tryz.pinned (.plain (OpenSpec.upto fnExactParseTreeSpec)) fnExactParseTreeUptoCard

/-- THE SECOND FORM's CARD OF 'laws.FnTreeCanonical'. -/
def fnTreeCanonicalUptoCard : Claim7 := { stood := { row := fnTreeCanonicalUptoRow, standIns := [], harness := (true, "7e0da2f1a9262f089350dcccf673dc67e434c88d98bf9a8a0a24433b24ce65ef"), looks := true }, kinds := [], alts := [], laidByText := true, laidKinds := [.data, .data, .data, .data, .sentinel, .sentinel, .pinned], laidTests := true, laidLooks := .later }
def FnTreeCanonicalUptoCardSaid : Prop := Claim7.holds Tryz.pinned (.plain (OpenSpec.upto fnTreeCanonicalSpec)) fnTreeCanonicalUptoCard
end Rows
end Go.Proofs.YtdlggpphfkjidaaGreatDoor
