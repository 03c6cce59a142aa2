/-
  DERIVED. GIVEN WITH THE SEED: THE CARDS: each row of YtfjdbchffhbidaaDoorRows.lean that lists a variable, with what it lists TIED to the program's text (the seventh form; the later family's looks); each row that meets fmt, with fmt's text TOLD by the authors' own Lean function (tested against real Go, not proved from fmt's source: count such statements apart). THE CARD IS WHAT COUNTS. Prove the row's statement (the work); the ties are given (YtfjdbchffhbidaaDoorTie.lean); close each card by the builder's one call (the guide's Derived/Test/ToyasCard.lean, 'card_holds'). Laid BY PROGRAM, IN A SANDBOX (cutbox-door.mjs). By AI agents, Wed Nov 11 2026. No macro, syntax, notation, axiom, sorry.
-/
import Derived.Test.YtfjdbchffhbidaaDoorRows
import GoSem.ClaimSeven
namespace Go.Proofs.YtfjdbchffhbidaaDoor
namespace Rows

/-- THE TIED CARD OF 'laws.FnExactFoldedText'. -/
def fnExactFoldedTextCard : Claim7 := { stood := { row := fnExactFoldedTextRow, standIns := [], harness := (true, "1f8f0c85c300649092abfbcb60f9a6f3196fdad1edea147c06f8110ae969081f"), looks := true }, kinds := [], alts := [], laidByText := true, laidKinds := [.data, .pinned], laidTests := true, laidLooks := .later }
def FnExactFoldedTextCardSaid : Prop := Claim7.holds Tryd.pinned (.plain (OpenSpec.ofChange fnExactFoldedTextSpec)) fnExactFoldedTextCard

/-- THE TIED CARD OF 'laws.FnExactParseEdit'. -/
def fnExactParseEditCard : Claim7 := { stood := { row := fnExactParseEditRow, standIns := [], harness := (true, "1f8f0c85c300649092abfbcb60f9a6f3196fdad1edea147c06f8110ae969081f"), looks := true }, kinds := [], alts := [], laidByText := true, laidKinds := [.data, .data, .data, .sentinel, .sentinel], laidTests := true, laidLooks := .later }
def FnExactParseEditCardSaid : Prop := Claim7.holds Tryd.pinned (.plain (OpenSpec.ofChange fnExactParseEditSpec)) fnExactParseEditCard

/-- THE TIED CARD OF 'laws.FnEditText'. -/
def fnEditTextCard : Claim7 := { stood := { row := fnEditTextRow, standIns := [], harness := (true, "1f8f0c85c300649092abfbcb60f9a6f3196fdad1edea147c06f8110ae969081f"), looks := true }, kinds := [], alts := [], laidByText := true, laidKinds := [.data, .data, .data, .sentinel, .sentinel], laidTests := true, laidLooks := .later }
def FnEditTextCardSaid : Prop := Claim7.holds Tryd.pinned (.plain (OpenSpec.ofChange fnEditTextSpec)) fnEditTextCard

/-- THE TIED CARD OF 'laws.FnExactLookup'. -/
def fnExactLookupCard : Claim7 := { stood := { row := fnExactLookupRow, standIns := [], harness := (true, "1f8f0c85c300649092abfbcb60f9a6f3196fdad1edea147c06f8110ae969081f"), looks := true }, kinds := [], alts := [], laidByText := true, laidKinds := [.data, .pinned], laidTests := true, laidLooks := .later }
def FnExactLookupCardSaid : Prop := Claim7.holds Tryd.pinned (.plain (OpenSpec.ofChange fnExactLookupSpec)) fnExactLookupCard

/-- THE TIED CARD OF 'laws.FnExactIsValidStack'. -/
def fnExactIsValidStackCard : Claim7 := { stood := { row := fnExactIsValidStackRow, standIns := [], harness := (true, "1f8f0c85c300649092abfbcb60f9a6f3196fdad1edea147c06f8110ae969081f"), looks := true }, kinds := [], alts := [], laidByText := true, laidKinds := [.data, .pinned], laidTests := true, laidLooks := .later }
def FnExactIsValidStackCardSaid : Prop := Claim7.holds Tryd.pinned (.plain (OpenSpec.ofChange fnExactIsValidStackSpec)) fnExactIsValidStackCard

/-- THE TIED CARD OF 'laws.FnExactMatchAt'. -/
def fnExactMatchAtCard : Claim7 := { stood := { row := fnExactMatchAtRow, standIns := [], harness := (true, "1f8f0c85c300649092abfbcb60f9a6f3196fdad1edea147c06f8110ae969081f"), looks := true }, kinds := [], alts := [], laidByText := true, laidKinds := [.data, .pinned], laidTests := true, laidLooks := .later }
def FnExactMatchAtCardSaid : Prop := Claim7.holds Tryd.pinned (.plain (OpenSpec.ofChange fnExactMatchAtSpec)) fnExactMatchAtCard

/-- THE TIED CARD OF 'laws.FnExactIsSegmentation'. -/
def fnExactIsSegmentationCard : Claim7 := { stood := { row := fnExactIsSegmentationRow, standIns := [], harness := (true, "1f8f0c85c300649092abfbcb60f9a6f3196fdad1edea147c06f8110ae969081f"), looks := true }, kinds := [], alts := [], laidByText := true, laidKinds := [.data, .pinned], laidTests := true, laidLooks := .later }
def FnExactIsSegmentationCardSaid : Prop := Claim7.holds Tryd.pinned (.plain (OpenSpec.ofChange fnExactIsSegmentationSpec)) fnExactIsSegmentationCard

/-- THE SECOND FORM's CARD OF 'laws.FnExactFoldedText'. -/
def fnExactFoldedTextUptoCard : Claim7 := { stood := { row := fnExactFoldedTextUptoRow, standIns := [], harness := (true, "1f8f0c85c300649092abfbcb60f9a6f3196fdad1edea147c06f8110ae969081f"), looks := true }, kinds := [], alts := [], laidByText := true, laidKinds := [.data, .pinned], laidTests := true, laidLooks := .later }
def FnExactFoldedTextUptoCardSaid : Prop := Claim7.holds Tryd.pinned (.plain (OpenSpec.upto fnExactFoldedTextSpec)) fnExactFoldedTextUptoCard

/-- THE SECOND FORM's CARD OF 'laws.FnExactParseEdit'. -/
def fnExactParseEditUptoCard : Claim7 := { stood := { row := fnExactParseEditUptoRow, standIns := [], harness := (true, "1f8f0c85c300649092abfbcb60f9a6f3196fdad1edea147c06f8110ae969081f"), looks := true }, kinds := [], alts := [], laidByText := true, laidKinds := [.data, .data, .data, .sentinel, .sentinel], laidTests := true, laidLooks := .later }
def FnExactParseEditUptoCardSaid : Prop := Claim7.holds Tryd.pinned (.plain (OpenSpec.upto fnExactParseEditSpec)) fnExactParseEditUptoCard

/-- THE SECOND FORM's CARD OF 'laws.FnEditText'. -/
def fnEditTextUptoCard : Claim7 := { stood := { row := fnEditTextUptoRow, standIns := [], harness := (true, "1f8f0c85c300649092abfbcb60f9a6f3196fdad1edea147c06f8110ae969081f"), looks := true }, kinds := [], alts := [], laidByText := true, laidKinds := [.data, .data, .data, .sentinel, .sentinel], laidTests := true, laidLooks := .later }
def FnEditTextUptoCardSaid : Prop := Claim7.holds Tryd.pinned (.plain (OpenSpec.upto fnEditTextSpec)) fnEditTextUptoCard

/-- THE SECOND FORM's CARD OF 'laws.FnExactLookup'. -/
def fnExactLookupUptoCard : Claim7 := { stood := { row := fnExactLookupUptoRow, standIns := [], harness := (true, "1f8f0c85c300649092abfbcb60f9a6f3196fdad1edea147c06f8110ae969081f"), looks := true }, kinds := [], alts := [], laidByText := true, laidKinds := [.data, .pinned], laidTests := true, laidLooks := .later }
def FnExactLookupUptoCardSaid : Prop := Claim7.holds Tryd.pinned (.plain (OpenSpec.upto fnExactLookupSpec)) fnExactLookupUptoCard

/-- THE SECOND FORM's CARD OF 'laws.FnExactIsValidStack'. -/
def fnExactIsValidStackUptoCard : Claim7 := { stood := { row := fnExactIsValidStackUptoRow, standIns := [], harness := (true, "1f8f0c85c300649092abfbcb60f9a6f3196fdad1edea147c06f8110ae969081f"), looks := true }, kinds := [], alts := [], laidByText := true, laidKinds := [.data, .pinned], laidTests := true, laidLooks := .later }
def FnExactIsValidStackUptoCardSaid : Prop := Claim7.holds Tryd.pinned (.plain (OpenSpec.upto fnExactIsValidStackSpec)) fnExactIsValidStackUptoCard

/-- THE SECOND FORM's CARD OF 'laws.FnExactMatchAt'. -/
def fnExactMatchAtUptoCard : Claim7 := { stood := { row := fnExactMatchAtUptoRow, standIns := [], harness := (true, "1f8f0c85c300649092abfbcb60f9a6f3196fdad1edea147c06f8110ae969081f"), looks := true }, kinds := [], alts := [], laidByText := true, laidKinds := [.data, .pinned], laidTests := true, laidLooks := .later }
def FnExactMatchAtUptoCardSaid : Prop := Claim7.holds Tryd.pinned (.plain (OpenSpec.upto fnExactMatchAtSpec)) fnExactMatchAtUptoCard

/-- THE SECOND FORM's CARD OF 'laws.FnExactIsSegmentation'. -/
def fnExactIsSegmentationUptoCard : Claim7 := { stood := { row := fnExactIsSegmentationUptoRow, standIns := [], harness := (true, "1f8f0c85c300649092abfbcb60f9a6f3196fdad1edea147c06f8110ae969081f"), looks := true }, kinds := [], alts := [], laidByText := true, laidKinds := [.data, .pinned], laidTests := true, laidLooks := .later }
def FnExactIsSegmentationUptoCardSaid : Prop := Claim7.holds Tryd.pinned (.plain (OpenSpec.upto fnExactIsSegmentationSpec)) fnExactIsSegmentationUptoCard
end Rows
end Go.Proofs.YtfjdbchffhbidaaDoor
