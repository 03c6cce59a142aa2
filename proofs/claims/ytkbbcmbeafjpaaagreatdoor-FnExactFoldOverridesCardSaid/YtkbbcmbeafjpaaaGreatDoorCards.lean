/-
  DERIVED. GIVEN WITH THE SEED: THE CARDS: each row of YtkbbcmbeafjpaaaGreatDoorRows.lean that lists a variable, with what it lists TIED to the program's text (the seventh form; the later family's looks); each row that meets fmt, with fmt's text TOLD by the authors' own Lean function (tested against real Go, not proved from fmt's source: count such statements apart). THE CARD IS WHAT COUNTS. Prove the row's statement (the work); the ties are given (YtkbbcmbeafjpaaaGreatDoorTie.lean); close each card by the builder's one call (the guide's Derived/Test/ToyasCard.lean, 'card_holds'). Laid BY PROGRAM, IN A SANDBOX (cutbox-door.mjs). By AI agents, Wed Nov 11 2026. No macro, syntax, notation, axiom, sorry.
-/
import Derived.Test.YtkbbcmbeafjpaaaGreatDoorRows
import GoSem.ClaimSeven
namespace Go.Proofs.YtkbbcmbeafjpaaaGreatDoor
namespace Rows

/-- THE TIED CARD OF 'laws.FnExactLookupStack'. -/
def fnExactLookupStackCard : Claim7 := { stood := { row := fnExactLookupStackRow, standIns := [], harness := (true, "0a055facdfed52634cc6e3afe02bf7d64c2c09defa06d1a19fab15cb4d895d9c"), looks := false }, kinds := [], alts := [], laidByText := true, laidKinds := [.data, .pinned], laidTests := true, laidLooks := .later }
def FnExactLookupStackCardSaid : Prop := Claim7.holds Tryz.pinned (.plain (OpenSpec.ofChange fnExactLookupStackSpec)) fnExactLookupStackCard

/-- THE TIED CARD OF 'laws.FnReverse'. -/
def fnReverseCard : Claim7 := { stood := { row := fnReverseRow, standIns := [], harness := (true, "0a055facdfed52634cc6e3afe02bf7d64c2c09defa06d1a19fab15cb4d895d9c"), looks := false }, kinds := [], alts := [], laidByText := true, laidKinds := [.data, .pinned], laidTests := true, laidLooks := .later }
def FnReverseCardSaid : Prop := Claim7.holds Tryz.pinned (.plain (OpenSpec.ofChange fnReverseSpec)) fnReverseCard

/-- THE TIED CARD OF 'laws.FnExactSegment'. -/
def fnExactSegmentCard : Claim7 := { stood := { row := fnExactSegmentRow, standIns := [], harness := (true, "0a055facdfed52634cc6e3afe02bf7d64c2c09defa06d1a19fab15cb4d895d9c"), looks := false }, kinds := [], alts := [], laidByText := true, laidKinds := [.data, .pinned], laidTests := true, laidLooks := .later }
def FnExactSegmentCardSaid : Prop := Claim7.holds Tryz.pinned (.plain (OpenSpec.ofChange fnExactSegmentSpec)) fnExactSegmentCard

/-- THE TIED CARD OF 'laws.FnExactFewestPieces'. -/
def fnExactFewestPiecesCard : Claim7 := { stood := { row := fnExactFewestPiecesRow, standIns := [], harness := (true, "0a055facdfed52634cc6e3afe02bf7d64c2c09defa06d1a19fab15cb4d895d9c"), looks := false }, kinds := [], alts := [], laidByText := true, laidKinds := [.data, .pinned], laidTests := true, laidLooks := .later }
def FnExactFewestPiecesCardSaid : Prop := Claim7.holds Tryz.pinned (.plain (OpenSpec.ofChange fnExactFewestPiecesSpec)) fnExactFewestPiecesCard

/-- THE TIED CARD OF 'laws.FnExactLookupFolded'. -/
def fnExactLookupFoldedCard : Claim7 := { stood := { row := fnExactLookupFoldedRow, standIns := [], harness := (true, "0a055facdfed52634cc6e3afe02bf7d64c2c09defa06d1a19fab15cb4d895d9c"), looks := false }, kinds := [], alts := [], laidByText := true, laidKinds := [.data, .pinned], laidTests := true, laidLooks := .later }
def FnExactLookupFoldedCardSaid : Prop := Claim7.holds Tryz.pinned (.plain (OpenSpec.ofChange fnExactLookupFoldedSpec)) fnExactLookupFoldedCard

/-- THE TIED CARD OF 'laws.FnExactFoldOverrides'. -/
def fnExactFoldOverridesCard : Claim7 := { stood := { row := fnExactFoldOverridesRow, standIns := [], harness := (true, "0a055facdfed52634cc6e3afe02bf7d64c2c09defa06d1a19fab15cb4d895d9c"), looks := false }, kinds := [], alts := [], laidByText := true, laidKinds := [.data, .pinned], laidTests := true, laidLooks := .later }
def FnExactFoldOverridesCardSaid : Prop := Claim7.holds Tryz.pinned (.plain (OpenSpec.ofChange fnExactFoldOverridesSpec)) fnExactFoldOverridesCard

/-- THE TIED CARD OF 'laws.FnExactShadowedEntries'. -/
def fnExactShadowedEntriesCard : Claim7 := { stood := { row := fnExactShadowedEntriesRow, standIns := [], harness := (true, "0a055facdfed52634cc6e3afe02bf7d64c2c09defa06d1a19fab15cb4d895d9c"), looks := false }, kinds := [], alts := [], laidByText := true, laidKinds := [.data, .pinned], laidTests := true, laidLooks := .later }
def FnExactShadowedEntriesCardSaid : Prop := Claim7.holds Tryz.pinned (.plain (OpenSpec.ofChange fnExactShadowedEntriesSpec)) fnExactShadowedEntriesCard

/-- THE TIED CARD OF 'laws.FnFoldLookup'. -/
def fnFoldLookupCard : Claim7 := { stood := { row := fnFoldLookupRow, standIns := [], harness := (true, "0a055facdfed52634cc6e3afe02bf7d64c2c09defa06d1a19fab15cb4d895d9c"), looks := false }, kinds := [], alts := [], laidByText := true, laidKinds := [.data, .pinned], laidTests := true, laidLooks := .later }
def FnFoldLookupCardSaid : Prop := Claim7.holds Tryz.pinned (.plain (OpenSpec.ofChange fnFoldLookupSpec)) fnFoldLookupCard

/-- THE TIED CARD OF 'laws.FnExactScreenOf'. -/
def fnExactScreenOfCard : Claim7 := { stood := { row := fnExactScreenOfRow, standIns := [], harness := (true, "0a055facdfed52634cc6e3afe02bf7d64c2c09defa06d1a19fab15cb4d895d9c"), looks := false }, kinds := [], alts := [], laidByText := true, laidKinds := [.data, .pinned], laidTests := true, laidLooks := .later }
def FnExactScreenOfCardSaid : Prop := Claim7.holds Tryz.pinned (.plain (OpenSpec.ofChange fnExactScreenOfSpec)) fnExactScreenOfCard

/-- THE TIED CARD OF 'laws.FnExactIsValidTranslator'. -/
def fnExactIsValidTranslatorCard : Claim7 := { stood := { row := fnExactIsValidTranslatorRow, standIns := [], harness := (true, "0a055facdfed52634cc6e3afe02bf7d64c2c09defa06d1a19fab15cb4d895d9c"), looks := false }, kinds := [], alts := [], laidByText := true, laidKinds := [.data, .pinned], laidTests := true, laidLooks := .later }
def FnExactIsValidTranslatorCardSaid : Prop := Claim7.holds Tryz.pinned (.plain (OpenSpec.ofChange fnExactIsValidTranslatorSpec)) fnExactIsValidTranslatorCard

/-- THE SECOND FORM's CARD OF 'laws.FnExactLookupStack'. -/
def fnExactLookupStackUptoCard : Claim7 := { stood := { row := fnExactLookupStackUptoRow, standIns := [], harness := (true, "0a055facdfed52634cc6e3afe02bf7d64c2c09defa06d1a19fab15cb4d895d9c"), looks := false }, kinds := [], alts := [], laidByText := true, laidKinds := [.data, .pinned], laidTests := true, laidLooks := .later }
def FnExactLookupStackUptoCardSaid : Prop := Claim7.holds Tryz.pinned (.plain (OpenSpec.upto fnExactLookupStackSpec)) fnExactLookupStackUptoCard

/-- THE SECOND FORM's CARD OF 'laws.FnReverse'. -/
def fnReverseUptoCard : Claim7 := { stood := { row := fnReverseUptoRow, standIns := [], harness := (true, "0a055facdfed52634cc6e3afe02bf7d64c2c09defa06d1a19fab15cb4d895d9c"), looks := false }, kinds := [], alts := [], laidByText := true, laidKinds := [.data, .pinned], laidTests := true, laidLooks := .later }
def FnReverseUptoCardSaid : Prop := Claim7.holds Tryz.pinned (.plain (OpenSpec.upto fnReverseSpec)) fnReverseUptoCard

/-- THE SECOND FORM's CARD OF 'laws.FnExactSegment'. -/
def fnExactSegmentUptoCard : Claim7 := { stood := { row := fnExactSegmentUptoRow, standIns := [], harness := (true, "0a055facdfed52634cc6e3afe02bf7d64c2c09defa06d1a19fab15cb4d895d9c"), looks := false }, kinds := [], alts := [], laidByText := true, laidKinds := [.data, .pinned], laidTests := true, laidLooks := .later }
def FnExactSegmentUptoCardSaid : Prop := Claim7.holds Tryz.pinned (.plain (OpenSpec.upto fnExactSegmentSpec)) fnExactSegmentUptoCard

/-- THE SECOND FORM's CARD OF 'laws.FnExactFewestPieces'. -/
def fnExactFewestPiecesUptoCard : Claim7 := { stood := { row := fnExactFewestPiecesUptoRow, standIns := [], harness := (true, "0a055facdfed52634cc6e3afe02bf7d64c2c09defa06d1a19fab15cb4d895d9c"), looks := false }, kinds := [], alts := [], laidByText := true, laidKinds := [.data, .pinned], laidTests := true, laidLooks := .later }
def FnExactFewestPiecesUptoCardSaid : Prop := Claim7.holds Tryz.pinned (.plain (OpenSpec.upto fnExactFewestPiecesSpec)) fnExactFewestPiecesUptoCard

/-- THE SECOND FORM's CARD OF 'laws.FnExactLookupFolded'. -/
def fnExactLookupFoldedUptoCard : Claim7 := { stood := { row := fnExactLookupFoldedUptoRow, standIns := [], harness := (true, "0a055facdfed52634cc6e3afe02bf7d64c2c09defa06d1a19fab15cb4d895d9c"), looks := false }, kinds := [], alts := [], laidByText := true, laidKinds := [.data, .pinned], laidTests := true, laidLooks := .later }
def FnExactLookupFoldedUptoCardSaid : Prop := Claim7.holds Tryz.pinned (.plain (OpenSpec.upto fnExactLookupFoldedSpec)) fnExactLookupFoldedUptoCard

/-- THE SECOND FORM's CARD OF 'laws.FnExactFoldOverrides'. -/
def fnExactFoldOverridesUptoCard : Claim7 := { stood := { row := fnExactFoldOverridesUptoRow, standIns := [], harness := (true, "0a055facdfed52634cc6e3afe02bf7d64c2c09defa06d1a19fab15cb4d895d9c"), looks := false }, kinds := [], alts := [], laidByText := true, laidKinds := [.data, .pinned], laidTests := true, laidLooks := .later }
def FnExactFoldOverridesUptoCardSaid : Prop := Claim7.holds Tryz.pinned (.plain (OpenSpec.upto fnExactFoldOverridesSpec)) fnExactFoldOverridesUptoCard

/-- THE SECOND FORM's CARD OF 'laws.FnExactShadowedEntries'. -/
def fnExactShadowedEntriesUptoCard : Claim7 := { stood := { row := fnExactShadowedEntriesUptoRow, standIns := [], harness := (true, "0a055facdfed52634cc6e3afe02bf7d64c2c09defa06d1a19fab15cb4d895d9c"), looks := false }, kinds := [], alts := [], laidByText := true, laidKinds := [.data, .pinned], laidTests := true, laidLooks := .later }
def FnExactShadowedEntriesUptoCardSaid : Prop := Claim7.holds Tryz.pinned (.plain (OpenSpec.upto fnExactShadowedEntriesSpec)) fnExactShadowedEntriesUptoCard

/-- THE SECOND FORM's CARD OF 'laws.FnFoldLookup'. -/
def fnFoldLookupUptoCard : Claim7 := { stood := { row := fnFoldLookupUptoRow, standIns := [], harness := (true, "0a055facdfed52634cc6e3afe02bf7d64c2c09defa06d1a19fab15cb4d895d9c"), looks := false }, kinds := [], alts := [], laidByText := true, laidKinds := [.data, .pinned], laidTests := true, laidLooks := .later }
def FnFoldLookupUptoCardSaid : Prop := Claim7.holds Tryz.pinned (.plain (OpenSpec.upto fnFoldLookupSpec)) fnFoldLookupUptoCard

/-- THE SECOND FORM's CARD OF 'laws.FnExactScreenOf'. -/
def fnExactScreenOfUptoCard : Claim7 := { stood := { row := fnExactScreenOfUptoRow, standIns := [], harness := (true, "0a055facdfed52634cc6e3afe02bf7d64c2c09defa06d1a19fab15cb4d895d9c"), looks := false }, kinds := [], alts := [], laidByText := true, laidKinds := [.data, .pinned], laidTests := true, laidLooks := .later }
def FnExactScreenOfUptoCardSaid : Prop := Claim7.holds Tryz.pinned (.plain (OpenSpec.upto fnExactScreenOfSpec)) fnExactScreenOfUptoCard

/-- THE SECOND FORM's CARD OF 'laws.FnExactIsValidTranslator'. -/
def fnExactIsValidTranslatorUptoCard : Claim7 := { stood := { row := fnExactIsValidTranslatorUptoRow, standIns := [], harness := (true, "0a055facdfed52634cc6e3afe02bf7d64c2c09defa06d1a19fab15cb4d895d9c"), looks := false }, kinds := [], alts := [], laidByText := true, laidKinds := [.data, .pinned], laidTests := true, laidLooks := .later }
def FnExactIsValidTranslatorUptoCardSaid : Prop := Claim7.holds Tryz.pinned (.plain (OpenSpec.upto fnExactIsValidTranslatorSpec)) fnExactIsValidTranslatorUptoCard
end Rows
end Go.Proofs.YtkbbcmbeafjpaaaGreatDoor
