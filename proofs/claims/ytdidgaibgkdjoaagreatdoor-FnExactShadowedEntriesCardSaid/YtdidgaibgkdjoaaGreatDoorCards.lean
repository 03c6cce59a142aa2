/-
  DERIVED. GIVEN WITH THE SEED: THE CARDS: each row of YtdidgaibgkdjoaaGreatDoorRows.lean that lists a variable, with what it lists TIED to the program's text (the seventh form; the later family's looks); each row that meets fmt, with fmt's text TOLD by the authors' own Lean function (tested against real Go, not proved from fmt's source: count such statements apart). THE CARD IS WHAT COUNTS. Prove the row's statement (the work); the ties are given (YtdidgaibgkdjoaaGreatDoorTie.lean); close each card by the builder's one call (the guide's Derived/Test/ToyasCard.lean, 'card_holds'). Laid BY PROGRAM, IN A SANDBOX (cutbox-door.mjs). By AI agents, Wed Nov 11 2026. No macro, syntax, notation, axiom, sorry.
-/
import Derived.Test.YtdidgaibgkdjoaaGreatDoorRows
import GoSem.ClaimSeven
namespace Go.Proofs.YtdidgaibgkdjoaaGreatDoor
namespace Rows

/-- THE TIED CARD OF 'laws.FnReverse'. -/
def fnReverseCard : Claim7 := { stood := { row := fnReverseRow, standIns := [], harness := (true, "70eabb1b7a533be697576e121598ac2897fd501f92ee71b84b46e17736223434"), looks := false }, kinds := [], alts := [], laidByText := true, laidKinds := [.data, .pinned], laidTests := true, laidLooks := .later }
def FnReverseCardSaid : Prop := Claim7.holds Tryz.pinned (.plain (OpenSpec.ofChange fnReverseSpec)) fnReverseCard

/-- THE TIED CARD OF 'laws.FnExactShadowedEntries'. -/
def fnExactShadowedEntriesCard : Claim7 := { stood := { row := fnExactShadowedEntriesRow, standIns := [], harness := (true, "70eabb1b7a533be697576e121598ac2897fd501f92ee71b84b46e17736223434"), looks := false }, kinds := [], alts := [], laidByText := true, laidKinds := [.data, .pinned], laidTests := true, laidLooks := .later }
def FnExactShadowedEntriesCardSaid : Prop := Claim7.holds Tryz.pinned (.plain (OpenSpec.ofChange fnExactShadowedEntriesSpec)) fnExactShadowedEntriesCard

/-- THE TIED CARD OF 'laws.FnFoldLookup'. -/
def fnFoldLookupCard : Claim7 := { stood := { row := fnFoldLookupRow, standIns := [], harness := (true, "70eabb1b7a533be697576e121598ac2897fd501f92ee71b84b46e17736223434"), looks := false }, kinds := [], alts := [], laidByText := true, laidKinds := [.data, .pinned], laidTests := true, laidLooks := .later }
def FnFoldLookupCardSaid : Prop := Claim7.holds Tryz.pinned (.plain (OpenSpec.ofChange fnFoldLookupSpec)) fnFoldLookupCard

/-- THE TIED CARD OF 'laws.FnExactScreenOf'. -/
def fnExactScreenOfCard : Claim7 := { stood := { row := fnExactScreenOfRow, standIns := [], harness := (true, "70eabb1b7a533be697576e121598ac2897fd501f92ee71b84b46e17736223434"), looks := false }, kinds := [], alts := [], laidByText := true, laidKinds := [.data, .pinned], laidTests := true, laidLooks := .later }
def FnExactScreenOfCardSaid : Prop := Claim7.holds Tryz.pinned (.plain (OpenSpec.ofChange fnExactScreenOfSpec)) fnExactScreenOfCard

/-- THE TIED CARD OF 'laws.FnExactIsValidTranslator'. -/
def fnExactIsValidTranslatorCard : Claim7 := { stood := { row := fnExactIsValidTranslatorRow, standIns := [], harness := (true, "70eabb1b7a533be697576e121598ac2897fd501f92ee71b84b46e17736223434"), looks := false }, kinds := [], alts := [], laidByText := true, laidKinds := [.data, .pinned], laidTests := true, laidLooks := .later }
def FnExactIsValidTranslatorCardSaid : Prop := Claim7.holds Tryz.pinned (.plain (OpenSpec.ofChange fnExactIsValidTranslatorSpec)) fnExactIsValidTranslatorCard

/-- THE SECOND FORM's CARD OF 'laws.FnReverse'. -/
def fnReverseUptoCard : Claim7 := { stood := { row := fnReverseUptoRow, standIns := [], harness := (true, "70eabb1b7a533be697576e121598ac2897fd501f92ee71b84b46e17736223434"), looks := false }, kinds := [], alts := [], laidByText := true, laidKinds := [.data, .pinned], laidTests := true, laidLooks := .later }
def FnReverseUptoCardSaid : Prop := Claim7.holds Tryz.pinned (.plain (OpenSpec.upto fnReverseSpec)) fnReverseUptoCard

/-- THE SECOND FORM's CARD OF 'laws.FnExactShadowedEntries'. -/
def fnExactShadowedEntriesUptoCard : Claim7 := { stood := { row := fnExactShadowedEntriesUptoRow, standIns := [], harness := (true, "70eabb1b7a533be697576e121598ac2897fd501f92ee71b84b46e17736223434"), looks := false }, kinds := [], alts := [], laidByText := true, laidKinds := [.data, .pinned], laidTests := true, laidLooks := .later }
def FnExactShadowedEntriesUptoCardSaid : Prop := Claim7.holds Tryz.pinned (.plain (OpenSpec.upto fnExactShadowedEntriesSpec)) fnExactShadowedEntriesUptoCard

/-- THE SECOND FORM's CARD OF 'laws.FnFoldLookup'. -/
def fnFoldLookupUptoCard : Claim7 := { stood := { row := fnFoldLookupUptoRow, standIns := [], harness := (true, "70eabb1b7a533be697576e121598ac2897fd501f92ee71b84b46e17736223434"), looks := false }, kinds := [], alts := [], laidByText := true, laidKinds := [.data, .pinned], laidTests := true, laidLooks := .later }
def FnFoldLookupUptoCardSaid : Prop := Claim7.holds Tryz.pinned (.plain (OpenSpec.upto fnFoldLookupSpec)) fnFoldLookupUptoCard

/-- THE SECOND FORM's CARD OF 'laws.FnExactScreenOf'. -/
def fnExactScreenOfUptoCard : Claim7 := { stood := { row := fnExactScreenOfUptoRow, standIns := [], harness := (true, "70eabb1b7a533be697576e121598ac2897fd501f92ee71b84b46e17736223434"), looks := false }, kinds := [], alts := [], laidByText := true, laidKinds := [.data, .pinned], laidTests := true, laidLooks := .later }
def FnExactScreenOfUptoCardSaid : Prop := Claim7.holds Tryz.pinned (.plain (OpenSpec.upto fnExactScreenOfSpec)) fnExactScreenOfUptoCard

/-- THE SECOND FORM's CARD OF 'laws.FnExactIsValidTranslator'. -/
def fnExactIsValidTranslatorUptoCard : Claim7 := { stood := { row := fnExactIsValidTranslatorUptoRow, standIns := [], harness := (true, "70eabb1b7a533be697576e121598ac2897fd501f92ee71b84b46e17736223434"), looks := false }, kinds := [], alts := [], laidByText := true, laidKinds := [.data, .pinned], laidTests := true, laidLooks := .later }
def FnExactIsValidTranslatorUptoCardSaid : Prop := Claim7.holds Tryz.pinned (.plain (OpenSpec.upto fnExactIsValidTranslatorSpec)) fnExactIsValidTranslatorUptoCard
end Rows
end Go.Proofs.YtdidgaibgkdjoaaGreatDoor
