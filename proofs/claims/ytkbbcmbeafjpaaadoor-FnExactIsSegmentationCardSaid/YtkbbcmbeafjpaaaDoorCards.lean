/-
  DERIVED. GIVEN WITH THE SEED: THE CARDS: each row of YtkbbcmbeafjpaaaDoorRows.lean that lists a variable, with what it lists TIED to the program's text (the seventh form; the later family's looks); each row that meets fmt, with fmt's text TOLD by the authors' own Lean function (tested against real Go, not proved from fmt's source: count such statements apart). THE CARD IS WHAT COUNTS. Prove the row's statement (the work); the ties are given (YtkbbcmbeafjpaaaDoorTie.lean); close each card by the builder's one call (the guide's Derived/Test/ToyasCard.lean, 'card_holds'). Laid BY PROGRAM, IN A SANDBOX (cutbox-door.mjs). By AI agents, Wed Nov 11 2026. No macro, syntax, notation, axiom, sorry.
-/
import Derived.Test.YtkbbcmbeafjpaaaDoorRows
import GoSem.ClaimSeven
namespace Go.Proofs.YtkbbcmbeafjpaaaDoor
namespace Rows

/-- THE TIED CARD OF 'laws.FnExactMatchAt'. -/
def fnExactMatchAtCard : Claim7 := { stood := { row := fnExactMatchAtRow, standIns := [], harness := (true, "7f2babf08130c13bfaf710e35413e3ea0921c3f68eadf5fa209e6abcc3a8506a"), looks := false }, kinds := [], alts := [], laidByText := true, laidKinds := [.data, .pinned], laidTests := true, laidLooks := .later }
def FnExactMatchAtCardSaid : Prop := Claim7.holds Tryd.pinned (.plain (OpenSpec.ofChange fnExactMatchAtSpec)) fnExactMatchAtCard

/-- THE TIED CARD OF 'laws.FnExactIsSegmentation'. -/
def fnExactIsSegmentationCard : Claim7 := { stood := { row := fnExactIsSegmentationRow, standIns := [], harness := (true, "7f2babf08130c13bfaf710e35413e3ea0921c3f68eadf5fa209e6abcc3a8506a"), looks := false }, kinds := [], alts := [], laidByText := true, laidKinds := [.data, .pinned], laidTests := true, laidLooks := .later }
def FnExactIsSegmentationCardSaid : Prop := Claim7.holds Tryd.pinned (.plain (OpenSpec.ofChange fnExactIsSegmentationSpec)) fnExactIsSegmentationCard

/-- THE SECOND FORM's CARD OF 'laws.FnExactMatchAt'. -/
def fnExactMatchAtUptoCard : Claim7 := { stood := { row := fnExactMatchAtUptoRow, standIns := [], harness := (true, "7f2babf08130c13bfaf710e35413e3ea0921c3f68eadf5fa209e6abcc3a8506a"), looks := false }, kinds := [], alts := [], laidByText := true, laidKinds := [.data, .pinned], laidTests := true, laidLooks := .later }
def FnExactMatchAtUptoCardSaid : Prop := Claim7.holds Tryd.pinned (.plain (OpenSpec.upto fnExactMatchAtSpec)) fnExactMatchAtUptoCard

/-- THE SECOND FORM's CARD OF 'laws.FnExactIsSegmentation'. -/
def fnExactIsSegmentationUptoCard : Claim7 := { stood := { row := fnExactIsSegmentationUptoRow, standIns := [], harness := (true, "7f2babf08130c13bfaf710e35413e3ea0921c3f68eadf5fa209e6abcc3a8506a"), looks := false }, kinds := [], alts := [], laidByText := true, laidKinds := [.data, .pinned], laidTests := true, laidLooks := .later }
def FnExactIsSegmentationUptoCardSaid : Prop := Claim7.holds Tryd.pinned (.plain (OpenSpec.upto fnExactIsSegmentationSpec)) fnExactIsSegmentationUptoCard
end Rows
end Go.Proofs.YtkbbcmbeafjpaaaDoor
