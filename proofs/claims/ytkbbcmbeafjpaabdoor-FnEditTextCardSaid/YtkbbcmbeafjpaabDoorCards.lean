/-
  DERIVED. GIVEN WITH THE SEED: THE CARDS: each row of YtkbbcmbeafjpaabDoorRows.lean that lists a variable, with what it lists TIED to the program's text (the seventh form; the later family's looks); each row that meets fmt, with fmt's text TOLD by the authors' own Lean function (tested against real Go, not proved from fmt's source: count such statements apart). THE CARD IS WHAT COUNTS. Prove the row's statement (the work); the ties are given (YtkbbcmbeafjpaabDoorTie.lean); close each card by the builder's one call (the guide's Derived/Test/ToyasCard.lean, 'card_holds'). Laid BY PROGRAM, IN A SANDBOX (cutbox-door.mjs). By AI agents, Wed Nov 11 2026. No macro, syntax, notation, axiom, sorry.
-/
import Derived.Test.YtkbbcmbeafjpaabDoorRows
import GoSem.ClaimSeven
namespace Go.Proofs.YtkbbcmbeafjpaabDoor
namespace Rows

/-- THE TIED CARD OF 'laws.FnExactParseEdit'. -/
def fnExactParseEditCard : Claim7 := { stood := { row := fnExactParseEditRow, standIns := [], harness := (true, "92744dd433f8901d11ae03c3b037c9a0970137cf27639ae85e02e29dbf5b055b"), looks := true }, kinds := [], alts := [], laidByText := true, laidKinds := [.data, .data, .data, .sentinel, .sentinel], laidTests := true, laidLooks := .later }
def FnExactParseEditCardSaid : Prop := Claim7.holds Tryd.pinned (.plain (OpenSpec.ofChange fnExactParseEditSpec)) fnExactParseEditCard

/-- THE TIED CARD OF 'laws.FnEditText'. -/
def fnEditTextCard : Claim7 := { stood := { row := fnEditTextRow, standIns := [], harness := (true, "92744dd433f8901d11ae03c3b037c9a0970137cf27639ae85e02e29dbf5b055b"), looks := true }, kinds := [], alts := [], laidByText := true, laidKinds := [.data, .data, .data, .sentinel, .sentinel], laidTests := true, laidLooks := .later }
def FnEditTextCardSaid : Prop := Claim7.holds Tryd.pinned (.plain (OpenSpec.ofChange fnEditTextSpec)) fnEditTextCard

/-- THE TIED CARD OF 'laws.FnExactFormatEdit'. -/
def fnExactFormatEditCard : Claim7 := { stood := { row := fnExactFormatEditRow, standIns := [], harness := (true, "92744dd433f8901d11ae03c3b037c9a0970137cf27639ae85e02e29dbf5b055b"), looks := true }, kinds := [], alts := [], laidByText := true, laidKinds := [.data, .data, .data], laidTests := true, laidLooks := .later }
def FnExactFormatEditCardSaid : Prop := Claim7.holds Tryd.pinned (.plain (OpenSpec.ofChange fnExactFormatEditSpec)) fnExactFormatEditCard

/-- THE SECOND FORM's CARD OF 'laws.FnExactParseEdit'. -/
def fnExactParseEditUptoCard : Claim7 := { stood := { row := fnExactParseEditUptoRow, standIns := [], harness := (true, "92744dd433f8901d11ae03c3b037c9a0970137cf27639ae85e02e29dbf5b055b"), looks := true }, kinds := [], alts := [], laidByText := true, laidKinds := [.data, .data, .data, .sentinel, .sentinel], laidTests := true, laidLooks := .later }
def FnExactParseEditUptoCardSaid : Prop := Claim7.holds Tryd.pinned (.plain (OpenSpec.upto fnExactParseEditSpec)) fnExactParseEditUptoCard

/-- THE SECOND FORM's CARD OF 'laws.FnEditText'. -/
def fnEditTextUptoCard : Claim7 := { stood := { row := fnEditTextUptoRow, standIns := [], harness := (true, "92744dd433f8901d11ae03c3b037c9a0970137cf27639ae85e02e29dbf5b055b"), looks := true }, kinds := [], alts := [], laidByText := true, laidKinds := [.data, .data, .data, .sentinel, .sentinel], laidTests := true, laidLooks := .later }
def FnEditTextUptoCardSaid : Prop := Claim7.holds Tryd.pinned (.plain (OpenSpec.upto fnEditTextSpec)) fnEditTextUptoCard

/-- THE SECOND FORM's CARD OF 'laws.FnExactFormatEdit'. -/
def fnExactFormatEditUptoCard : Claim7 := { stood := { row := fnExactFormatEditUptoRow, standIns := [], harness := (true, "92744dd433f8901d11ae03c3b037c9a0970137cf27639ae85e02e29dbf5b055b"), looks := true }, kinds := [], alts := [], laidByText := true, laidKinds := [.data, .data, .data], laidTests := true, laidLooks := .later }
def FnExactFormatEditUptoCardSaid : Prop := Claim7.holds Tryd.pinned (.plain (OpenSpec.upto fnExactFormatEditSpec)) fnExactFormatEditUptoCard
end Rows
end Go.Proofs.YtkbbcmbeafjpaabDoor
