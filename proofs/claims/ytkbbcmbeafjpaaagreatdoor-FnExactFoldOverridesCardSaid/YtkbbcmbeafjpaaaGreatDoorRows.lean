/-
  NARROWER THAN 'FOR EVERY INPUT', by the rows' own cells (each row's printed sentence says how): FnExactLookupStack: laid · FnReverse: laid · FnExactSegment: laid · FnExactFewestPieces: laid · FnExactLookupFolded: laid · FnExactFoldOverrides: laid · FnExactShadowedEntries: laid · FnFoldLookup: laid · FnExactScreenOf: laid · FnExactIsValidTranslator: laid.
  DERIVED. THE GIVEN ROWS OF THIS SEAT. 10 by the template 'for every input the law returns true; each argument reads behind the call as it read before'; 0 by the template 'total and deterministic' (their statements: YtkbbcmbeafjpaaaGreatDoorTotals.lean).
  GIVEN WITH THE SEED: the statements are not yours to turn. If you find one false, say at which input.
  Laid BY PROGRAM, IN A SANDBOX (cutbox-rows.mjs): the forced cells as the released guide's own fill.sh prints them over the translation 86ac484a58088862… (all of the seat's roots in one cut). By AI agents, Wed Nov 11 2026. No macro, syntax, notation, axiom, sorry.
-/
import Derived.Test.YtkbbcmbeafjpaaaGreatDoorChecked
import GoSem.PinnedTables
import GoSem.Claim
import GoSem.ClaimJoined
import GoSem.ClaimMapViews
import Derived.JoinedTies
import Derived.KernelRfl
namespace Go.Proofs.YtkbbcmbeafjpaaaGreatDoor
/- THE CELL 'sum', in the pinned program and in every row, IS THE sha256 OF THE DUMP (.gsa) THAT YtkbbcmbeafjpaaaGreatDoorProg.lean LOADS. Nothing in Lean hashes anything: it is a label: what it is worth is what the hold of that sum in a sandbox is worth. -/
noncomputable def Tryz.pinned : Pinned := { name := "ytkbbcmbeafjpaaagreatdoor", sum := "86ac484a58088862a0e2c4eaef479ba69ba8b80904593bc12d0d02593219d4ea", checked := Tryz.checked }
namespace Rows
def none {H : Type} : Left H := { results := [], args := [] }

/- WHAT THE LISTED PACKAGE-LEVEL VARIABLES READ AS WHEN THE CALL BEGINS. Each datum BY PROGRAM (the guide's laid-datum.mjs) off the statement by which the dump's own 'gosem.cut.vars' lays the variable. In a bare row this is a premise. The card (YtkbbcmbeafjpaaaGreatDoorCards.lean) ties it to the program's text. -/
def laid_unicode_utf8_acceptRanges {H : Type} : DataW H := .agg [.agg [.lit (.int .u8 128), .lit (.int .u8 191)], .agg [.lit (.int .u8 160), .lit (.int .u8 191)], .agg [.lit (.int .u8 128), .lit (.int .u8 159)], .agg [.lit (.int .u8 144), .lit (.int .u8 191)], .agg [.lit (.int .u8 128), .lit (.int .u8 143)], .agg [.lit (.int .u8 0), .lit (.int .u8 0)], .agg [.lit (.int .u8 0), .lit (.int .u8 0)], .agg [.lit (.int .u8 0), .lit (.int .u8 0)], .agg [.lit (.int .u8 0), .lit (.int .u8 0)], .agg [.lit (.int .u8 0), .lit (.int .u8 0)], .agg [.lit (.int .u8 0), .lit (.int .u8 0)], .agg [.lit (.int .u8 0), .lit (.int .u8 0)], .agg [.lit (.int .u8 0), .lit (.int .u8 0)], .agg [.lit (.int .u8 0), .lit (.int .u8 0)], .agg [.lit (.int .u8 0), .lit (.int .u8 0)], .agg [.lit (.int .u8 0), .lit (.int .u8 0)]]
/-- One of Go's own tables, pinned by name: the form's constant. -/
def laid_unicode_utf8_first : DataW Unit := Go.Pinned.utf8First

/-- 'laws.FnExactLookupStack': WHATEVER THE INPUT: true; the input reads as it did. -/
def fnExactLookupStackSpec : ChangeSpec := { name := "fnExactLookupStack", fn := fun _ => fun
  | [d1, d2] => { results := [.lit (.bool true)], args := [d1, d2] }
  | _ => none }
def fnExactLookupStackRow : OpenClaim := { program := "ytkbbcmbeafjpaaagreatdoor", sum := "86ac484a58088862a0e2c4eaef479ba69ba8b80904593bc12d0d02593219d4ea", func := "loop.example/g00882/laws.FnExactLookupStack", spec := "fnExactLookupStack", inPlace := ["internal/bytealg.CountString", "internal/bytealg.IndexByteString", "internal/bytealg.IndexString"], unfollowed := true, recurses := true, named := ["unicode/utf8.first", "unicode/utf8.acceptRanges", "internal/bytealg.MaxLen"], apart := false, laid := [("unicode/utf8.acceptRanges", laid_unicode_utf8_acceptRanges), ("unicode/utf8.first", laid_unicode_utf8_first)] }
def FnExactLookupStackSaid : Prop := fnExactLookupStackRow.holds Tryz.pinned (OpenSpec.ofChange fnExactLookupStackSpec)

/-- ITS FALSE NEIGHBOUR: 'it returns false'. Refute it at one input. -/
def fnExactLookupStackWrong : ChangeSpec := { name := "fnExactLookupStack", fn := fun _ => fun
  | [d1, d2] => { results := [.lit (.bool false)], args := [d1, d2] }
  | _ => none }
def FnExactLookupStackWrongFalsely : Prop := fnExactLookupStackRow.holds Tryz.pinned (OpenSpec.ofChange fnExactLookupStackWrong)

/-- 'laws.FnReverse': WHATEVER THE INPUT: true; the input reads as it did. -/
def fnReverseSpec : ChangeSpec := { name := "fnReverse", fn := fun _ => fun
  | [d] => { results := [.lit (.bool true)], args := [d] }
  | _ => none }
def fnReverseRow : OpenClaim := { program := "ytkbbcmbeafjpaaagreatdoor", sum := "86ac484a58088862a0e2c4eaef479ba69ba8b80904593bc12d0d02593219d4ea", func := "loop.example/g00882/laws.FnReverse", spec := "fnReverse", inPlace := ["internal/bytealg.CountString", "internal/bytealg.IndexByteString", "internal/bytealg.IndexString"], unfollowed := true, recurses := true, named := ["unicode/utf8.first", "unicode/utf8.acceptRanges", "internal/bytealg.MaxLen"], apart := false, laid := [("unicode/utf8.acceptRanges", laid_unicode_utf8_acceptRanges), ("unicode/utf8.first", laid_unicode_utf8_first)] }
def FnReverseSaid : Prop := fnReverseRow.holds Tryz.pinned (OpenSpec.ofChange fnReverseSpec)

/-- ITS FALSE NEIGHBOUR: 'it returns false'. Refute it at one input. -/
def fnReverseWrong : ChangeSpec := { name := "fnReverse", fn := fun _ => fun
  | [d] => { results := [.lit (.bool false)], args := [d] }
  | _ => none }
def FnReverseWrongFalsely : Prop := fnReverseRow.holds Tryz.pinned (OpenSpec.ofChange fnReverseWrong)

/-- 'laws.FnExactSegment': WHATEVER THE INPUT: true; the input reads as it did. -/
def fnExactSegmentSpec : ChangeSpec := { name := "fnExactSegment", fn := fun _ => fun
  | [d1, d2] => { results := [.lit (.bool true)], args := [d1, d2] }
  | _ => none }
def fnExactSegmentRow : OpenClaim := { program := "ytkbbcmbeafjpaaagreatdoor", sum := "86ac484a58088862a0e2c4eaef479ba69ba8b80904593bc12d0d02593219d4ea", func := "loop.example/g00882/laws.FnExactSegment", spec := "fnExactSegment", inPlace := ["internal/bytealg.CountString", "internal/bytealg.IndexByteString", "internal/bytealg.IndexString"], unfollowed := true, recurses := true, named := ["unicode/utf8.first", "unicode/utf8.acceptRanges", "internal/bytealg.MaxLen"], apart := false, laid := [("unicode/utf8.acceptRanges", laid_unicode_utf8_acceptRanges), ("unicode/utf8.first", laid_unicode_utf8_first)] }
def FnExactSegmentSaid : Prop := fnExactSegmentRow.holds Tryz.pinned (OpenSpec.ofChange fnExactSegmentSpec)

/-- ITS FALSE NEIGHBOUR: 'it returns false'. Refute it at one input. -/
def fnExactSegmentWrong : ChangeSpec := { name := "fnExactSegment", fn := fun _ => fun
  | [d1, d2] => { results := [.lit (.bool false)], args := [d1, d2] }
  | _ => none }
def FnExactSegmentWrongFalsely : Prop := fnExactSegmentRow.holds Tryz.pinned (OpenSpec.ofChange fnExactSegmentWrong)

/-- 'laws.FnExactFewestPieces': WHATEVER THE INPUT: true; the input reads as it did. -/
def fnExactFewestPiecesSpec : ChangeSpec := { name := "fnExactFewestPieces", fn := fun _ => fun
  | [d1, d2] => { results := [.lit (.bool true)], args := [d1, d2] }
  | _ => none }
def fnExactFewestPiecesRow : OpenClaim := { program := "ytkbbcmbeafjpaaagreatdoor", sum := "86ac484a58088862a0e2c4eaef479ba69ba8b80904593bc12d0d02593219d4ea", func := "loop.example/g00882/laws.FnExactFewestPieces", spec := "fnExactFewestPieces", inPlace := ["internal/bytealg.CountString", "internal/bytealg.IndexByteString", "internal/bytealg.IndexString"], unfollowed := true, recurses := true, named := ["unicode/utf8.first", "unicode/utf8.acceptRanges", "internal/bytealg.MaxLen"], apart := false, laid := [("unicode/utf8.acceptRanges", laid_unicode_utf8_acceptRanges), ("unicode/utf8.first", laid_unicode_utf8_first)] }
def FnExactFewestPiecesSaid : Prop := fnExactFewestPiecesRow.holds Tryz.pinned (OpenSpec.ofChange fnExactFewestPiecesSpec)

/-- ITS FALSE NEIGHBOUR: 'it returns false'. Refute it at one input. -/
def fnExactFewestPiecesWrong : ChangeSpec := { name := "fnExactFewestPieces", fn := fun _ => fun
  | [d1, d2] => { results := [.lit (.bool false)], args := [d1, d2] }
  | _ => none }
def FnExactFewestPiecesWrongFalsely : Prop := fnExactFewestPiecesRow.holds Tryz.pinned (OpenSpec.ofChange fnExactFewestPiecesWrong)

/-- 'laws.FnExactLookupFolded': WHATEVER THE INPUT: true; the input reads as it did. -/
def fnExactLookupFoldedSpec : ChangeSpec := { name := "fnExactLookupFolded", fn := fun _ => fun
  | [d1, d2, d3] => { results := [.lit (.bool true)], args := [d1, d2, d3] }
  | _ => none }
def fnExactLookupFoldedRow : OpenClaim := { program := "ytkbbcmbeafjpaaagreatdoor", sum := "86ac484a58088862a0e2c4eaef479ba69ba8b80904593bc12d0d02593219d4ea", func := "loop.example/g00882/laws.FnExactLookupFolded", spec := "fnExactLookupFolded", inPlace := ["internal/bytealg.CountString", "internal/bytealg.IndexByteString", "internal/bytealg.IndexString"], unfollowed := true, recurses := true, named := ["unicode/utf8.first", "unicode/utf8.acceptRanges", "internal/bytealg.MaxLen"], apart := false, laid := [("unicode/utf8.acceptRanges", laid_unicode_utf8_acceptRanges), ("unicode/utf8.first", laid_unicode_utf8_first)] }
def FnExactLookupFoldedSaid : Prop := fnExactLookupFoldedRow.holds Tryz.pinned (OpenSpec.ofChange fnExactLookupFoldedSpec)

/-- ITS FALSE NEIGHBOUR: 'it returns false'. Refute it at one input. -/
def fnExactLookupFoldedWrong : ChangeSpec := { name := "fnExactLookupFolded", fn := fun _ => fun
  | [d1, d2, d3] => { results := [.lit (.bool false)], args := [d1, d2, d3] }
  | _ => none }
def FnExactLookupFoldedWrongFalsely : Prop := fnExactLookupFoldedRow.holds Tryz.pinned (OpenSpec.ofChange fnExactLookupFoldedWrong)

/-- 'laws.FnExactFoldOverrides': WHATEVER THE INPUT: true; the input reads as it did. -/
def fnExactFoldOverridesSpec : ChangeSpec := { name := "fnExactFoldOverrides", fn := fun _ => fun
  | [d1, d2] => { results := [.lit (.bool true)], args := [d1, d2] }
  | _ => none }
def fnExactFoldOverridesRow : OpenClaim := { program := "ytkbbcmbeafjpaaagreatdoor", sum := "86ac484a58088862a0e2c4eaef479ba69ba8b80904593bc12d0d02593219d4ea", func := "loop.example/g00882/laws.FnExactFoldOverrides", spec := "fnExactFoldOverrides", inPlace := ["internal/bytealg.CountString", "internal/bytealg.IndexByteString", "internal/bytealg.IndexString"], unfollowed := true, recurses := true, named := ["unicode/utf8.first", "unicode/utf8.acceptRanges", "internal/bytealg.MaxLen"], apart := false, laid := [("unicode/utf8.acceptRanges", laid_unicode_utf8_acceptRanges), ("unicode/utf8.first", laid_unicode_utf8_first)] }
def FnExactFoldOverridesSaid : Prop := fnExactFoldOverridesRow.holds Tryz.pinned (OpenSpec.ofChange fnExactFoldOverridesSpec)

/-- ITS FALSE NEIGHBOUR: 'it returns false'. Refute it at one input. -/
def fnExactFoldOverridesWrong : ChangeSpec := { name := "fnExactFoldOverrides", fn := fun _ => fun
  | [d1, d2] => { results := [.lit (.bool false)], args := [d1, d2] }
  | _ => none }
def FnExactFoldOverridesWrongFalsely : Prop := fnExactFoldOverridesRow.holds Tryz.pinned (OpenSpec.ofChange fnExactFoldOverridesWrong)

/-- 'laws.FnExactShadowedEntries': WHATEVER THE INPUT: true; the input reads as it did. -/
def fnExactShadowedEntriesSpec : ChangeSpec := { name := "fnExactShadowedEntries", fn := fun _ => fun
  | [d] => { results := [.lit (.bool true)], args := [d] }
  | _ => none }
def fnExactShadowedEntriesRow : OpenClaim := { program := "ytkbbcmbeafjpaaagreatdoor", sum := "86ac484a58088862a0e2c4eaef479ba69ba8b80904593bc12d0d02593219d4ea", func := "loop.example/g00882/laws.FnExactShadowedEntries", spec := "fnExactShadowedEntries", inPlace := ["internal/bytealg.CountString", "internal/bytealg.IndexByteString", "internal/bytealg.IndexString"], unfollowed := true, recurses := true, named := ["unicode/utf8.first", "unicode/utf8.acceptRanges", "internal/bytealg.MaxLen"], apart := false, laid := [("unicode/utf8.acceptRanges", laid_unicode_utf8_acceptRanges), ("unicode/utf8.first", laid_unicode_utf8_first)] }
def FnExactShadowedEntriesSaid : Prop := fnExactShadowedEntriesRow.holds Tryz.pinned (OpenSpec.ofChange fnExactShadowedEntriesSpec)

/-- ITS FALSE NEIGHBOUR: 'it returns false'. Refute it at one input. -/
def fnExactShadowedEntriesWrong : ChangeSpec := { name := "fnExactShadowedEntries", fn := fun _ => fun
  | [d] => { results := [.lit (.bool false)], args := [d] }
  | _ => none }
def FnExactShadowedEntriesWrongFalsely : Prop := fnExactShadowedEntriesRow.holds Tryz.pinned (OpenSpec.ofChange fnExactShadowedEntriesWrong)

/-- 'laws.FnFoldLookup': WHATEVER THE INPUT: true; the input reads as it did. -/
def fnFoldLookupSpec : ChangeSpec := { name := "fnFoldLookup", fn := fun _ => fun
  | [d] => { results := [.lit (.bool true)], args := [d] }
  | _ => none }
def fnFoldLookupRow : OpenClaim := { program := "ytkbbcmbeafjpaaagreatdoor", sum := "86ac484a58088862a0e2c4eaef479ba69ba8b80904593bc12d0d02593219d4ea", func := "loop.example/g00882/laws.FnFoldLookup", spec := "fnFoldLookup", inPlace := ["internal/bytealg.CountString", "internal/bytealg.IndexByteString", "internal/bytealg.IndexString"], unfollowed := true, recurses := true, named := ["unicode/utf8.first", "unicode/utf8.acceptRanges", "internal/bytealg.MaxLen"], apart := false, laid := [("unicode/utf8.acceptRanges", laid_unicode_utf8_acceptRanges), ("unicode/utf8.first", laid_unicode_utf8_first)] }
def FnFoldLookupSaid : Prop := fnFoldLookupRow.holds Tryz.pinned (OpenSpec.ofChange fnFoldLookupSpec)

/-- ITS FALSE NEIGHBOUR: 'it returns false'. Refute it at one input. -/
def fnFoldLookupWrong : ChangeSpec := { name := "fnFoldLookup", fn := fun _ => fun
  | [d] => { results := [.lit (.bool false)], args := [d] }
  | _ => none }
def FnFoldLookupWrongFalsely : Prop := fnFoldLookupRow.holds Tryz.pinned (OpenSpec.ofChange fnFoldLookupWrong)

/-- 'laws.FnExactScreenOf': WHATEVER THE INPUT: true; the input reads as it did. -/
def fnExactScreenOfSpec : ChangeSpec := { name := "fnExactScreenOf", fn := fun _ => fun
  | [d1, d2] => { results := [.lit (.bool true)], args := [d1, d2] }
  | _ => none }
def fnExactScreenOfRow : OpenClaim := { program := "ytkbbcmbeafjpaaagreatdoor", sum := "86ac484a58088862a0e2c4eaef479ba69ba8b80904593bc12d0d02593219d4ea", func := "loop.example/g00882/laws.FnExactScreenOf", spec := "fnExactScreenOf", inPlace := ["internal/bytealg.CountString", "internal/bytealg.IndexByteString", "internal/bytealg.IndexString", "internal/abi.NoEscape", "internal/bytealg.MakeNoZero"], unfollowed := true, recurses := true, named := ["unicode/utf8.first", "unicode/utf8.acceptRanges", "internal/bytealg.MaxLen"], apart := false, laid := [("unicode/utf8.acceptRanges", laid_unicode_utf8_acceptRanges), ("unicode/utf8.first", laid_unicode_utf8_first)] }
def FnExactScreenOfSaid : Prop := fnExactScreenOfRow.holds Tryz.pinned (OpenSpec.ofChange fnExactScreenOfSpec)

/-- ITS FALSE NEIGHBOUR: 'it returns false'. Refute it at one input. -/
def fnExactScreenOfWrong : ChangeSpec := { name := "fnExactScreenOf", fn := fun _ => fun
  | [d1, d2] => { results := [.lit (.bool false)], args := [d1, d2] }
  | _ => none }
def FnExactScreenOfWrongFalsely : Prop := fnExactScreenOfRow.holds Tryz.pinned (OpenSpec.ofChange fnExactScreenOfWrong)

/-- 'laws.FnExactIsValidTranslator': WHATEVER THE INPUT: true; the input reads as it did. -/
def fnExactIsValidTranslatorSpec : ChangeSpec := { name := "fnExactIsValidTranslator", fn := fun _ => fun
  | [d1, d2] => { results := [.lit (.bool true)], args := [d1, d2] }
  | _ => none }
def fnExactIsValidTranslatorRow : OpenClaim := { program := "ytkbbcmbeafjpaaagreatdoor", sum := "86ac484a58088862a0e2c4eaef479ba69ba8b80904593bc12d0d02593219d4ea", func := "loop.example/g00882/laws.FnExactIsValidTranslator", spec := "fnExactIsValidTranslator", inPlace := ["internal/bytealg.CountString", "internal/bytealg.IndexByteString", "internal/bytealg.IndexString", "internal/abi.NoEscape", "internal/bytealg.MakeNoZero"], unfollowed := true, recurses := true, named := ["unicode/utf8.first", "unicode/utf8.acceptRanges", "internal/bytealg.MaxLen"], apart := false, laid := [("unicode/utf8.acceptRanges", laid_unicode_utf8_acceptRanges), ("unicode/utf8.first", laid_unicode_utf8_first)] }
def FnExactIsValidTranslatorSaid : Prop := fnExactIsValidTranslatorRow.holds Tryz.pinned (OpenSpec.ofChange fnExactIsValidTranslatorSpec)

/-- ITS FALSE NEIGHBOUR: 'it returns false'. Refute it at one input. -/
def fnExactIsValidTranslatorWrong : ChangeSpec := { name := "fnExactIsValidTranslator", fn := fun _ => fun
  | [d1, d2] => { results := [.lit (.bool false)], args := [d1, d2] }
  | _ => none }
def FnExactIsValidTranslatorWrongFalsely : Prop := fnExactIsValidTranslatorRow.holds Tryz.pinned (OpenSpec.ofChange fnExactIsValidTranslatorWrong)

/- THE SECOND FORM. 'bulk': how many values and letters a reading holds, each counted each time it is reached (what is shared counts as often as it is met; a slice's spare places count too). A statement '..UptoSaid' is the law's where the arguments, and the package variables that the reading takes, are together of bulk at most 1048576: NARROWER than '..Said'. Prove '..Said' where nothing that the law and all that it calls make is longer than what came in: it says more and counts as full. Else prove '..UptoSaid'. A law counts once. -/
mutual
def uptoBulk {H : Type} : DataW H → Nat
  | .lit (.string bytes) => bytes.length + 1
  | .lit _ => 1
  | .nil => 1
  | .ptr d => uptoBulk d + 1
  | .slice elems spare => uptoBulkAll elems + uptoBulkAll spare + 1
  | .agg parts => uptoBulkAll parts + 1
  | .iface _ d => uptoBulk d + 1
  | .map entries => uptoBulkEntries entries + 1
  | .held _ => 1
def uptoBulkAll {H : Type} : List (DataW H) → Nat
  | [] => 0
  | d :: r => uptoBulk d + uptoBulkAll r
def uptoBulkEntries {H : Type} : List (Lit × DataW H) → Nat
  | [] => 0
  | x :: r => uptoBulkEntry x + uptoBulkEntries r
def uptoBulkEntry {H : Type} : Lit × DataW H → Nat
  | (.string bytes, d) => bytes.length + uptoBulk d + 1
  | (_, d) => uptoBulk d + 1
 end
def uptoSmall : (H : Type) → List (DataW H) → Bool := fun _ ds => decide (uptoBulkAll ds ≤ 1048576)
def OpenSpec.upto (s : _root_.Go.ChangeSpec) : _root_.Go.OpenSpec := { _root_.Go.OpenSpec.ofChange s with cond := some uptoSmall }

/-- 'laws.FnExactLookupStack', WHERE WHAT IT READS IS OF BULK AT MOST 1048576: true; the input reads as it did. -/
def fnExactLookupStackUptoRow : OpenClaim := { program := "ytkbbcmbeafjpaaagreatdoor", sum := "86ac484a58088862a0e2c4eaef479ba69ba8b80904593bc12d0d02593219d4ea", func := "loop.example/g00882/laws.FnExactLookupStack", spec := "fnExactLookupStack", inPlace := ["internal/bytealg.CountString", "internal/bytealg.IndexByteString", "internal/bytealg.IndexString"], unfollowed := true, recurses := true, named := ["unicode/utf8.first", "unicode/utf8.acceptRanges", "internal/bytealg.MaxLen"], apart := false, laid := [("unicode/utf8.acceptRanges", laid_unicode_utf8_acceptRanges), ("unicode/utf8.first", laid_unicode_utf8_first)], narrowed := true }
def FnExactLookupStackUptoSaid : Prop := fnExactLookupStackUptoRow.holds Tryz.pinned (OpenSpec.upto fnExactLookupStackSpec)

/-- 'laws.FnReverse', WHERE WHAT IT READS IS OF BULK AT MOST 1048576: true; the input reads as it did. -/
def fnReverseUptoRow : OpenClaim := { program := "ytkbbcmbeafjpaaagreatdoor", sum := "86ac484a58088862a0e2c4eaef479ba69ba8b80904593bc12d0d02593219d4ea", func := "loop.example/g00882/laws.FnReverse", spec := "fnReverse", inPlace := ["internal/bytealg.CountString", "internal/bytealg.IndexByteString", "internal/bytealg.IndexString"], unfollowed := true, recurses := true, named := ["unicode/utf8.first", "unicode/utf8.acceptRanges", "internal/bytealg.MaxLen"], apart := false, laid := [("unicode/utf8.acceptRanges", laid_unicode_utf8_acceptRanges), ("unicode/utf8.first", laid_unicode_utf8_first)], narrowed := true }
def FnReverseUptoSaid : Prop := fnReverseUptoRow.holds Tryz.pinned (OpenSpec.upto fnReverseSpec)

/-- 'laws.FnExactSegment', WHERE WHAT IT READS IS OF BULK AT MOST 1048576: true; the input reads as it did. -/
def fnExactSegmentUptoRow : OpenClaim := { program := "ytkbbcmbeafjpaaagreatdoor", sum := "86ac484a58088862a0e2c4eaef479ba69ba8b80904593bc12d0d02593219d4ea", func := "loop.example/g00882/laws.FnExactSegment", spec := "fnExactSegment", inPlace := ["internal/bytealg.CountString", "internal/bytealg.IndexByteString", "internal/bytealg.IndexString"], unfollowed := true, recurses := true, named := ["unicode/utf8.first", "unicode/utf8.acceptRanges", "internal/bytealg.MaxLen"], apart := false, laid := [("unicode/utf8.acceptRanges", laid_unicode_utf8_acceptRanges), ("unicode/utf8.first", laid_unicode_utf8_first)], narrowed := true }
def FnExactSegmentUptoSaid : Prop := fnExactSegmentUptoRow.holds Tryz.pinned (OpenSpec.upto fnExactSegmentSpec)

/-- 'laws.FnExactFewestPieces', WHERE WHAT IT READS IS OF BULK AT MOST 1048576: true; the input reads as it did. -/
def fnExactFewestPiecesUptoRow : OpenClaim := { program := "ytkbbcmbeafjpaaagreatdoor", sum := "86ac484a58088862a0e2c4eaef479ba69ba8b80904593bc12d0d02593219d4ea", func := "loop.example/g00882/laws.FnExactFewestPieces", spec := "fnExactFewestPieces", inPlace := ["internal/bytealg.CountString", "internal/bytealg.IndexByteString", "internal/bytealg.IndexString"], unfollowed := true, recurses := true, named := ["unicode/utf8.first", "unicode/utf8.acceptRanges", "internal/bytealg.MaxLen"], apart := false, laid := [("unicode/utf8.acceptRanges", laid_unicode_utf8_acceptRanges), ("unicode/utf8.first", laid_unicode_utf8_first)], narrowed := true }
def FnExactFewestPiecesUptoSaid : Prop := fnExactFewestPiecesUptoRow.holds Tryz.pinned (OpenSpec.upto fnExactFewestPiecesSpec)

/-- 'laws.FnExactLookupFolded', WHERE WHAT IT READS IS OF BULK AT MOST 1048576: true; the input reads as it did. -/
def fnExactLookupFoldedUptoRow : OpenClaim := { program := "ytkbbcmbeafjpaaagreatdoor", sum := "86ac484a58088862a0e2c4eaef479ba69ba8b80904593bc12d0d02593219d4ea", func := "loop.example/g00882/laws.FnExactLookupFolded", spec := "fnExactLookupFolded", inPlace := ["internal/bytealg.CountString", "internal/bytealg.IndexByteString", "internal/bytealg.IndexString"], unfollowed := true, recurses := true, named := ["unicode/utf8.first", "unicode/utf8.acceptRanges", "internal/bytealg.MaxLen"], apart := false, laid := [("unicode/utf8.acceptRanges", laid_unicode_utf8_acceptRanges), ("unicode/utf8.first", laid_unicode_utf8_first)], narrowed := true }
def FnExactLookupFoldedUptoSaid : Prop := fnExactLookupFoldedUptoRow.holds Tryz.pinned (OpenSpec.upto fnExactLookupFoldedSpec)

/-- 'laws.FnExactFoldOverrides', WHERE WHAT IT READS IS OF BULK AT MOST 1048576: true; the input reads as it did. -/
def fnExactFoldOverridesUptoRow : OpenClaim := { program := "ytkbbcmbeafjpaaagreatdoor", sum := "86ac484a58088862a0e2c4eaef479ba69ba8b80904593bc12d0d02593219d4ea", func := "loop.example/g00882/laws.FnExactFoldOverrides", spec := "fnExactFoldOverrides", inPlace := ["internal/bytealg.CountString", "internal/bytealg.IndexByteString", "internal/bytealg.IndexString"], unfollowed := true, recurses := true, named := ["unicode/utf8.first", "unicode/utf8.acceptRanges", "internal/bytealg.MaxLen"], apart := false, laid := [("unicode/utf8.acceptRanges", laid_unicode_utf8_acceptRanges), ("unicode/utf8.first", laid_unicode_utf8_first)], narrowed := true }
def FnExactFoldOverridesUptoSaid : Prop := fnExactFoldOverridesUptoRow.holds Tryz.pinned (OpenSpec.upto fnExactFoldOverridesSpec)

/-- 'laws.FnExactShadowedEntries', WHERE WHAT IT READS IS OF BULK AT MOST 1048576: true; the input reads as it did. -/
def fnExactShadowedEntriesUptoRow : OpenClaim := { program := "ytkbbcmbeafjpaaagreatdoor", sum := "86ac484a58088862a0e2c4eaef479ba69ba8b80904593bc12d0d02593219d4ea", func := "loop.example/g00882/laws.FnExactShadowedEntries", spec := "fnExactShadowedEntries", inPlace := ["internal/bytealg.CountString", "internal/bytealg.IndexByteString", "internal/bytealg.IndexString"], unfollowed := true, recurses := true, named := ["unicode/utf8.first", "unicode/utf8.acceptRanges", "internal/bytealg.MaxLen"], apart := false, laid := [("unicode/utf8.acceptRanges", laid_unicode_utf8_acceptRanges), ("unicode/utf8.first", laid_unicode_utf8_first)], narrowed := true }
def FnExactShadowedEntriesUptoSaid : Prop := fnExactShadowedEntriesUptoRow.holds Tryz.pinned (OpenSpec.upto fnExactShadowedEntriesSpec)

/-- 'laws.FnFoldLookup', WHERE WHAT IT READS IS OF BULK AT MOST 1048576: true; the input reads as it did. -/
def fnFoldLookupUptoRow : OpenClaim := { program := "ytkbbcmbeafjpaaagreatdoor", sum := "86ac484a58088862a0e2c4eaef479ba69ba8b80904593bc12d0d02593219d4ea", func := "loop.example/g00882/laws.FnFoldLookup", spec := "fnFoldLookup", inPlace := ["internal/bytealg.CountString", "internal/bytealg.IndexByteString", "internal/bytealg.IndexString"], unfollowed := true, recurses := true, named := ["unicode/utf8.first", "unicode/utf8.acceptRanges", "internal/bytealg.MaxLen"], apart := false, laid := [("unicode/utf8.acceptRanges", laid_unicode_utf8_acceptRanges), ("unicode/utf8.first", laid_unicode_utf8_first)], narrowed := true }
def FnFoldLookupUptoSaid : Prop := fnFoldLookupUptoRow.holds Tryz.pinned (OpenSpec.upto fnFoldLookupSpec)

/-- 'laws.FnExactScreenOf', WHERE WHAT IT READS IS OF BULK AT MOST 1048576: true; the input reads as it did. -/
def fnExactScreenOfUptoRow : OpenClaim := { program := "ytkbbcmbeafjpaaagreatdoor", sum := "86ac484a58088862a0e2c4eaef479ba69ba8b80904593bc12d0d02593219d4ea", func := "loop.example/g00882/laws.FnExactScreenOf", spec := "fnExactScreenOf", inPlace := ["internal/bytealg.CountString", "internal/bytealg.IndexByteString", "internal/bytealg.IndexString", "internal/abi.NoEscape", "internal/bytealg.MakeNoZero"], unfollowed := true, recurses := true, named := ["unicode/utf8.first", "unicode/utf8.acceptRanges", "internal/bytealg.MaxLen"], apart := false, laid := [("unicode/utf8.acceptRanges", laid_unicode_utf8_acceptRanges), ("unicode/utf8.first", laid_unicode_utf8_first)], narrowed := true }
def FnExactScreenOfUptoSaid : Prop := fnExactScreenOfUptoRow.holds Tryz.pinned (OpenSpec.upto fnExactScreenOfSpec)

/-- 'laws.FnExactIsValidTranslator', WHERE WHAT IT READS IS OF BULK AT MOST 1048576: true; the input reads as it did. -/
def fnExactIsValidTranslatorUptoRow : OpenClaim := { program := "ytkbbcmbeafjpaaagreatdoor", sum := "86ac484a58088862a0e2c4eaef479ba69ba8b80904593bc12d0d02593219d4ea", func := "loop.example/g00882/laws.FnExactIsValidTranslator", spec := "fnExactIsValidTranslator", inPlace := ["internal/bytealg.CountString", "internal/bytealg.IndexByteString", "internal/bytealg.IndexString", "internal/abi.NoEscape", "internal/bytealg.MakeNoZero"], unfollowed := true, recurses := true, named := ["unicode/utf8.first", "unicode/utf8.acceptRanges", "internal/bytealg.MaxLen"], apart := false, laid := [("unicode/utf8.acceptRanges", laid_unicode_utf8_acceptRanges), ("unicode/utf8.first", laid_unicode_utf8_first)], narrowed := true }
def FnExactIsValidTranslatorUptoSaid : Prop := fnExactIsValidTranslatorUptoRow.holds Tryz.pinned (OpenSpec.upto fnExactIsValidTranslatorSpec)

end Rows
end Go.Proofs.YtkbbcmbeafjpaaaGreatDoor
