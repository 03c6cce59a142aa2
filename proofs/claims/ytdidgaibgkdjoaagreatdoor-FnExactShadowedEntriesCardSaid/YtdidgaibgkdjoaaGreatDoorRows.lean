/-
  NARROWER THAN 'FOR EVERY INPUT', by the rows' own cells (each row's printed sentence says how): FnReverse: laid · FnExactShadowedEntries: laid · FnFoldLookup: laid · FnExactScreenOf: laid · FnExactIsValidTranslator: laid.
  DERIVED. THE GIVEN ROWS OF THIS SEAT. 5 by the template 'for every input the law returns true; each argument reads behind the call as it read before'; 0 by the template 'total and deterministic' (their statements: YtdidgaibgkdjoaaGreatDoorTotals.lean).
  GIVEN WITH THE SEED: the statements are not yours to turn. If you find one false, say at which input.
  Laid BY PROGRAM, IN A SANDBOX (cutbox-rows.mjs): the forced cells as the released guide's own fill.sh prints them over the translation 8f4151c54320506e… (all of the seat's roots in one cut). By AI agents, Wed Nov 11 2026. No macro, syntax, notation, axiom, sorry.
-/
import Derived.Test.YtdidgaibgkdjoaaGreatDoorChecked
import GoSem.PinnedTables
import GoSem.Claim
import GoSem.ClaimJoined
import GoSem.ClaimMapViews
import Derived.JoinedTies
import Derived.KernelRfl
namespace Go.Proofs.YtdidgaibgkdjoaaGreatDoor
/- THE CELL 'sum', in the pinned program and in every row, IS THE sha256 OF THE DUMP (.gsa) THAT YtdidgaibgkdjoaaGreatDoorProg.lean LOADS. Nothing in Lean hashes anything: it is a label: what it is worth is what the hold of that sum in a sandbox is worth. -/
noncomputable def Tryz.pinned : Pinned := { name := "ytdidgaibgkdjoaagreatdoor", sum := "8f4151c54320506e7857e408b7fb1d02a79746b46bb781dbf887e1289be38b21", checked := Tryz.checked }
namespace Rows
def none {H : Type} : Left H := { results := [], args := [] }

/- WHAT THE LISTED PACKAGE-LEVEL VARIABLES READ AS WHEN THE CALL BEGINS. Each datum BY PROGRAM (the guide's laid-datum.mjs) off the statement by which the dump's own 'gosem.cut.vars' lays the variable. In a bare row this is a premise. The card (YtdidgaibgkdjoaaGreatDoorCards.lean) ties it to the program's text. -/
def laid_unicode_utf8_acceptRanges {H : Type} : DataW H := .agg [.agg [.lit (.int .u8 128), .lit (.int .u8 191)], .agg [.lit (.int .u8 160), .lit (.int .u8 191)], .agg [.lit (.int .u8 128), .lit (.int .u8 159)], .agg [.lit (.int .u8 144), .lit (.int .u8 191)], .agg [.lit (.int .u8 128), .lit (.int .u8 143)], .agg [.lit (.int .u8 0), .lit (.int .u8 0)], .agg [.lit (.int .u8 0), .lit (.int .u8 0)], .agg [.lit (.int .u8 0), .lit (.int .u8 0)], .agg [.lit (.int .u8 0), .lit (.int .u8 0)], .agg [.lit (.int .u8 0), .lit (.int .u8 0)], .agg [.lit (.int .u8 0), .lit (.int .u8 0)], .agg [.lit (.int .u8 0), .lit (.int .u8 0)], .agg [.lit (.int .u8 0), .lit (.int .u8 0)], .agg [.lit (.int .u8 0), .lit (.int .u8 0)], .agg [.lit (.int .u8 0), .lit (.int .u8 0)], .agg [.lit (.int .u8 0), .lit (.int .u8 0)]]
/-- One of Go's own tables, pinned by name: the form's constant. -/
def laid_unicode_utf8_first : DataW Unit := Go.Pinned.utf8First

/-- 'laws.FnReverse': WHATEVER THE INPUT: true; the input reads as it did. -/
def fnReverseSpec : ChangeSpec := { name := "fnReverse", fn := fun _ => fun
  | [d] => { results := [.lit (.bool true)], args := [d] }
  | _ => none }
def fnReverseRow : OpenClaim := { program := "ytdidgaibgkdjoaagreatdoor", sum := "8f4151c54320506e7857e408b7fb1d02a79746b46bb781dbf887e1289be38b21", func := "loop.example/g00882/laws.FnReverse", spec := "fnReverse", inPlace := ["internal/bytealg.CountString", "internal/bytealg.IndexByteString", "internal/bytealg.IndexString"], unfollowed := true, recurses := true, named := ["unicode/utf8.first", "unicode/utf8.acceptRanges", "internal/bytealg.MaxLen"], apart := false, laid := [("unicode/utf8.acceptRanges", laid_unicode_utf8_acceptRanges), ("unicode/utf8.first", laid_unicode_utf8_first)] }
def FnReverseSaid : Prop := fnReverseRow.holds Tryz.pinned (OpenSpec.ofChange fnReverseSpec)

/-- ITS FALSE NEIGHBOUR: 'it returns false'. Refute it at one input. -/
def fnReverseWrong : ChangeSpec := { name := "fnReverse", fn := fun _ => fun
  | [d] => { results := [.lit (.bool false)], args := [d] }
  | _ => none }
def FnReverseWrongFalsely : Prop := fnReverseRow.holds Tryz.pinned (OpenSpec.ofChange fnReverseWrong)

/-- 'laws.FnExactShadowedEntries': WHATEVER THE INPUT: true; the input reads as it did. -/
def fnExactShadowedEntriesSpec : ChangeSpec := { name := "fnExactShadowedEntries", fn := fun _ => fun
  | [d] => { results := [.lit (.bool true)], args := [d] }
  | _ => none }
def fnExactShadowedEntriesRow : OpenClaim := { program := "ytdidgaibgkdjoaagreatdoor", sum := "8f4151c54320506e7857e408b7fb1d02a79746b46bb781dbf887e1289be38b21", func := "loop.example/g00882/laws.FnExactShadowedEntries", spec := "fnExactShadowedEntries", inPlace := ["internal/bytealg.CountString", "internal/bytealg.IndexByteString", "internal/bytealg.IndexString"], unfollowed := true, recurses := true, named := ["unicode/utf8.first", "unicode/utf8.acceptRanges", "internal/bytealg.MaxLen"], apart := false, laid := [("unicode/utf8.acceptRanges", laid_unicode_utf8_acceptRanges), ("unicode/utf8.first", laid_unicode_utf8_first)] }
def FnExactShadowedEntriesSaid : Prop := fnExactShadowedEntriesRow.holds Tryz.pinned (OpenSpec.ofChange fnExactShadowedEntriesSpec)

/-- ITS FALSE NEIGHBOUR: 'it returns false'. Refute it at one input. -/
def fnExactShadowedEntriesWrong : ChangeSpec := { name := "fnExactShadowedEntries", fn := fun _ => fun
  | [d] => { results := [.lit (.bool false)], args := [d] }
  | _ => none }
def FnExactShadowedEntriesWrongFalsely : Prop := fnExactShadowedEntriesRow.holds Tryz.pinned (OpenSpec.ofChange fnExactShadowedEntriesWrong)

/-- 'laws.FnFoldLookup': WHATEVER THE INPUT: true; the input reads as it did. -/
def fnFoldLookupSpec : ChangeSpec := { name := "fnFoldLookup", fn := fun _ => fun
  | [d] => { results := [.lit (.bool true)], args := [d] }
  | _ => none }
def fnFoldLookupRow : OpenClaim := { program := "ytdidgaibgkdjoaagreatdoor", sum := "8f4151c54320506e7857e408b7fb1d02a79746b46bb781dbf887e1289be38b21", func := "loop.example/g00882/laws.FnFoldLookup", spec := "fnFoldLookup", inPlace := ["internal/bytealg.CountString", "internal/bytealg.IndexByteString", "internal/bytealg.IndexString"], unfollowed := true, recurses := true, named := ["unicode/utf8.first", "unicode/utf8.acceptRanges", "internal/bytealg.MaxLen"], apart := false, laid := [("unicode/utf8.acceptRanges", laid_unicode_utf8_acceptRanges), ("unicode/utf8.first", laid_unicode_utf8_first)] }
def FnFoldLookupSaid : Prop := fnFoldLookupRow.holds Tryz.pinned (OpenSpec.ofChange fnFoldLookupSpec)

/-- ITS FALSE NEIGHBOUR: 'it returns false'. Refute it at one input. -/
def fnFoldLookupWrong : ChangeSpec := { name := "fnFoldLookup", fn := fun _ => fun
  | [d] => { results := [.lit (.bool false)], args := [d] }
  | _ => none }
def FnFoldLookupWrongFalsely : Prop := fnFoldLookupRow.holds Tryz.pinned (OpenSpec.ofChange fnFoldLookupWrong)

/-- 'laws.FnExactScreenOf': WHATEVER THE INPUT: true; the input reads as it did. -/
def fnExactScreenOfSpec : ChangeSpec := { name := "fnExactScreenOf", fn := fun _ => fun
  | [d1, d2] => { results := [.lit (.bool true)], args := [d1, d2] }
  | _ => none }
def fnExactScreenOfRow : OpenClaim := { program := "ytdidgaibgkdjoaagreatdoor", sum := "8f4151c54320506e7857e408b7fb1d02a79746b46bb781dbf887e1289be38b21", func := "loop.example/g00882/laws.FnExactScreenOf", spec := "fnExactScreenOf", inPlace := ["internal/bytealg.CountString", "internal/bytealg.IndexByteString", "internal/bytealg.IndexString", "internal/abi.NoEscape", "internal/bytealg.MakeNoZero"], unfollowed := true, recurses := true, named := ["unicode/utf8.first", "unicode/utf8.acceptRanges", "internal/bytealg.MaxLen"], apart := false, laid := [("unicode/utf8.acceptRanges", laid_unicode_utf8_acceptRanges), ("unicode/utf8.first", laid_unicode_utf8_first)] }
def FnExactScreenOfSaid : Prop := fnExactScreenOfRow.holds Tryz.pinned (OpenSpec.ofChange fnExactScreenOfSpec)

/-- ITS FALSE NEIGHBOUR: 'it returns false'. Refute it at one input. -/
def fnExactScreenOfWrong : ChangeSpec := { name := "fnExactScreenOf", fn := fun _ => fun
  | [d1, d2] => { results := [.lit (.bool false)], args := [d1, d2] }
  | _ => none }
def FnExactScreenOfWrongFalsely : Prop := fnExactScreenOfRow.holds Tryz.pinned (OpenSpec.ofChange fnExactScreenOfWrong)

/-- 'laws.FnExactIsValidTranslator': WHATEVER THE INPUT: true; the input reads as it did. -/
def fnExactIsValidTranslatorSpec : ChangeSpec := { name := "fnExactIsValidTranslator", fn := fun _ => fun
  | [d1, d2] => { results := [.lit (.bool true)], args := [d1, d2] }
  | _ => none }
def fnExactIsValidTranslatorRow : OpenClaim := { program := "ytdidgaibgkdjoaagreatdoor", sum := "8f4151c54320506e7857e408b7fb1d02a79746b46bb781dbf887e1289be38b21", func := "loop.example/g00882/laws.FnExactIsValidTranslator", spec := "fnExactIsValidTranslator", inPlace := ["internal/bytealg.CountString", "internal/bytealg.IndexByteString", "internal/bytealg.IndexString", "internal/abi.NoEscape", "internal/bytealg.MakeNoZero"], unfollowed := true, recurses := true, named := ["unicode/utf8.first", "unicode/utf8.acceptRanges", "internal/bytealg.MaxLen"], apart := false, laid := [("unicode/utf8.acceptRanges", laid_unicode_utf8_acceptRanges), ("unicode/utf8.first", laid_unicode_utf8_first)] }
def FnExactIsValidTranslatorSaid : Prop := fnExactIsValidTranslatorRow.holds Tryz.pinned (OpenSpec.ofChange fnExactIsValidTranslatorSpec)

/-- ITS FALSE NEIGHBOUR: 'it returns false'. Refute it at one input. -/
def fnExactIsValidTranslatorWrong : ChangeSpec := { name := "fnExactIsValidTranslator", fn := fun _ => fun
  | [d1, d2] => { results := [.lit (.bool false)], args := [d1, d2] }
  | _ => none }
def FnExactIsValidTranslatorWrongFalsely : Prop := fnExactIsValidTranslatorRow.holds Tryz.pinned (OpenSpec.ofChange fnExactIsValidTranslatorWrong)

/- THE SECOND FORM. 'bulk': how many values and letters a reading holds, each counted each time it is reached (what is shared counts as often as it is met; a slice's spare places count too). A statement '..UptoSaid' is the law's where the arguments, and the package variables that the reading takes, are together of bulk at most 1048576: NARROWER than '..Said'. Prove '..Said' where nothing that the law and all that it calls make is longer than what came in: it says more and counts as full. Else prove '..UptoSaid'. A law counts once. -/
mutual
def uptoBulk {H : Type} : DataW H → Nat
  | .lit (.string bytes) => bytes.length + 1
  | .lit _ => 1
  | .nil => 1
  | .ptr d => uptoBulk d + 1
  | .slice elems spare => uptoBulkAll elems + uptoBulkAll spare + 1
  | .agg parts => uptoBulkAll parts + 1
  | .iface _ d => uptoBulk d + 1
  | .map entries => uptoBulkEntries entries + 1
  | .held _ => 1
def uptoBulkAll {H : Type} : List (DataW H) → Nat
  | [] => 0
  | d :: r => uptoBulk d + uptoBulkAll r
def uptoBulkEntries {H : Type} : List (Lit × DataW H) → Nat
  | [] => 0
  | x :: r => uptoBulkEntry x + uptoBulkEntries r
def uptoBulkEntry {H : Type} : Lit × DataW H → Nat
  | (.string bytes, d) => bytes.length + uptoBulk d + 1
  | (_, d) => uptoBulk d + 1
 end
def uptoSmall : (H : Type) → List (DataW H) → Bool := fun _ ds => decide (uptoBulkAll ds ≤ 1048576)
def OpenSpec.upto (s : _root_.Go.ChangeSpec) : _root_.Go.OpenSpec := { _root_.Go.OpenSpec.ofChange s with cond := some uptoSmall }

/-- 'laws.FnReverse', WHERE WHAT IT READS IS OF BULK AT MOST 1048576: true; the input reads as it did. -/
def fnReverseUptoRow : OpenClaim := { program := "ytdidgaibgkdjoaagreatdoor", sum := "8f4151c54320506e7857e408b7fb1d02a79746b46bb781dbf887e1289be38b21", func := "loop.example/g00882/laws.FnReverse", spec := "fnReverse", inPlace := ["internal/bytealg.CountString", "internal/bytealg.IndexByteString", "internal/bytealg.IndexString"], unfollowed := true, recurses := true, named := ["unicode/utf8.first", "unicode/utf8.acceptRanges", "internal/bytealg.MaxLen"], apart := false, laid := [("unicode/utf8.acceptRanges", laid_unicode_utf8_acceptRanges), ("unicode/utf8.first", laid_unicode_utf8_first)], narrowed := true }
def FnReverseUptoSaid : Prop := fnReverseUptoRow.holds Tryz.pinned (OpenSpec.upto fnReverseSpec)

/-- 'laws.FnExactShadowedEntries', WHERE WHAT IT READS IS OF BULK AT MOST 1048576: true; the input reads as it did. -/
def fnExactShadowedEntriesUptoRow : OpenClaim := { program := "ytdidgaibgkdjoaagreatdoor", sum := "8f4151c54320506e7857e408b7fb1d02a79746b46bb781dbf887e1289be38b21", func := "loop.example/g00882/laws.FnExactShadowedEntries", spec := "fnExactShadowedEntries", inPlace := ["internal/bytealg.CountString", "internal/bytealg.IndexByteString", "internal/bytealg.IndexString"], unfollowed := true, recurses := true, named := ["unicode/utf8.first", "unicode/utf8.acceptRanges", "internal/bytealg.MaxLen"], apart := false, laid := [("unicode/utf8.acceptRanges", laid_unicode_utf8_acceptRanges), ("unicode/utf8.first", laid_unicode_utf8_first)], narrowed := true }
def FnExactShadowedEntriesUptoSaid : Prop := fnExactShadowedEntriesUptoRow.holds Tryz.pinned (OpenSpec.upto fnExactShadowedEntriesSpec)

/-- 'laws.FnFoldLookup', WHERE WHAT IT READS IS OF BULK AT MOST 1048576: true; the input reads as it did. -/
def fnFoldLookupUptoRow : OpenClaim := { program := "ytdidgaibgkdjoaagreatdoor", sum := "8f4151c54320506e7857e408b7fb1d02a79746b46bb781dbf887e1289be38b21", func := "loop.example/g00882/laws.FnFoldLookup", spec := "fnFoldLookup", inPlace := ["internal/bytealg.CountString", "internal/bytealg.IndexByteString", "internal/bytealg.IndexString"], unfollowed := true, recurses := true, named := ["unicode/utf8.first", "unicode/utf8.acceptRanges", "internal/bytealg.MaxLen"], apart := false, laid := [("unicode/utf8.acceptRanges", laid_unicode_utf8_acceptRanges), ("unicode/utf8.first", laid_unicode_utf8_first)], narrowed := true }
def FnFoldLookupUptoSaid : Prop := fnFoldLookupUptoRow.holds Tryz.pinned (OpenSpec.upto fnFoldLookupSpec)

/-- 'laws.FnExactScreenOf', WHERE WHAT IT READS IS OF BULK AT MOST 1048576: true; the input reads as it did. -/
def fnExactScreenOfUptoRow : OpenClaim := { program := "ytdidgaibgkdjoaagreatdoor", sum := "8f4151c54320506e7857e408b7fb1d02a79746b46bb781dbf887e1289be38b21", func := "loop.example/g00882/laws.FnExactScreenOf", spec := "fnExactScreenOf", inPlace := ["internal/bytealg.CountString", "internal/bytealg.IndexByteString", "internal/bytealg.IndexString", "internal/abi.NoEscape", "internal/bytealg.MakeNoZero"], unfollowed := true, recurses := true, named := ["unicode/utf8.first", "unicode/utf8.acceptRanges", "internal/bytealg.MaxLen"], apart := false, laid := [("unicode/utf8.acceptRanges", laid_unicode_utf8_acceptRanges), ("unicode/utf8.first", laid_unicode_utf8_first)], narrowed := true }
def FnExactScreenOfUptoSaid : Prop := fnExactScreenOfUptoRow.holds Tryz.pinned (OpenSpec.upto fnExactScreenOfSpec)

/-- 'laws.FnExactIsValidTranslator', WHERE WHAT IT READS IS OF BULK AT MOST 1048576: true; the input reads as it did. -/
def fnExactIsValidTranslatorUptoRow : OpenClaim := { program := "ytdidgaibgkdjoaagreatdoor", sum := "8f4151c54320506e7857e408b7fb1d02a79746b46bb781dbf887e1289be38b21", func := "loop.example/g00882/laws.FnExactIsValidTranslator", spec := "fnExactIsValidTranslator", inPlace := ["internal/bytealg.CountString", "internal/bytealg.IndexByteString", "internal/bytealg.IndexString", "internal/abi.NoEscape", "internal/bytealg.MakeNoZero"], unfollowed := true, recurses := true, named := ["unicode/utf8.first", "unicode/utf8.acceptRanges", "internal/bytealg.MaxLen"], apart := false, laid := [("unicode/utf8.acceptRanges", laid_unicode_utf8_acceptRanges), ("unicode/utf8.first", laid_unicode_utf8_first)], narrowed := true }
def FnExactIsValidTranslatorUptoSaid : Prop := fnExactIsValidTranslatorUptoRow.holds Tryz.pinned (OpenSpec.upto fnExactIsValidTranslatorSpec)

end Rows
end Go.Proofs.YtdidgaibgkdjoaaGreatDoor
