/-
  No cell of these rows narrows 'for every input' (looked for: loops, veiled, ifaces, maps, wideKeys, modest, calm, conditions, laid).
  DERIVED. THE GIVEN ROWS OF THIS SEAT. 12 by the template 'for every input the law returns true; each argument reads behind the call as it read before'; 0 by the template 'total and deterministic' (their statements: YtpdmhkmomfjcmaaTotals.lean).
  GIVEN WITH THE SEED: the statements are not yours to turn. If you find one false, say at which input.
  Laid BY PROGRAM, IN A SANDBOX (cutbox-rows.mjs): the forced cells as the released guide's own fill.sh prints them over the translation 4a052c19202e5a91… (all of the seat's roots in one cut). By AI agents, Wed Nov 11 2026. No macro, syntax, notation, axiom, sorry.
-/
import Derived.Test.YtpdmhkmomfjcmaaChecked
import GoSem.Claim
import GoSem.ClaimJoined
import GoSem.ClaimMapViews
import Derived.JoinedTies
import Derived.KernelRfl
namespace Go.Proofs.Ytpdmhkmomfjcmaa
/- THE CELL 'sum', in the pinned program and in every row, IS THE sha256 OF THE DUMP (.gsa) THAT YtpdmhkmomfjcmaaProg.lean LOADS. Nothing in Lean hashes anything: it is a label: what it is worth is what the hold of that sum in a sandbox is worth. -/
noncomputable def Try.pinned : Pinned := { name := "ytpdmhkmomfjcmaa", sum := "4a052c19202e5a91353a0aa57d44d4946f1c70fe98d1c3081f2289974071ed46", checked := Try.checked }
namespace Rows
def none {H : Type} : Left H := { results := [], args := [] }

/-- 'laws.FnExactIsWord': WHATEVER THE INPUT: true; the input reads as it did. -/
def fnExactIsWordSpec : ChangeSpec := { name := "fnExactIsWord", fn := fun _ => fun
  | [d] => { results := [.lit (.bool true)], args := [d] }
  | _ => none }
def fnExactIsWordRow : OpenClaim := { program := "ytpdmhkmomfjcmaa", sum := "4a052c19202e5a91353a0aa57d44d4946f1c70fe98d1c3081f2289974071ed46", func := "loop.example/g00882/laws.FnExactIsWord", spec := "fnExactIsWord", apart := false }
def FnExactIsWordSaid : Prop := fnExactIsWordRow.holds Try.pinned (OpenSpec.ofChange fnExactIsWordSpec)

/-- ITS FALSE NEIGHBOUR: 'it returns false'. Refute it at one input. -/
def fnExactIsWordWrong : ChangeSpec := { name := "fnExactIsWord", fn := fun _ => fun
  | [d] => { results := [.lit (.bool false)], args := [d] }
  | _ => none }
def FnExactIsWordWrongFalsely : Prop := fnExactIsWordRow.holds Try.pinned (OpenSpec.ofChange fnExactIsWordWrong)

/-- 'laws.FnExactIsValidEdit': WHATEVER THE INPUT: true; the input reads as it did. -/
def fnExactIsValidEditSpec : ChangeSpec := { name := "fnExactIsValidEdit", fn := fun _ => fun
  | [d] => { results := [.lit (.bool true)], args := [d] }
  | _ => none }
def fnExactIsValidEditRow : OpenClaim := { program := "ytpdmhkmomfjcmaa", sum := "4a052c19202e5a91353a0aa57d44d4946f1c70fe98d1c3081f2289974071ed46", func := "loop.example/g00882/laws.FnExactIsValidEdit", spec := "fnExactIsValidEdit", apart := false }
def FnExactIsValidEditSaid : Prop := fnExactIsValidEditRow.holds Try.pinned (OpenSpec.ofChange fnExactIsValidEditSpec)

/-- ITS FALSE NEIGHBOUR: 'it returns false'. Refute it at one input. -/
def fnExactIsValidEditWrong : ChangeSpec := { name := "fnExactIsValidEdit", fn := fun _ => fun
  | [d] => { results := [.lit (.bool false)], args := [d] }
  | _ => none }
def FnExactIsValidEditWrongFalsely : Prop := fnExactIsValidEditRow.holds Try.pinned (OpenSpec.ofChange fnExactIsValidEditWrong)

/-- 'laws.FnExactIsValidState': WHATEVER THE INPUT: true; the input reads as it did. -/
def fnExactIsValidStateSpec : ChangeSpec := { name := "fnExactIsValidState", fn := fun _ => fun
  | [d] => { results := [.lit (.bool true)], args := [d] }
  | _ => none }
def fnExactIsValidStateRow : OpenClaim := { program := "ytpdmhkmomfjcmaa", sum := "4a052c19202e5a91353a0aa57d44d4946f1c70fe98d1c3081f2289974071ed46", func := "loop.example/g00882/laws.FnExactIsValidState", spec := "fnExactIsValidState", apart := false }
def FnExactIsValidStateSaid : Prop := fnExactIsValidStateRow.holds Try.pinned (OpenSpec.ofChange fnExactIsValidStateSpec)

/-- ITS FALSE NEIGHBOUR: 'it returns false'. Refute it at one input. -/
def fnExactIsValidStateWrong : ChangeSpec := { name := "fnExactIsValidState", fn := fun _ => fun
  | [d] => { results := [.lit (.bool false)], args := [d] }
  | _ => none }
def FnExactIsValidStateWrongFalsely : Prop := fnExactIsValidStateRow.holds Try.pinned (OpenSpec.ofChange fnExactIsValidStateWrong)

/-- 'laws.FnExactGroupDigits': WHATEVER THE INPUT: true; the input reads as it did. -/
def fnExactGroupDigitsSpec : ChangeSpec := { name := "fnExactGroupDigits", fn := fun _ => fun
  | [d] => { results := [.lit (.bool true)], args := [d] }
  | _ => none }
def fnExactGroupDigitsRow : OpenClaim := { program := "ytpdmhkmomfjcmaa", sum := "4a052c19202e5a91353a0aa57d44d4946f1c70fe98d1c3081f2289974071ed46", func := "loop.example/g00882/laws.FnExactGroupDigits", spec := "fnExactGroupDigits", recurses := true, apart := false }
def FnExactGroupDigitsSaid : Prop := fnExactGroupDigitsRow.holds Try.pinned (OpenSpec.ofChange fnExactGroupDigitsSpec)

/-- ITS FALSE NEIGHBOUR: 'it returns false'. Refute it at one input. -/
def fnExactGroupDigitsWrong : ChangeSpec := { name := "fnExactGroupDigits", fn := fun _ => fun
  | [d] => { results := [.lit (.bool false)], args := [d] }
  | _ => none }
def FnExactGroupDigitsWrongFalsely : Prop := fnExactGroupDigitsRow.holds Try.pinned (OpenSpec.ofChange fnExactGroupDigitsWrong)

/-- 'laws.FnExactLastWord': WHATEVER THE INPUT: true; the input reads as it did. -/
def fnExactLastWordSpec : ChangeSpec := { name := "fnExactLastWord", fn := fun _ => fun
  | [d] => { results := [.lit (.bool true)], args := [d] }
  | _ => none }
def fnExactLastWordRow : OpenClaim := { program := "ytpdmhkmomfjcmaa", sum := "4a052c19202e5a91353a0aa57d44d4946f1c70fe98d1c3081f2289974071ed46", func := "loop.example/g00882/laws.FnExactLastWord", spec := "fnExactLastWord", apart := false }
def FnExactLastWordSaid : Prop := fnExactLastWordRow.holds Try.pinned (OpenSpec.ofChange fnExactLastWordSpec)

/-- ITS FALSE NEIGHBOUR: 'it returns false'. Refute it at one input. -/
def fnExactLastWordWrong : ChangeSpec := { name := "fnExactLastWord", fn := fun _ => fun
  | [d] => { results := [.lit (.bool false)], args := [d] }
  | _ => none }
def FnExactLastWordWrongFalsely : Prop := fnExactLastWordRow.holds Try.pinned (OpenSpec.ofChange fnExactLastWordWrong)

/-- 'laws.FnExactFormatOrdinal': WHATEVER THE INPUT: true; the input reads as it did. -/
def fnExactFormatOrdinalSpec : ChangeSpec := { name := "fnExactFormatOrdinal", fn := fun _ => fun
  | [d] => { results := [.lit (.bool true)], args := [d] }
  | _ => none }
def fnExactFormatOrdinalRow : OpenClaim := { program := "ytpdmhkmomfjcmaa", sum := "4a052c19202e5a91353a0aa57d44d4946f1c70fe98d1c3081f2289974071ed46", func := "loop.example/g00882/laws.FnExactFormatOrdinal", spec := "fnExactFormatOrdinal", apart := false }
def FnExactFormatOrdinalSaid : Prop := fnExactFormatOrdinalRow.holds Try.pinned (OpenSpec.ofChange fnExactFormatOrdinalSpec)

/-- ITS FALSE NEIGHBOUR: 'it returns false'. Refute it at one input. -/
def fnExactFormatOrdinalWrong : ChangeSpec := { name := "fnExactFormatOrdinal", fn := fun _ => fun
  | [d] => { results := [.lit (.bool false)], args := [d] }
  | _ => none }
def FnExactFormatOrdinalWrongFalsely : Prop := fnExactFormatOrdinalRow.holds Try.pinned (OpenSpec.ofChange fnExactFormatOrdinalWrong)

/-- 'laws.FnSpelling': WHATEVER THE INPUT: true; the input reads as it did. -/
def fnSpellingSpec : ChangeSpec := { name := "fnSpelling", fn := fun _ => fun
  | [d] => { results := [.lit (.bool true)], args := [d] }
  | _ => none }
def fnSpellingRow : OpenClaim := { program := "ytpdmhkmomfjcmaa", sum := "4a052c19202e5a91353a0aa57d44d4946f1c70fe98d1c3081f2289974071ed46", func := "loop.example/g00882/laws.FnSpelling", spec := "fnSpelling", inPlace := ["internal/bytealg.IndexByteString"], unfollowed := true, recurses := true, apart := false }
def FnSpellingSaid : Prop := fnSpellingRow.holds Try.pinned (OpenSpec.ofChange fnSpellingSpec)

/-- ITS FALSE NEIGHBOUR: 'it returns false'. Refute it at one input. -/
def fnSpellingWrong : ChangeSpec := { name := "fnSpelling", fn := fun _ => fun
  | [d] => { results := [.lit (.bool false)], args := [d] }
  | _ => none }
def FnSpellingWrongFalsely : Prop := fnSpellingRow.holds Try.pinned (OpenSpec.ofChange fnSpellingWrong)

/-- 'laws.FnExactLeastEdit': WHATEVER THE INPUT: true; the input reads as it did. -/
def fnExactLeastEditSpec : ChangeSpec := { name := "fnExactLeastEdit", fn := fun _ => fun
  | [d1, d2] => { results := [.lit (.bool true)], args := [d1, d2] }
  | _ => none }
def fnExactLeastEditRow : OpenClaim := { program := "ytpdmhkmomfjcmaa", sum := "4a052c19202e5a91353a0aa57d44d4946f1c70fe98d1c3081f2289974071ed46", func := "loop.example/g00882/laws.FnExactLeastEdit", spec := "fnExactLeastEdit", apart := false }
def FnExactLeastEditSaid : Prop := fnExactLeastEditRow.holds Try.pinned (OpenSpec.ofChange fnExactLeastEditSpec)

/-- ITS FALSE NEIGHBOUR: 'it returns false'. Refute it at one input. -/
def fnExactLeastEditWrong : ChangeSpec := { name := "fnExactLeastEdit", fn := fun _ => fun
  | [d1, d2] => { results := [.lit (.bool false)], args := [d1, d2] }
  | _ => none }
def FnExactLeastEditWrongFalsely : Prop := fnExactLeastEditRow.holds Try.pinned (OpenSpec.ofChange fnExactLeastEditWrong)

/-- 'laws.FnExactApplyEdit': WHATEVER THE INPUT: true; the input reads as it did. -/
def fnExactApplyEditSpec : ChangeSpec := { name := "fnExactApplyEdit", fn := fun _ => fun
  | [d1, d2] => { results := [.lit (.bool true)], args := [d1, d2] }
  | _ => none }
def fnExactApplyEditRow : OpenClaim := { program := "ytpdmhkmomfjcmaa", sum := "4a052c19202e5a91353a0aa57d44d4946f1c70fe98d1c3081f2289974071ed46", func := "loop.example/g00882/laws.FnExactApplyEdit", spec := "fnExactApplyEdit", apart := false }
def FnExactApplyEditSaid : Prop := fnExactApplyEditRow.holds Try.pinned (OpenSpec.ofChange fnExactApplyEditSpec)

/-- ITS FALSE NEIGHBOUR: 'it returns false'. Refute it at one input. -/
def fnExactApplyEditWrong : ChangeSpec := { name := "fnExactApplyEdit", fn := fun _ => fun
  | [d1, d2] => { results := [.lit (.bool false)], args := [d1, d2] }
  | _ => none }
def FnExactApplyEditWrongFalsely : Prop := fnExactApplyEditRow.holds Try.pinned (OpenSpec.ofChange fnExactApplyEditWrong)

/-- 'laws.FnExactDefaultFolds': WHATEVER THE INPUT: true; the input reads as it did. -/
def fnExactDefaultFoldsSpec : ChangeSpec := { name := "fnExactDefaultFolds", fn := fun _ => fun
  | [] => { results := [.lit (.bool true)], args := [] }
  | _ => none }
def fnExactDefaultFoldsRow : OpenClaim := { program := "ytpdmhkmomfjcmaa", sum := "4a052c19202e5a91353a0aa57d44d4946f1c70fe98d1c3081f2289974071ed46", func := "loop.example/g00882/laws.FnExactDefaultFolds", spec := "fnExactDefaultFolds", apart := false }
def FnExactDefaultFoldsSaid : Prop := fnExactDefaultFoldsRow.holds Try.pinned (OpenSpec.ofChange fnExactDefaultFoldsSpec)

/-- ITS FALSE NEIGHBOUR: 'it returns false'. Refute it at one input. -/
def fnExactDefaultFoldsWrong : ChangeSpec := { name := "fnExactDefaultFolds", fn := fun _ => fun
  | [] => { results := [.lit (.bool false)], args := [] }
  | _ => none }
def FnExactDefaultFoldsWrongFalsely : Prop := fnExactDefaultFoldsRow.holds Try.pinned (OpenSpec.ofChange fnExactDefaultFoldsWrong)

/-- 'laws.FnExactFormatClock': WHATEVER THE INPUT: true; the input reads as it did. -/
def fnExactFormatClockSpec : ChangeSpec := { name := "fnExactFormatClock", fn := fun _ => fun
  | [d] => { results := [.lit (.bool true)], args := [d] }
  | _ => none }
def fnExactFormatClockRow : OpenClaim := { program := "ytpdmhkmomfjcmaa", sum := "4a052c19202e5a91353a0aa57d44d4946f1c70fe98d1c3081f2289974071ed46", func := "loop.example/g00882/laws.FnExactFormatClock", spec := "fnExactFormatClock", recurses := true, apart := false }
def FnExactFormatClockSaid : Prop := fnExactFormatClockRow.holds Try.pinned (OpenSpec.ofChange fnExactFormatClockSpec)

/-- ITS FALSE NEIGHBOUR: 'it returns false'. Refute it at one input. -/
def fnExactFormatClockWrong : ChangeSpec := { name := "fnExactFormatClock", fn := fun _ => fun
  | [d] => { results := [.lit (.bool false)], args := [d] }
  | _ => none }
def FnExactFormatClockWrongFalsely : Prop := fnExactFormatClockRow.holds Try.pinned (OpenSpec.ofChange fnExactFormatClockWrong)

/-- 'laws.FnExactVowelGroups': WHATEVER THE INPUT: true; the input reads as it did. -/
def fnExactVowelGroupsSpec : ChangeSpec := { name := "fnExactVowelGroups", fn := fun _ => fun
  | [d] => { results := [.lit (.bool true)], args := [d] }
  | _ => none }
def fnExactVowelGroupsRow : OpenClaim := { program := "ytpdmhkmomfjcmaa", sum := "4a052c19202e5a91353a0aa57d44d4946f1c70fe98d1c3081f2289974071ed46", func := "loop.example/g00882/laws.FnExactVowelGroups", spec := "fnExactVowelGroups", inPlace := ["internal/bytealg.IndexByteString"], apart := false }
def FnExactVowelGroupsSaid : Prop := fnExactVowelGroupsRow.holds Try.pinned (OpenSpec.ofChange fnExactVowelGroupsSpec)

/-- ITS FALSE NEIGHBOUR: 'it returns false'. Refute it at one input. -/
def fnExactVowelGroupsWrong : ChangeSpec := { name := "fnExactVowelGroups", fn := fun _ => fun
  | [d] => { results := [.lit (.bool false)], args := [d] }
  | _ => none }
def FnExactVowelGroupsWrongFalsely : Prop := fnExactVowelGroupsRow.holds Try.pinned (OpenSpec.ofChange fnExactVowelGroupsWrong)

/- THE SECOND FORM. 'bulk': how many values and letters a reading holds, each counted each time it is reached (what is shared counts as often as it is met; a slice's spare places count too). A statement '..UptoSaid' is the law's where the arguments, and the package variables that the reading takes, are together of bulk at most 1048576: NARROWER than '..Said'. Prove '..Said' where nothing that the law and all that it calls make is longer than what came in: it says more and counts as full. Else prove '..UptoSaid'. A law counts once. -/
mutual
def uptoBulk {H : Type} : DataW H → Nat
  | .lit (.string bytes) => bytes.length + 1
  | .lit _ => 1
  | .nil => 1
  | .ptr d => uptoBulk d + 1
  | .slice elems spare => uptoBulkAll elems + uptoBulkAll spare + 1
  | .agg parts => uptoBulkAll parts + 1
  | .iface _ d => uptoBulk d + 1
  | .map entries => uptoBulkEntries entries + 1
  | .held _ => 1
def uptoBulkAll {H : Type} : List (DataW H) → Nat
  | [] => 0
  | d :: r => uptoBulk d + uptoBulkAll r
def uptoBulkEntries {H : Type} : List (Lit × DataW H) → Nat
  | [] => 0
  | x :: r => uptoBulkEntry x + uptoBulkEntries r
def uptoBulkEntry {H : Type} : Lit × DataW H → Nat
  | (.string bytes, d) => bytes.length + uptoBulk d + 1
  | (_, d) => uptoBulk d + 1
 end
def uptoSmall : (H : Type) → List (DataW H) → Bool := fun _ ds => decide (uptoBulkAll ds ≤ 1048576)
def OpenSpec.upto (s : _root_.Go.ChangeSpec) : _root_.Go.OpenSpec := { _root_.Go.OpenSpec.ofChange s with cond := some uptoSmall }

/-- 'laws.FnExactIsWord', WHERE WHAT IT READS IS OF BULK AT MOST 1048576: true; the input reads as it did. -/
def fnExactIsWordUptoRow : OpenClaim := { program := "ytpdmhkmomfjcmaa", sum := "4a052c19202e5a91353a0aa57d44d4946f1c70fe98d1c3081f2289974071ed46", func := "loop.example/g00882/laws.FnExactIsWord", spec := "fnExactIsWord", apart := false, narrowed := true }
def FnExactIsWordUptoSaid : Prop := fnExactIsWordUptoRow.holds Try.pinned (OpenSpec.upto fnExactIsWordSpec)

/-- 'laws.FnExactIsValidEdit', WHERE WHAT IT READS IS OF BULK AT MOST 1048576: true; the input reads as it did. -/
def fnExactIsValidEditUptoRow : OpenClaim := { program := "ytpdmhkmomfjcmaa", sum := "4a052c19202e5a91353a0aa57d44d4946f1c70fe98d1c3081f2289974071ed46", func := "loop.example/g00882/laws.FnExactIsValidEdit", spec := "fnExactIsValidEdit", apart := false, narrowed := true }
def FnExactIsValidEditUptoSaid : Prop := fnExactIsValidEditUptoRow.holds Try.pinned (OpenSpec.upto fnExactIsValidEditSpec)

/-- 'laws.FnExactIsValidState', WHERE WHAT IT READS IS OF BULK AT MOST 1048576: true; the input reads as it did. -/
def fnExactIsValidStateUptoRow : OpenClaim := { program := "ytpdmhkmomfjcmaa", sum := "4a052c19202e5a91353a0aa57d44d4946f1c70fe98d1c3081f2289974071ed46", func := "loop.example/g00882/laws.FnExactIsValidState", spec := "fnExactIsValidState", apart := false, narrowed := true }
def FnExactIsValidStateUptoSaid : Prop := fnExactIsValidStateUptoRow.holds Try.pinned (OpenSpec.upto fnExactIsValidStateSpec)

/-- 'laws.FnExactGroupDigits', WHERE WHAT IT READS IS OF BULK AT MOST 1048576: true; the input reads as it did. -/
def fnExactGroupDigitsUptoRow : OpenClaim := { program := "ytpdmhkmomfjcmaa", sum := "4a052c19202e5a91353a0aa57d44d4946f1c70fe98d1c3081f2289974071ed46", func := "loop.example/g00882/laws.FnExactGroupDigits", spec := "fnExactGroupDigits", recurses := true, apart := false, narrowed := true }
def FnExactGroupDigitsUptoSaid : Prop := fnExactGroupDigitsUptoRow.holds Try.pinned (OpenSpec.upto fnExactGroupDigitsSpec)

/-- 'laws.FnExactLastWord', WHERE WHAT IT READS IS OF BULK AT MOST 1048576: true; the input reads as it did. -/
def fnExactLastWordUptoRow : OpenClaim := { program := "ytpdmhkmomfjcmaa", sum := "4a052c19202e5a91353a0aa57d44d4946f1c70fe98d1c3081f2289974071ed46", func := "loop.example/g00882/laws.FnExactLastWord", spec := "fnExactLastWord", apart := false, narrowed := true }
def FnExactLastWordUptoSaid : Prop := fnExactLastWordUptoRow.holds Try.pinned (OpenSpec.upto fnExactLastWordSpec)

/-- 'laws.FnExactFormatOrdinal', WHERE WHAT IT READS IS OF BULK AT MOST 1048576: true; the input reads as it did. -/
def fnExactFormatOrdinalUptoRow : OpenClaim := { program := "ytpdmhkmomfjcmaa", sum := "4a052c19202e5a91353a0aa57d44d4946f1c70fe98d1c3081f2289974071ed46", func := "loop.example/g00882/laws.FnExactFormatOrdinal", spec := "fnExactFormatOrdinal", apart := false, narrowed := true }
def FnExactFormatOrdinalUptoSaid : Prop := fnExactFormatOrdinalUptoRow.holds Try.pinned (OpenSpec.upto fnExactFormatOrdinalSpec)

/-- 'laws.FnSpelling', WHERE WHAT IT READS IS OF BULK AT MOST 1048576: true; the input reads as it did. -/
def fnSpellingUptoRow : OpenClaim := { program := "ytpdmhkmomfjcmaa", sum := "4a052c19202e5a91353a0aa57d44d4946f1c70fe98d1c3081f2289974071ed46", func := "loop.example/g00882/laws.FnSpelling", spec := "fnSpelling", inPlace := ["internal/bytealg.IndexByteString"], unfollowed := true, recurses := true, apart := false, narrowed := true }
def FnSpellingUptoSaid : Prop := fnSpellingUptoRow.holds Try.pinned (OpenSpec.upto fnSpellingSpec)

/-- 'laws.FnExactLeastEdit', WHERE WHAT IT READS IS OF BULK AT MOST 1048576: true; the input reads as it did. -/
def fnExactLeastEditUptoRow : OpenClaim := { program := "ytpdmhkmomfjcmaa", sum := "4a052c19202e5a91353a0aa57d44d4946f1c70fe98d1c3081f2289974071ed46", func := "loop.example/g00882/laws.FnExactLeastEdit", spec := "fnExactLeastEdit", apart := false, narrowed := true }
def FnExactLeastEditUptoSaid : Prop := fnExactLeastEditUptoRow.holds Try.pinned (OpenSpec.upto fnExactLeastEditSpec)

/-- 'laws.FnExactApplyEdit', WHERE WHAT IT READS IS OF BULK AT MOST 1048576: true; the input reads as it did. -/
def fnExactApplyEditUptoRow : OpenClaim := { program := "ytpdmhkmomfjcmaa", sum := "4a052c19202e5a91353a0aa57d44d4946f1c70fe98d1c3081f2289974071ed46", func := "loop.example/g00882/laws.FnExactApplyEdit", spec := "fnExactApplyEdit", apart := false, narrowed := true }
def FnExactApplyEditUptoSaid : Prop := fnExactApplyEditUptoRow.holds Try.pinned (OpenSpec.upto fnExactApplyEditSpec)

/-- 'laws.FnExactDefaultFolds', WHERE WHAT IT READS IS OF BULK AT MOST 1048576: true; the input reads as it did. -/
def fnExactDefaultFoldsUptoRow : OpenClaim := { program := "ytpdmhkmomfjcmaa", sum := "4a052c19202e5a91353a0aa57d44d4946f1c70fe98d1c3081f2289974071ed46", func := "loop.example/g00882/laws.FnExactDefaultFolds", spec := "fnExactDefaultFolds", apart := false, narrowed := true }
def FnExactDefaultFoldsUptoSaid : Prop := fnExactDefaultFoldsUptoRow.holds Try.pinned (OpenSpec.upto fnExactDefaultFoldsSpec)

/-- 'laws.FnExactFormatClock', WHERE WHAT IT READS IS OF BULK AT MOST 1048576: true; the input reads as it did. -/
def fnExactFormatClockUptoRow : OpenClaim := { program := "ytpdmhkmomfjcmaa", sum := "4a052c19202e5a91353a0aa57d44d4946f1c70fe98d1c3081f2289974071ed46", func := "loop.example/g00882/laws.FnExactFormatClock", spec := "fnExactFormatClock", recurses := true, apart := false, narrowed := true }
def FnExactFormatClockUptoSaid : Prop := fnExactFormatClockUptoRow.holds Try.pinned (OpenSpec.upto fnExactFormatClockSpec)

/-- 'laws.FnExactVowelGroups', WHERE WHAT IT READS IS OF BULK AT MOST 1048576: true; the input reads as it did. -/
def fnExactVowelGroupsUptoRow : OpenClaim := { program := "ytpdmhkmomfjcmaa", sum := "4a052c19202e5a91353a0aa57d44d4946f1c70fe98d1c3081f2289974071ed46", func := "loop.example/g00882/laws.FnExactVowelGroups", spec := "fnExactVowelGroups", inPlace := ["internal/bytealg.IndexByteString"], apart := false, narrowed := true }
def FnExactVowelGroupsUptoSaid : Prop := fnExactVowelGroupsUptoRow.holds Try.pinned (OpenSpec.upto fnExactVowelGroupsSpec)

end Rows
end Go.Proofs.Ytpdmhkmomfjcmaa
