/-
  No cell of these rows narrows 'for every input' (looked for: loops, veiled, ifaces, maps, wideKeys, modest, calm, conditions, laid).
  DERIVED. THE GIVEN ROWS OF THIS SEAT. 12 by the template 'for every input the law returns true; each argument reads behind the call as it read before'; 0 by the template 'total and deterministic' (their statements: YtmlckocmfoiobaaTotals.lean).
  GIVEN WITH THE SEED: the statements are not yours to turn. If you find one false, say at which input.
  Laid BY PROGRAM, IN A SANDBOX (cutbox-rows.mjs): the forced cells as the released guide's own fill.sh prints them over the translation 2352da25554c2b55… (all of the seat's roots in one cut). By AI agents, Wed Nov 11 2026. No macro, syntax, notation, axiom, sorry.
-/
import Derived.Test.YtmlckocmfoiobaaChecked
import GoSem.Claim
import GoSem.ClaimJoined
import GoSem.ClaimMapViews
import Derived.JoinedTies
import Derived.KernelRfl
namespace Go.Proofs.Ytmlckocmfoiobaa
/- THE CELL 'sum', in the pinned program and in every row, IS THE sha256 OF THE DUMP (.gsa) THAT YtmlckocmfoiobaaProg.lean LOADS. Nothing in Lean hashes anything: it is a label: what it is worth is what the hold of that sum in a sandbox is worth. -/
noncomputable def Try.pinned : Pinned := { name := "ytmlckocmfoiobaa", sum := "2352da25554c2b5544c8a8cfe6846c18916a5ca54c86b8dd6cd714b8bc473d79", checked := Try.checked }
namespace Rows
def none {H : Type} : Left H := { results := [], args := [] }

/-- 'laws.FnExactIsNumberStroke': WHATEVER THE INPUT: true; the input reads as it did. -/
def fnExactIsNumberStrokeSpec : ChangeSpec := { name := "fnExactIsNumberStroke", fn := fun _ => fun
  | [d] => { results := [.lit (.bool true)], args := [d] }
  | _ => none }
def fnExactIsNumberStrokeRow : OpenClaim := { program := "ytmlckocmfoiobaa", sum := "2352da25554c2b5544c8a8cfe6846c18916a5ca54c86b8dd6cd714b8bc473d79", func := "loop.example/g00882/laws.FnExactIsNumberStroke", spec := "fnExactIsNumberStroke", apart := false }
def FnExactIsNumberStrokeSaid : Prop := fnExactIsNumberStrokeRow.holds Try.pinned (OpenSpec.ofChange fnExactIsNumberStrokeSpec)

/-- ITS FALSE NEIGHBOUR: 'it returns false'. Refute it at one input. -/
def fnExactIsNumberStrokeWrong : ChangeSpec := { name := "fnExactIsNumberStroke", fn := fun _ => fun
  | [d] => { results := [.lit (.bool false)], args := [d] }
  | _ => none }
def FnExactIsNumberStrokeWrongFalsely : Prop := fnExactIsNumberStrokeRow.holds Try.pinned (OpenSpec.ofChange fnExactIsNumberStrokeWrong)

/-- 'laws.FnExactNewState': WHATEVER THE INPUT: true; the input reads as it did. -/
def fnExactNewStateSpec : ChangeSpec := { name := "fnExactNewState", fn := fun _ => fun
  | [d] => { results := [.lit (.bool true)], args := [d] }
  | _ => none }
def fnExactNewStateRow : OpenClaim := { program := "ytmlckocmfoiobaa", sum := "2352da25554c2b5544c8a8cfe6846c18916a5ca54c86b8dd6cd714b8bc473d79", func := "loop.example/g00882/laws.FnExactNewState", spec := "fnExactNewState", apart := false }
def FnExactNewStateSaid : Prop := fnExactNewStateRow.holds Try.pinned (OpenSpec.ofChange fnExactNewStateSpec)

/-- ITS FALSE NEIGHBOUR: 'it returns false'. Refute it at one input. -/
def fnExactNewStateWrong : ChangeSpec := { name := "fnExactNewState", fn := fun _ => fun
  | [d] => { results := [.lit (.bool false)], args := [d] }
  | _ => none }
def FnExactNewStateWrongFalsely : Prop := fnExactNewStateRow.holds Try.pinned (OpenSpec.ofChange fnExactNewStateWrong)

/-- 'laws.FnExactFormatDollars': WHATEVER THE INPUT: true; the input reads as it did. -/
def fnExactFormatDollarsSpec : ChangeSpec := { name := "fnExactFormatDollars", fn := fun _ => fun
  | [d1, d2] => { results := [.lit (.bool true)], args := [d1, d2] }
  | _ => none }
def fnExactFormatDollarsRow : OpenClaim := { program := "ytmlckocmfoiobaa", sum := "2352da25554c2b5544c8a8cfe6846c18916a5ca54c86b8dd6cd714b8bc473d79", func := "loop.example/g00882/laws.FnExactFormatDollars", spec := "fnExactFormatDollars", recurses := true, apart := false }
def FnExactFormatDollarsSaid : Prop := fnExactFormatDollarsRow.holds Try.pinned (OpenSpec.ofChange fnExactFormatDollarsSpec)

/-- ITS FALSE NEIGHBOUR: 'it returns false'. Refute it at one input. -/
def fnExactFormatDollarsWrong : ChangeSpec := { name := "fnExactFormatDollars", fn := fun _ => fun
  | [d1, d2] => { results := [.lit (.bool false)], args := [d1, d2] }
  | _ => none }
def FnExactFormatDollarsWrongFalsely : Prop := fnExactFormatDollarsRow.holds Try.pinned (OpenSpec.ofChange fnExactFormatDollarsWrong)

/-- 'laws.FnExactComposeEdits': WHATEVER THE INPUT: true; the input reads as it did. -/
def fnExactComposeEditsSpec : ChangeSpec := { name := "fnExactComposeEdits", fn := fun _ => fun
  | [d1, d2] => { results := [.lit (.bool true)], args := [d1, d2] }
  | _ => none }
def fnExactComposeEditsRow : OpenClaim := { program := "ytmlckocmfoiobaa", sum := "2352da25554c2b5544c8a8cfe6846c18916a5ca54c86b8dd6cd714b8bc473d79", func := "loop.example/g00882/laws.FnExactComposeEdits", spec := "fnExactComposeEdits", apart := false }
def FnExactComposeEditsSaid : Prop := fnExactComposeEditsRow.holds Try.pinned (OpenSpec.ofChange fnExactComposeEditsSpec)

/-- ITS FALSE NEIGHBOUR: 'it returns false'. Refute it at one input. -/
def fnExactComposeEditsWrong : ChangeSpec := { name := "fnExactComposeEdits", fn := fun _ => fun
  | [d1, d2] => { results := [.lit (.bool false)], args := [d1, d2] }
  | _ => none }
def FnExactComposeEditsWrongFalsely : Prop := fnExactComposeEditsRow.holds Try.pinned (OpenSpec.ofChange fnExactComposeEditsWrong)

/-- 'laws.FnExactInvertEdit': WHATEVER THE INPUT: true; the input reads as it did. -/
def fnExactInvertEditSpec : ChangeSpec := { name := "fnExactInvertEdit", fn := fun _ => fun
  | [d1, d2] => { results := [.lit (.bool true)], args := [d1, d2] }
  | _ => none }
def fnExactInvertEditRow : OpenClaim := { program := "ytmlckocmfoiobaa", sum := "2352da25554c2b5544c8a8cfe6846c18916a5ca54c86b8dd6cd714b8bc473d79", func := "loop.example/g00882/laws.FnExactInvertEdit", spec := "fnExactInvertEdit", apart := false }
def FnExactInvertEditSaid : Prop := fnExactInvertEditRow.holds Try.pinned (OpenSpec.ofChange fnExactInvertEditSpec)

/-- ITS FALSE NEIGHBOUR: 'it returns false'. Refute it at one input. -/
def fnExactInvertEditWrong : ChangeSpec := { name := "fnExactInvertEdit", fn := fun _ => fun
  | [d1, d2] => { results := [.lit (.bool false)], args := [d1, d2] }
  | _ => none }
def FnExactInvertEditWrongFalsely : Prop := fnExactInvertEditRow.holds Try.pinned (OpenSpec.ofChange fnExactInvertEditWrong)

/-- 'laws.FnExactCountUntranslated': WHATEVER THE INPUT: true; the input reads as it did. -/
def fnExactCountUntranslatedSpec : ChangeSpec := { name := "fnExactCountUntranslated", fn := fun _ => fun
  | [d] => { results := [.lit (.bool true)], args := [d] }
  | _ => none }
def fnExactCountUntranslatedRow : OpenClaim := { program := "ytmlckocmfoiobaa", sum := "2352da25554c2b5544c8a8cfe6846c18916a5ca54c86b8dd6cd714b8bc473d79", func := "loop.example/g00882/laws.FnExactCountUntranslated", spec := "fnExactCountUntranslated", unfollowed := true, recurses := true, apart := false }
def FnExactCountUntranslatedSaid : Prop := fnExactCountUntranslatedRow.holds Try.pinned (OpenSpec.ofChange fnExactCountUntranslatedSpec)

/-- ITS FALSE NEIGHBOUR: 'it returns false'. Refute it at one input. -/
def fnExactCountUntranslatedWrong : ChangeSpec := { name := "fnExactCountUntranslated", fn := fun _ => fun
  | [d] => { results := [.lit (.bool false)], args := [d] }
  | _ => none }
def FnExactCountUntranslatedWrongFalsely : Prop := fnExactCountUntranslatedRow.holds Try.pinned (OpenSpec.ofChange fnExactCountUntranslatedWrong)

/-- 'laws.FnExactStrokeDigits': WHATEVER THE INPUT: true; the input reads as it did. -/
def fnExactStrokeDigitsSpec : ChangeSpec := { name := "fnExactStrokeDigits", fn := fun _ => fun
  | [d] => { results := [.lit (.bool true)], args := [d] }
  | _ => none }
def fnExactStrokeDigitsRow : OpenClaim := { program := "ytmlckocmfoiobaa", sum := "2352da25554c2b5544c8a8cfe6846c18916a5ca54c86b8dd6cd714b8bc473d79", func := "loop.example/g00882/laws.FnExactStrokeDigits", spec := "fnExactStrokeDigits", apart := false }
def FnExactStrokeDigitsSaid : Prop := fnExactStrokeDigitsRow.holds Try.pinned (OpenSpec.ofChange fnExactStrokeDigitsSpec)

/-- ITS FALSE NEIGHBOUR: 'it returns false'. Refute it at one input. -/
def fnExactStrokeDigitsWrong : ChangeSpec := { name := "fnExactStrokeDigits", fn := fun _ => fun
  | [d] => { results := [.lit (.bool false)], args := [d] }
  | _ => none }
def FnExactStrokeDigitsWrongFalsely : Prop := fnExactStrokeDigitsRow.holds Try.pinned (OpenSpec.ofChange fnExactStrokeDigitsWrong)

/-- 'laws.FnExactIsValidFolds': WHATEVER THE INPUT: true; the input reads as it did. -/
def fnExactIsValidFoldsSpec : ChangeSpec := { name := "fnExactIsValidFolds", fn := fun _ => fun
  | [d] => { results := [.lit (.bool true)], args := [d] }
  | _ => none }
def fnExactIsValidFoldsRow : OpenClaim := { program := "ytmlckocmfoiobaa", sum := "2352da25554c2b5544c8a8cfe6846c18916a5ca54c86b8dd6cd714b8bc473d79", func := "loop.example/g00882/laws.FnExactIsValidFolds", spec := "fnExactIsValidFolds", apart := false }
def FnExactIsValidFoldsSaid : Prop := fnExactIsValidFoldsRow.holds Try.pinned (OpenSpec.ofChange fnExactIsValidFoldsSpec)

/-- ITS FALSE NEIGHBOUR: 'it returns false'. Refute it at one input. -/
def fnExactIsValidFoldsWrong : ChangeSpec := { name := "fnExactIsValidFolds", fn := fun _ => fun
  | [d] => { results := [.lit (.bool false)], args := [d] }
  | _ => none }
def FnExactIsValidFoldsWrongFalsely : Prop := fnExactIsValidFoldsRow.holds Try.pinned (OpenSpec.ofChange fnExactIsValidFoldsWrong)

/-- 'laws.FnExactFoldInto': WHATEVER THE INPUT: true; the input reads as it did. -/
def fnExactFoldIntoSpec : ChangeSpec := { name := "fnExactFoldInto", fn := fun _ => fun
  | [d1, d2] => { results := [.lit (.bool true)], args := [d1, d2] }
  | _ => none }
def fnExactFoldIntoRow : OpenClaim := { program := "ytmlckocmfoiobaa", sum := "2352da25554c2b5544c8a8cfe6846c18916a5ca54c86b8dd6cd714b8bc473d79", func := "loop.example/g00882/laws.FnExactFoldInto", spec := "fnExactFoldInto", unfollowed := true, recurses := true, apart := false }
def FnExactFoldIntoSaid : Prop := fnExactFoldIntoRow.holds Try.pinned (OpenSpec.ofChange fnExactFoldIntoSpec)

/-- ITS FALSE NEIGHBOUR: 'it returns false'. Refute it at one input. -/
def fnExactFoldIntoWrong : ChangeSpec := { name := "fnExactFoldInto", fn := fun _ => fun
  | [d1, d2] => { results := [.lit (.bool false)], args := [d1, d2] }
  | _ => none }
def FnExactFoldIntoWrongFalsely : Prop := fnExactFoldIntoRow.holds Try.pinned (OpenSpec.ofChange fnExactFoldIntoWrong)

/-- 'laws.FnExactDecodeNumber': WHATEVER THE INPUT: true; the input reads as it did. -/
def fnExactDecodeNumberSpec : ChangeSpec := { name := "fnExactDecodeNumber", fn := fun _ => fun
  | [d] => { results := [.lit (.bool true)], args := [d] }
  | _ => none }
def fnExactDecodeNumberRow : OpenClaim := { program := "ytmlckocmfoiobaa", sum := "2352da25554c2b5544c8a8cfe6846c18916a5ca54c86b8dd6cd714b8bc473d79", func := "loop.example/g00882/laws.FnExactDecodeNumber", spec := "fnExactDecodeNumber", apart := false }
def FnExactDecodeNumberSaid : Prop := fnExactDecodeNumberRow.holds Try.pinned (OpenSpec.ofChange fnExactDecodeNumberSpec)

/-- ITS FALSE NEIGHBOUR: 'it returns false'. Refute it at one input. -/
def fnExactDecodeNumberWrong : ChangeSpec := { name := "fnExactDecodeNumber", fn := fun _ => fun
  | [d] => { results := [.lit (.bool false)], args := [d] }
  | _ => none }
def FnExactDecodeNumberWrongFalsely : Prop := fnExactDecodeNumberRow.holds Try.pinned (OpenSpec.ofChange fnExactDecodeNumberWrong)

/-- 'laws.FnExactSuffixRule': WHATEVER THE INPUT: true; the input reads as it did. -/
def fnExactSuffixRuleSpec : ChangeSpec := { name := "fnExactSuffixRule", fn := fun _ => fun
  | [d1, d2] => { results := [.lit (.bool true)], args := [d1, d2] }
  | _ => none }
def fnExactSuffixRuleRow : OpenClaim := { program := "ytmlckocmfoiobaa", sum := "2352da25554c2b5544c8a8cfe6846c18916a5ca54c86b8dd6cd714b8bc473d79", func := "loop.example/g00882/laws.FnExactSuffixRule", spec := "fnExactSuffixRule", inPlace := ["internal/bytealg.IndexByteString"], unfollowed := true, recurses := true, apart := false }
def FnExactSuffixRuleSaid : Prop := fnExactSuffixRuleRow.holds Try.pinned (OpenSpec.ofChange fnExactSuffixRuleSpec)

/-- ITS FALSE NEIGHBOUR: 'it returns false'. Refute it at one input. -/
def fnExactSuffixRuleWrong : ChangeSpec := { name := "fnExactSuffixRule", fn := fun _ => fun
  | [d1, d2] => { results := [.lit (.bool false)], args := [d1, d2] }
  | _ => none }
def FnExactSuffixRuleWrongFalsely : Prop := fnExactSuffixRuleRow.holds Try.pinned (OpenSpec.ofChange fnExactSuffixRuleWrong)

/-- 'laws.FnExactUnfold': WHATEVER THE INPUT: true; the input reads as it did. -/
def fnExactUnfoldSpec : ChangeSpec := { name := "fnExactUnfold", fn := fun _ => fun
  | [d1, d2] => { results := [.lit (.bool true)], args := [d1, d2] }
  | _ => none }
def fnExactUnfoldRow : OpenClaim := { program := "ytmlckocmfoiobaa", sum := "2352da25554c2b5544c8a8cfe6846c18916a5ca54c86b8dd6cd714b8bc473d79", func := "loop.example/g00882/laws.FnExactUnfold", spec := "fnExactUnfold", unfollowed := true, recurses := true, apart := false }
def FnExactUnfoldSaid : Prop := fnExactUnfoldRow.holds Try.pinned (OpenSpec.ofChange fnExactUnfoldSpec)

/-- ITS FALSE NEIGHBOUR: 'it returns false'. Refute it at one input. -/
def fnExactUnfoldWrong : ChangeSpec := { name := "fnExactUnfold", fn := fun _ => fun
  | [d1, d2] => { results := [.lit (.bool false)], args := [d1, d2] }
  | _ => none }
def FnExactUnfoldWrongFalsely : Prop := fnExactUnfoldRow.holds Try.pinned (OpenSpec.ofChange fnExactUnfoldWrong)

/- THE SECOND FORM. 'bulk': how many values and letters a reading holds, each counted each time it is reached (what is shared counts as often as it is met; a slice's spare places count too). A statement '..UptoSaid' is the law's where the arguments, and the package variables that the reading takes, are together of bulk at most 1048576: NARROWER than '..Said'. Prove '..Said' where nothing that the law and all that it calls make is longer than what came in: it says more and counts as full. Else prove '..UptoSaid'. A law counts once. -/
mutual
def uptoBulk {H : Type} : DataW H → Nat
  | .lit (.string bytes) => bytes.length + 1
  | .lit _ => 1
  | .nil => 1
  | .ptr d => uptoBulk d + 1
  | .slice elems spare => uptoBulkAll elems + uptoBulkAll spare + 1
  | .agg parts => uptoBulkAll parts + 1
  | .iface _ d => uptoBulk d + 1
  | .map entries => uptoBulkEntries entries + 1
  | .held _ => 1
def uptoBulkAll {H : Type} : List (DataW H) → Nat
  | [] => 0
  | d :: r => uptoBulk d + uptoBulkAll r
def uptoBulkEntries {H : Type} : List (Lit × DataW H) → Nat
  | [] => 0
  | x :: r => uptoBulkEntry x + uptoBulkEntries r
def uptoBulkEntry {H : Type} : Lit × DataW H → Nat
  | (.string bytes, d) => bytes.length + uptoBulk d + 1
  | (_, d) => uptoBulk d + 1
 end
def uptoSmall : (H : Type) → List (DataW H) → Bool := fun _ ds => decide (uptoBulkAll ds ≤ 1048576)
def OpenSpec.upto (s : _root_.Go.ChangeSpec) : _root_.Go.OpenSpec := { _root_.Go.OpenSpec.ofChange s with cond := some uptoSmall }

/-- 'laws.FnExactIsNumberStroke', WHERE WHAT IT READS IS OF BULK AT MOST 1048576: true; the input reads as it did. -/
def fnExactIsNumberStrokeUptoRow : OpenClaim := { program := "ytmlckocmfoiobaa", sum := "2352da25554c2b5544c8a8cfe6846c18916a5ca54c86b8dd6cd714b8bc473d79", func := "loop.example/g00882/laws.FnExactIsNumberStroke", spec := "fnExactIsNumberStroke", apart := false, narrowed := true }
def FnExactIsNumberStrokeUptoSaid : Prop := fnExactIsNumberStrokeUptoRow.holds Try.pinned (OpenSpec.upto fnExactIsNumberStrokeSpec)

/-- 'laws.FnExactNewState', WHERE WHAT IT READS IS OF BULK AT MOST 1048576: true; the input reads as it did. -/
def fnExactNewStateUptoRow : OpenClaim := { program := "ytmlckocmfoiobaa", sum := "2352da25554c2b5544c8a8cfe6846c18916a5ca54c86b8dd6cd714b8bc473d79", func := "loop.example/g00882/laws.FnExactNewState", spec := "fnExactNewState", apart := false, narrowed := true }
def FnExactNewStateUptoSaid : Prop := fnExactNewStateUptoRow.holds Try.pinned (OpenSpec.upto fnExactNewStateSpec)

/-- 'laws.FnExactFormatDollars', WHERE WHAT IT READS IS OF BULK AT MOST 1048576: true; the input reads as it did. -/
def fnExactFormatDollarsUptoRow : OpenClaim := { program := "ytmlckocmfoiobaa", sum := "2352da25554c2b5544c8a8cfe6846c18916a5ca54c86b8dd6cd714b8bc473d79", func := "loop.example/g00882/laws.FnExactFormatDollars", spec := "fnExactFormatDollars", recurses := true, apart := false, narrowed := true }
def FnExactFormatDollarsUptoSaid : Prop := fnExactFormatDollarsUptoRow.holds Try.pinned (OpenSpec.upto fnExactFormatDollarsSpec)

/-- 'laws.FnExactComposeEdits', WHERE WHAT IT READS IS OF BULK AT MOST 1048576: true; the input reads as it did. -/
def fnExactComposeEditsUptoRow : OpenClaim := { program := "ytmlckocmfoiobaa", sum := "2352da25554c2b5544c8a8cfe6846c18916a5ca54c86b8dd6cd714b8bc473d79", func := "loop.example/g00882/laws.FnExactComposeEdits", spec := "fnExactComposeEdits", apart := false, narrowed := true }
def FnExactComposeEditsUptoSaid : Prop := fnExactComposeEditsUptoRow.holds Try.pinned (OpenSpec.upto fnExactComposeEditsSpec)

/-- 'laws.FnExactInvertEdit', WHERE WHAT IT READS IS OF BULK AT MOST 1048576: true; the input reads as it did. -/
def fnExactInvertEditUptoRow : OpenClaim := { program := "ytmlckocmfoiobaa", sum := "2352da25554c2b5544c8a8cfe6846c18916a5ca54c86b8dd6cd714b8bc473d79", func := "loop.example/g00882/laws.FnExactInvertEdit", spec := "fnExactInvertEdit", apart := false, narrowed := true }
def FnExactInvertEditUptoSaid : Prop := fnExactInvertEditUptoRow.holds Try.pinned (OpenSpec.upto fnExactInvertEditSpec)

/-- 'laws.FnExactCountUntranslated', WHERE WHAT IT READS IS OF BULK AT MOST 1048576: true; the input reads as it did. -/
def fnExactCountUntranslatedUptoRow : OpenClaim := { program := "ytmlckocmfoiobaa", sum := "2352da25554c2b5544c8a8cfe6846c18916a5ca54c86b8dd6cd714b8bc473d79", func := "loop.example/g00882/laws.FnExactCountUntranslated", spec := "fnExactCountUntranslated", unfollowed := true, recurses := true, apart := false, narrowed := true }
def FnExactCountUntranslatedUptoSaid : Prop := fnExactCountUntranslatedUptoRow.holds Try.pinned (OpenSpec.upto fnExactCountUntranslatedSpec)

/-- 'laws.FnExactStrokeDigits', WHERE WHAT IT READS IS OF BULK AT MOST 1048576: true; the input reads as it did. -/
def fnExactStrokeDigitsUptoRow : OpenClaim := { program := "ytmlckocmfoiobaa", sum := "2352da25554c2b5544c8a8cfe6846c18916a5ca54c86b8dd6cd714b8bc473d79", func := "loop.example/g00882/laws.FnExactStrokeDigits", spec := "fnExactStrokeDigits", apart := false, narrowed := true }
def FnExactStrokeDigitsUptoSaid : Prop := fnExactStrokeDigitsUptoRow.holds Try.pinned (OpenSpec.upto fnExactStrokeDigitsSpec)

/-- 'laws.FnExactIsValidFolds', WHERE WHAT IT READS IS OF BULK AT MOST 1048576: true; the input reads as it did. -/
def fnExactIsValidFoldsUptoRow : OpenClaim := { program := "ytmlckocmfoiobaa", sum := "2352da25554c2b5544c8a8cfe6846c18916a5ca54c86b8dd6cd714b8bc473d79", func := "loop.example/g00882/laws.FnExactIsValidFolds", spec := "fnExactIsValidFolds", apart := false, narrowed := true }
def FnExactIsValidFoldsUptoSaid : Prop := fnExactIsValidFoldsUptoRow.holds Try.pinned (OpenSpec.upto fnExactIsValidFoldsSpec)

/-- 'laws.FnExactFoldInto', WHERE WHAT IT READS IS OF BULK AT MOST 1048576: true; the input reads as it did. -/
def fnExactFoldIntoUptoRow : OpenClaim := { program := "ytmlckocmfoiobaa", sum := "2352da25554c2b5544c8a8cfe6846c18916a5ca54c86b8dd6cd714b8bc473d79", func := "loop.example/g00882/laws.FnExactFoldInto", spec := "fnExactFoldInto", unfollowed := true, recurses := true, apart := false, narrowed := true }
def FnExactFoldIntoUptoSaid : Prop := fnExactFoldIntoUptoRow.holds Try.pinned (OpenSpec.upto fnExactFoldIntoSpec)

/-- 'laws.FnExactDecodeNumber', WHERE WHAT IT READS IS OF BULK AT MOST 1048576: true; the input reads as it did. -/
def fnExactDecodeNumberUptoRow : OpenClaim := { program := "ytmlckocmfoiobaa", sum := "2352da25554c2b5544c8a8cfe6846c18916a5ca54c86b8dd6cd714b8bc473d79", func := "loop.example/g00882/laws.FnExactDecodeNumber", spec := "fnExactDecodeNumber", apart := false, narrowed := true }
def FnExactDecodeNumberUptoSaid : Prop := fnExactDecodeNumberUptoRow.holds Try.pinned (OpenSpec.upto fnExactDecodeNumberSpec)

/-- 'laws.FnExactSuffixRule', WHERE WHAT IT READS IS OF BULK AT MOST 1048576: true; the input reads as it did. -/
def fnExactSuffixRuleUptoRow : OpenClaim := { program := "ytmlckocmfoiobaa", sum := "2352da25554c2b5544c8a8cfe6846c18916a5ca54c86b8dd6cd714b8bc473d79", func := "loop.example/g00882/laws.FnExactSuffixRule", spec := "fnExactSuffixRule", inPlace := ["internal/bytealg.IndexByteString"], unfollowed := true, recurses := true, apart := false, narrowed := true }
def FnExactSuffixRuleUptoSaid : Prop := fnExactSuffixRuleUptoRow.holds Try.pinned (OpenSpec.upto fnExactSuffixRuleSpec)

/-- 'laws.FnExactUnfold', WHERE WHAT IT READS IS OF BULK AT MOST 1048576: true; the input reads as it did. -/
def fnExactUnfoldUptoRow : OpenClaim := { program := "ytmlckocmfoiobaa", sum := "2352da25554c2b5544c8a8cfe6846c18916a5ca54c86b8dd6cd714b8bc473d79", func := "loop.example/g00882/laws.FnExactUnfold", spec := "fnExactUnfold", unfollowed := true, recurses := true, apart := false, narrowed := true }
def FnExactUnfoldUptoSaid : Prop := fnExactUnfoldUptoRow.holds Try.pinned (OpenSpec.upto fnExactUnfoldSpec)

end Rows
end Go.Proofs.Ytmlckocmfoiobaa
