/-
  No cell of these rows narrows 'for every input' (looked for: loops, veiled, ifaces, maps, wideKeys, modest, calm, conditions, laid).
  DERIVED. THE GIVEN ROWS OF THIS SEAT. 11 by the template 'for every input the law returns true; each argument reads behind the call as it read before'; 0 by the template 'total and deterministic' (their statements: YtfakaeddkhajbaaTotals.lean).
  GIVEN WITH THE SEED: the statements are not yours to turn. If you find one false, say at which input.
  Laid BY PROGRAM, IN A SANDBOX (cutbox-rows.mjs): the forced cells as the released guide's own fill.sh prints them over the translation 04b5eb7dd0fe12b7… (all of the seat's roots in one cut). By AI agents, Wed Nov 11 2026. No macro, syntax, notation, axiom, sorry.
-/
import Derived.Test.YtfakaeddkhajbaaChecked
import GoSem.Claim
import GoSem.ClaimJoined
import GoSem.ClaimMapViews
import Derived.JoinedTies
import Derived.KernelRfl
namespace Go.Proofs.Ytfakaeddkhajbaa
/- THE CELL 'sum', in the pinned program and in every row, IS THE sha256 OF THE DUMP (.gsa) THAT YtfakaeddkhajbaaProg.lean LOADS. Nothing in Lean hashes anything: it is a label: what it is worth is what the hold of that sum in a sandbox is worth. -/
noncomputable def Try.pinned : Pinned := { name := "ytfakaeddkhajbaa", sum := "04b5eb7dd0fe12b7c120350ef296f6dcacef4d18c4734d36372b5f3641ca1f0f", checked := Try.checked }
namespace Rows
def none {H : Type} : Left H := { results := [], args := [] }

/-- 'laws.FnEdits': WHATEVER THE INPUT: true; the input reads as it did. -/
def fnEditsSpec : ChangeSpec := { name := "fnEdits", fn := fun _ => fun
  | [d] => { results := [.lit (.bool true)], args := [d] }
  | _ => none }
def fnEditsRow : OpenClaim := { program := "ytfakaeddkhajbaa", sum := "04b5eb7dd0fe12b7c120350ef296f6dcacef4d18c4734d36372b5f3641ca1f0f", func := "loop.example/g00882/laws.FnEdits", spec := "fnEdits", apart := false }
def FnEditsSaid : Prop := fnEditsRow.holds Try.pinned (OpenSpec.ofChange fnEditsSpec)

/-- ITS FALSE NEIGHBOUR: 'it returns false'. Refute it at one input. -/
def fnEditsWrong : ChangeSpec := { name := "fnEdits", fn := fun _ => fun
  | [d] => { results := [.lit (.bool false)], args := [d] }
  | _ => none }
def FnEditsWrongFalsely : Prop := fnEditsRow.holds Try.pinned (OpenSpec.ofChange fnEditsWrong)

/-- 'laws.FnComposeEdits': WHATEVER THE INPUT: true; the input reads as it did. -/
def fnComposeEditsSpec : ChangeSpec := { name := "fnComposeEdits", fn := fun _ => fun
  | [d] => { results := [.lit (.bool true)], args := [d] }
  | _ => none }
def fnComposeEditsRow : OpenClaim := { program := "ytfakaeddkhajbaa", sum := "04b5eb7dd0fe12b7c120350ef296f6dcacef4d18c4734d36372b5f3641ca1f0f", func := "loop.example/g00882/laws.FnComposeEdits", spec := "fnComposeEdits", apart := false }
def FnComposeEditsSaid : Prop := fnComposeEditsRow.holds Try.pinned (OpenSpec.ofChange fnComposeEditsSpec)

/-- ITS FALSE NEIGHBOUR: 'it returns false'. Refute it at one input. -/
def fnComposeEditsWrong : ChangeSpec := { name := "fnComposeEdits", fn := fun _ => fun
  | [d] => { results := [.lit (.bool false)], args := [d] }
  | _ => none }
def FnComposeEditsWrongFalsely : Prop := fnComposeEditsRow.holds Try.pinned (OpenSpec.ofChange fnComposeEditsWrong)

/-- 'laws.FnExactJoinSuffix': WHATEVER THE INPUT: true; the input reads as it did. -/
def fnExactJoinSuffixSpec : ChangeSpec := { name := "fnExactJoinSuffix", fn := fun _ => fun
  | [d1, d2] => { results := [.lit (.bool true)], args := [d1, d2] }
  | _ => none }
def fnExactJoinSuffixRow : OpenClaim := { program := "ytfakaeddkhajbaa", sum := "04b5eb7dd0fe12b7c120350ef296f6dcacef4d18c4734d36372b5f3641ca1f0f", func := "loop.example/g00882/laws.FnExactJoinSuffix", spec := "fnExactJoinSuffix", inPlace := ["internal/bytealg.IndexByteString"], unfollowed := true, recurses := true, apart := false }
def FnExactJoinSuffixSaid : Prop := fnExactJoinSuffixRow.holds Try.pinned (OpenSpec.ofChange fnExactJoinSuffixSpec)

/-- ITS FALSE NEIGHBOUR: 'it returns false'. Refute it at one input. -/
def fnExactJoinSuffixWrong : ChangeSpec := { name := "fnExactJoinSuffix", fn := fun _ => fun
  | [d1, d2] => { results := [.lit (.bool false)], args := [d1, d2] }
  | _ => none }
def FnExactJoinSuffixWrongFalsely : Prop := fnExactJoinSuffixRow.holds Try.pinned (OpenSpec.ofChange fnExactJoinSuffixWrong)

/-- 'laws.FnSuffixRule': WHATEVER THE INPUT: true; the input reads as it did. -/
def fnSuffixRuleSpec : ChangeSpec := { name := "fnSuffixRule", fn := fun _ => fun
  | [d] => { results := [.lit (.bool true)], args := [d] }
  | _ => none }
def fnSuffixRuleRow : OpenClaim := { program := "ytfakaeddkhajbaa", sum := "04b5eb7dd0fe12b7c120350ef296f6dcacef4d18c4734d36372b5f3641ca1f0f", func := "loop.example/g00882/laws.FnSuffixRule", spec := "fnSuffixRule", inPlace := ["internal/bytealg.IndexByteString"], unfollowed := true, recurses := true, apart := false }
def FnSuffixRuleSaid : Prop := fnSuffixRuleRow.holds Try.pinned (OpenSpec.ofChange fnSuffixRuleSpec)

/-- ITS FALSE NEIGHBOUR: 'it returns false'. Refute it at one input. -/
def fnSuffixRuleWrong : ChangeSpec := { name := "fnSuffixRule", fn := fun _ => fun
  | [d] => { results := [.lit (.bool false)], args := [d] }
  | _ => none }
def FnSuffixRuleWrongFalsely : Prop := fnSuffixRuleRow.holds Try.pinned (OpenSpec.ofChange fnSuffixRuleWrong)

/-- 'laws.FnFoldInverse': WHATEVER THE INPUT: true; the input reads as it did. -/
def fnFoldInverseSpec : ChangeSpec := { name := "fnFoldInverse", fn := fun _ => fun
  | [d] => { results := [.lit (.bool true)], args := [d] }
  | _ => none }
def fnFoldInverseRow : OpenClaim := { program := "ytfakaeddkhajbaa", sum := "04b5eb7dd0fe12b7c120350ef296f6dcacef4d18c4734d36372b5f3641ca1f0f", func := "loop.example/g00882/laws.FnFoldInverse", spec := "fnFoldInverse", unfollowed := true, recurses := true, apart := false }
def FnFoldInverseSaid : Prop := fnFoldInverseRow.holds Try.pinned (OpenSpec.ofChange fnFoldInverseSpec)

/-- ITS FALSE NEIGHBOUR: 'it returns false'. Refute it at one input. -/
def fnFoldInverseWrong : ChangeSpec := { name := "fnFoldInverse", fn := fun _ => fun
  | [d] => { results := [.lit (.bool false)], args := [d] }
  | _ => none }
def FnFoldInverseWrongFalsely : Prop := fnFoldInverseRow.holds Try.pinned (OpenSpec.ofChange fnFoldInverseWrong)

/-- 'laws.FnExactApplyAtom': WHATEVER THE INPUT: true; the input reads as it did. -/
def fnExactApplyAtomSpec : ChangeSpec := { name := "fnExactApplyAtom", fn := fun _ => fun
  | [d1, d2] => { results := [.lit (.bool true)], args := [d1, d2] }
  | _ => none }
def fnExactApplyAtomRow : OpenClaim := { program := "ytfakaeddkhajbaa", sum := "04b5eb7dd0fe12b7c120350ef296f6dcacef4d18c4734d36372b5f3641ca1f0f", func := "loop.example/g00882/laws.FnExactApplyAtom", spec := "fnExactApplyAtom", inPlace := ["internal/bytealg.IndexByteString", "internal/bytealg.IndexString"], unfollowed := true, recurses := true, named := ["internal/bytealg.MaxLen"], apart := false }
def FnExactApplyAtomSaid : Prop := fnExactApplyAtomRow.holds Try.pinned (OpenSpec.ofChange fnExactApplyAtomSpec)

/-- ITS FALSE NEIGHBOUR: 'it returns false'. Refute it at one input. -/
def fnExactApplyAtomWrong : ChangeSpec := { name := "fnExactApplyAtom", fn := fun _ => fun
  | [d1, d2] => { results := [.lit (.bool false)], args := [d1, d2] }
  | _ => none }
def FnExactApplyAtomWrongFalsely : Prop := fnExactApplyAtomRow.holds Try.pinned (OpenSpec.ofChange fnExactApplyAtomWrong)

/-- 'laws.FnExactRender': WHATEVER THE INPUT: true; the input reads as it did. -/
def fnExactRenderSpec : ChangeSpec := { name := "fnExactRender", fn := fun _ => fun
  | [d] => { results := [.lit (.bool true)], args := [d] }
  | _ => none }
def fnExactRenderRow : OpenClaim := { program := "ytfakaeddkhajbaa", sum := "04b5eb7dd0fe12b7c120350ef296f6dcacef4d18c4734d36372b5f3641ca1f0f", func := "loop.example/g00882/laws.FnExactRender", spec := "fnExactRender", inPlace := ["internal/bytealg.IndexByteString", "internal/bytealg.IndexString"], unfollowed := true, recurses := true, named := ["internal/bytealg.MaxLen"], apart := false }
def FnExactRenderSaid : Prop := fnExactRenderRow.holds Try.pinned (OpenSpec.ofChange fnExactRenderSpec)

/-- ITS FALSE NEIGHBOUR: 'it returns false'. Refute it at one input. -/
def fnExactRenderWrong : ChangeSpec := { name := "fnExactRender", fn := fun _ => fun
  | [d] => { results := [.lit (.bool false)], args := [d] }
  | _ => none }
def FnExactRenderWrongFalsely : Prop := fnExactRenderRow.holds Try.pinned (OpenSpec.ofChange fnExactRenderWrong)

/-- 'laws.FnCapital': WHATEVER THE INPUT: true; the input reads as it did. -/
def fnCapitalSpec : ChangeSpec := { name := "fnCapital", fn := fun _ => fun
  | [d] => { results := [.lit (.bool true)], args := [d] }
  | _ => none }
def fnCapitalRow : OpenClaim := { program := "ytfakaeddkhajbaa", sum := "04b5eb7dd0fe12b7c120350ef296f6dcacef4d18c4734d36372b5f3641ca1f0f", func := "loop.example/g00882/laws.FnCapital", spec := "fnCapital", inPlace := ["internal/bytealg.IndexByteString", "internal/bytealg.IndexString"], unfollowed := true, recurses := true, named := ["internal/bytealg.MaxLen"], apart := false }
def FnCapitalSaid : Prop := fnCapitalRow.holds Try.pinned (OpenSpec.ofChange fnCapitalSpec)

/-- ITS FALSE NEIGHBOUR: 'it returns false'. Refute it at one input. -/
def fnCapitalWrong : ChangeSpec := { name := "fnCapital", fn := fun _ => fun
  | [d] => { results := [.lit (.bool false)], args := [d] }
  | _ => none }
def FnCapitalWrongFalsely : Prop := fnCapitalRow.holds Try.pinned (OpenSpec.ofChange fnCapitalWrong)

/-- 'laws.FnExactApplyAtoms': WHATEVER THE INPUT: true; the input reads as it did. -/
def fnExactApplyAtomsSpec : ChangeSpec := { name := "fnExactApplyAtoms", fn := fun _ => fun
  | [d1, d2] => { results := [.lit (.bool true)], args := [d1, d2] }
  | _ => none }
def fnExactApplyAtomsRow : OpenClaim := { program := "ytfakaeddkhajbaa", sum := "04b5eb7dd0fe12b7c120350ef296f6dcacef4d18c4734d36372b5f3641ca1f0f", func := "loop.example/g00882/laws.FnExactApplyAtoms", spec := "fnExactApplyAtoms", inPlace := ["internal/bytealg.IndexByteString", "internal/bytealg.IndexString"], unfollowed := true, recurses := true, named := ["internal/bytealg.MaxLen"], apart := false }
def FnExactApplyAtomsSaid : Prop := fnExactApplyAtomsRow.holds Try.pinned (OpenSpec.ofChange fnExactApplyAtomsSpec)

/-- ITS FALSE NEIGHBOUR: 'it returns false'. Refute it at one input. -/
def fnExactApplyAtomsWrong : ChangeSpec := { name := "fnExactApplyAtoms", fn := fun _ => fun
  | [d1, d2] => { results := [.lit (.bool false)], args := [d1, d2] }
  | _ => none }
def FnExactApplyAtomsWrongFalsely : Prop := fnExactApplyAtomsRow.holds Try.pinned (OpenSpec.ofChange fnExactApplyAtomsWrong)

/-- 'laws.FnFormat': WHATEVER THE INPUT: true; the input reads as it did. -/
def fnFormatSpec : ChangeSpec := { name := "fnFormat", fn := fun _ => fun
  | [d] => { results := [.lit (.bool true)], args := [d] }
  | _ => none }
def fnFormatRow : OpenClaim := { program := "ytfakaeddkhajbaa", sum := "04b5eb7dd0fe12b7c120350ef296f6dcacef4d18c4734d36372b5f3641ca1f0f", func := "loop.example/g00882/laws.FnFormat", spec := "fnFormat", inPlace := ["internal/bytealg.IndexByteString", "internal/bytealg.IndexString"], unfollowed := true, recurses := true, named := ["internal/bytealg.MaxLen"], apart := false }
def FnFormatSaid : Prop := fnFormatRow.holds Try.pinned (OpenSpec.ofChange fnFormatSpec)

/-- ITS FALSE NEIGHBOUR: 'it returns false'. Refute it at one input. -/
def fnFormatWrong : ChangeSpec := { name := "fnFormat", fn := fun _ => fun
  | [d] => { results := [.lit (.bool false)], args := [d] }
  | _ => none }
def FnFormatWrongFalsely : Prop := fnFormatRow.holds Try.pinned (OpenSpec.ofChange fnFormatWrong)

/-- 'laws.FnExactSplitSuffix': WHATEVER THE INPUT: true; the input reads as it did. -/
def fnExactSplitSuffixSpec : ChangeSpec := { name := "fnExactSplitSuffix", fn := fun _ => fun
  | [d1, d2] => { results := [.lit (.bool true)], args := [d1, d2] }
  | _ => none }
def fnExactSplitSuffixRow : OpenClaim := { program := "ytfakaeddkhajbaa", sum := "04b5eb7dd0fe12b7c120350ef296f6dcacef4d18c4734d36372b5f3641ca1f0f", func := "loop.example/g00882/laws.FnExactSplitSuffix", spec := "fnExactSplitSuffix", inPlace := ["internal/bytealg.IndexByteString"], unfollowed := true, recurses := true, apart := false }
def FnExactSplitSuffixSaid : Prop := fnExactSplitSuffixRow.holds Try.pinned (OpenSpec.ofChange fnExactSplitSuffixSpec)

/-- ITS FALSE NEIGHBOUR: 'it returns false'. Refute it at one input. -/
def fnExactSplitSuffixWrong : ChangeSpec := { name := "fnExactSplitSuffix", fn := fun _ => fun
  | [d1, d2] => { results := [.lit (.bool false)], args := [d1, d2] }
  | _ => none }
def FnExactSplitSuffixWrongFalsely : Prop := fnExactSplitSuffixRow.holds Try.pinned (OpenSpec.ofChange fnExactSplitSuffixWrong)

/- THE SECOND FORM. 'bulk': how many values and letters a reading holds, each counted each time it is reached (what is shared counts as often as it is met; a slice's spare places count too). A statement '..UptoSaid' is the law's where the arguments, and the package variables that the reading takes, are together of bulk at most 1048576: NARROWER than '..Said'. Prove '..Said' where nothing that the law and all that it calls make is longer than what came in: it says more and counts as full. Else prove '..UptoSaid'. A law counts once. -/
mutual
def uptoBulk {H : Type} : DataW H → Nat
  | .lit (.string bytes) => bytes.length + 1
  | .lit _ => 1
  | .nil => 1
  | .ptr d => uptoBulk d + 1
  | .slice elems spare => uptoBulkAll elems + uptoBulkAll spare + 1
  | .agg parts => uptoBulkAll parts + 1
  | .iface _ d => uptoBulk d + 1
  | .map entries => uptoBulkEntries entries + 1
  | .held _ => 1
def uptoBulkAll {H : Type} : List (DataW H) → Nat
  | [] => 0
  | d :: r => uptoBulk d + uptoBulkAll r
def uptoBulkEntries {H : Type} : List (Lit × DataW H) → Nat
  | [] => 0
  | x :: r => uptoBulkEntry x + uptoBulkEntries r
def uptoBulkEntry {H : Type} : Lit × DataW H → Nat
  | (.string bytes, d) => bytes.length + uptoBulk d + 1
  | (_, d) => uptoBulk d + 1
 end
def uptoSmall : (H : Type) → List (DataW H) → Bool := fun _ ds => decide (uptoBulkAll ds ≤ 1048576)
def OpenSpec.upto (s : _root_.Go.ChangeSpec) : _root_.Go.OpenSpec := { _root_.Go.OpenSpec.ofChange s with cond := some uptoSmall }

/-- 'laws.FnEdits', WHERE WHAT IT READS IS OF BULK AT MOST 1048576: true; the input reads as it did. -/
def fnEditsUptoRow : OpenClaim := { program := "ytfakaeddkhajbaa", sum := "04b5eb7dd0fe12b7c120350ef296f6dcacef4d18c4734d36372b5f3641ca1f0f", func := "loop.example/g00882/laws.FnEdits", spec := "fnEdits", apart := false, narrowed := true }
def FnEditsUptoSaid : Prop := fnEditsUptoRow.holds Try.pinned (OpenSpec.upto fnEditsSpec)

/-- 'laws.FnComposeEdits', WHERE WHAT IT READS IS OF BULK AT MOST 1048576: true; the input reads as it did. -/
def fnComposeEditsUptoRow : OpenClaim := { program := "ytfakaeddkhajbaa", sum := "04b5eb7dd0fe12b7c120350ef296f6dcacef4d18c4734d36372b5f3641ca1f0f", func := "loop.example/g00882/laws.FnComposeEdits", spec := "fnComposeEdits", apart := false, narrowed := true }
def FnComposeEditsUptoSaid : Prop := fnComposeEditsUptoRow.holds Try.pinned (OpenSpec.upto fnComposeEditsSpec)

/-- 'laws.FnExactJoinSuffix', WHERE WHAT IT READS IS OF BULK AT MOST 1048576: true; the input reads as it did. -/
def fnExactJoinSuffixUptoRow : OpenClaim := { program := "ytfakaeddkhajbaa", sum := "04b5eb7dd0fe12b7c120350ef296f6dcacef4d18c4734d36372b5f3641ca1f0f", func := "loop.example/g00882/laws.FnExactJoinSuffix", spec := "fnExactJoinSuffix", inPlace := ["internal/bytealg.IndexByteString"], unfollowed := true, recurses := true, apart := false, narrowed := true }
def FnExactJoinSuffixUptoSaid : Prop := fnExactJoinSuffixUptoRow.holds Try.pinned (OpenSpec.upto fnExactJoinSuffixSpec)

/-- 'laws.FnSuffixRule', WHERE WHAT IT READS IS OF BULK AT MOST 1048576: true; the input reads as it did. -/
def fnSuffixRuleUptoRow : OpenClaim := { program := "ytfakaeddkhajbaa", sum := "04b5eb7dd0fe12b7c120350ef296f6dcacef4d18c4734d36372b5f3641ca1f0f", func := "loop.example/g00882/laws.FnSuffixRule", spec := "fnSuffixRule", inPlace := ["internal/bytealg.IndexByteString"], unfollowed := true, recurses := true, apart := false, narrowed := true }
def FnSuffixRuleUptoSaid : Prop := fnSuffixRuleUptoRow.holds Try.pinned (OpenSpec.upto fnSuffixRuleSpec)

/-- 'laws.FnFoldInverse', WHERE WHAT IT READS IS OF BULK AT MOST 1048576: true; the input reads as it did. -/
def fnFoldInverseUptoRow : OpenClaim := { program := "ytfakaeddkhajbaa", sum := "04b5eb7dd0fe12b7c120350ef296f6dcacef4d18c4734d36372b5f3641ca1f0f", func := "loop.example/g00882/laws.FnFoldInverse", spec := "fnFoldInverse", unfollowed := true, recurses := true, apart := false, narrowed := true }
def FnFoldInverseUptoSaid : Prop := fnFoldInverseUptoRow.holds Try.pinned (OpenSpec.upto fnFoldInverseSpec)

/-- 'laws.FnExactApplyAtom', WHERE WHAT IT READS IS OF BULK AT MOST 1048576: true; the input reads as it did. -/
def fnExactApplyAtomUptoRow : OpenClaim := { program := "ytfakaeddkhajbaa", sum := "04b5eb7dd0fe12b7c120350ef296f6dcacef4d18c4734d36372b5f3641ca1f0f", func := "loop.example/g00882/laws.FnExactApplyAtom", spec := "fnExactApplyAtom", inPlace := ["internal/bytealg.IndexByteString", "internal/bytealg.IndexString"], unfollowed := true, recurses := true, named := ["internal/bytealg.MaxLen"], apart := false, narrowed := true }
def FnExactApplyAtomUptoSaid : Prop := fnExactApplyAtomUptoRow.holds Try.pinned (OpenSpec.upto fnExactApplyAtomSpec)

/-- 'laws.FnExactRender', WHERE WHAT IT READS IS OF BULK AT MOST 1048576: true; the input reads as it did. -/
def fnExactRenderUptoRow : OpenClaim := { program := "ytfakaeddkhajbaa", sum := "04b5eb7dd0fe12b7c120350ef296f6dcacef4d18c4734d36372b5f3641ca1f0f", func := "loop.example/g00882/laws.FnExactRender", spec := "fnExactRender", inPlace := ["internal/bytealg.IndexByteString", "internal/bytealg.IndexString"], unfollowed := true, recurses := true, named := ["internal/bytealg.MaxLen"], apart := false, narrowed := true }
def FnExactRenderUptoSaid : Prop := fnExactRenderUptoRow.holds Try.pinned (OpenSpec.upto fnExactRenderSpec)

/-- 'laws.FnCapital', WHERE WHAT IT READS IS OF BULK AT MOST 1048576: true; the input reads as it did. -/
def fnCapitalUptoRow : OpenClaim := { program := "ytfakaeddkhajbaa", sum := "04b5eb7dd0fe12b7c120350ef296f6dcacef4d18c4734d36372b5f3641ca1f0f", func := "loop.example/g00882/laws.FnCapital", spec := "fnCapital", inPlace := ["internal/bytealg.IndexByteString", "internal/bytealg.IndexString"], unfollowed := true, recurses := true, named := ["internal/bytealg.MaxLen"], apart := false, narrowed := true }
def FnCapitalUptoSaid : Prop := fnCapitalUptoRow.holds Try.pinned (OpenSpec.upto fnCapitalSpec)

/-- 'laws.FnExactApplyAtoms', WHERE WHAT IT READS IS OF BULK AT MOST 1048576: true; the input reads as it did. -/
def fnExactApplyAtomsUptoRow : OpenClaim := { program := "ytfakaeddkhajbaa", sum := "04b5eb7dd0fe12b7c120350ef296f6dcacef4d18c4734d36372b5f3641ca1f0f", func := "loop.example/g00882/laws.FnExactApplyAtoms", spec := "fnExactApplyAtoms", inPlace := ["internal/bytealg.IndexByteString", "internal/bytealg.IndexString"], unfollowed := true, recurses := true, named := ["internal/bytealg.MaxLen"], apart := false, narrowed := true }
def FnExactApplyAtomsUptoSaid : Prop := fnExactApplyAtomsUptoRow.holds Try.pinned (OpenSpec.upto fnExactApplyAtomsSpec)

/-- 'laws.FnFormat', WHERE WHAT IT READS IS OF BULK AT MOST 1048576: true; the input reads as it did. -/
def fnFormatUptoRow : OpenClaim := { program := "ytfakaeddkhajbaa", sum := "04b5eb7dd0fe12b7c120350ef296f6dcacef4d18c4734d36372b5f3641ca1f0f", func := "loop.example/g00882/laws.FnFormat", spec := "fnFormat", inPlace := ["internal/bytealg.IndexByteString", "internal/bytealg.IndexString"], unfollowed := true, recurses := true, named := ["internal/bytealg.MaxLen"], apart := false, narrowed := true }
def FnFormatUptoSaid : Prop := fnFormatUptoRow.holds Try.pinned (OpenSpec.upto fnFormatSpec)

/-- 'laws.FnExactSplitSuffix', WHERE WHAT IT READS IS OF BULK AT MOST 1048576: true; the input reads as it did. -/
def fnExactSplitSuffixUptoRow : OpenClaim := { program := "ytfakaeddkhajbaa", sum := "04b5eb7dd0fe12b7c120350ef296f6dcacef4d18c4734d36372b5f3641ca1f0f", func := "loop.example/g00882/laws.FnExactSplitSuffix", spec := "fnExactSplitSuffix", inPlace := ["internal/bytealg.IndexByteString"], unfollowed := true, recurses := true, apart := false, narrowed := true }
def FnExactSplitSuffixUptoSaid : Prop := fnExactSplitSuffixUptoRow.holds Try.pinned (OpenSpec.upto fnExactSplitSuffixSpec)

end Rows
end Go.Proofs.Ytfakaeddkhajbaa
