/-
  No cell of these rows narrows 'for every input' (looked for: loops, veiled, ifaces, maps, wideKeys, modest, calm, conditions, laid).
  DERIVED. THE GIVEN ROWS OF THIS SEAT. 2 by the template 'for every input the law returns true; each argument reads behind the call as it read before'; 0 by the template 'total and deterministic' (their statements: YtkbbcmbeafjpaabTotals.lean).
  GIVEN WITH THE SEED: the statements are not yours to turn. If you find one false, say at which input.
  Laid BY PROGRAM, IN A SANDBOX (cutbox-rows.mjs): the forced cells as the released guide's own fill.sh prints them over the translation 3874e15df04b1dda… (all of the seat's roots in one cut). By AI agents, Wed Nov 11 2026. No macro, syntax, notation, axiom, sorry.
-/
import Derived.Test.YtkbbcmbeafjpaabChecked
import GoSem.Claim
import GoSem.ClaimJoined
import GoSem.ClaimMapViews
import Derived.JoinedTies
import Derived.KernelRfl
namespace Go.Proofs.Ytkbbcmbeafjpaab
/- THE CELL 'sum', in the pinned program and in every row, IS THE sha256 OF THE DUMP (.gsa) THAT YtkbbcmbeafjpaabProg.lean LOADS. Nothing in Lean hashes anything: it is a label: what it is worth is what the hold of that sum in a sandbox is worth. -/
noncomputable def Try.pinned : Pinned := { name := "ytkbbcmbeafjpaab", sum := "3874e15df04b1ddafecb074de6fedc49cb028228c8eeaa808018a66363b5fdb0", checked := Try.checked }
namespace Rows
def none {H : Type} : Left H := { results := [], args := [] }

/-- 'laws.FnFoldInverse': WHATEVER THE INPUT: true; the input reads as it did. -/
def fnFoldInverseSpec : ChangeSpec := { name := "fnFoldInverse", fn := fun _ => fun
  | [d] => { results := [.lit (.bool true)], args := [d] }
  | _ => none }
def fnFoldInverseRow : OpenClaim := { program := "ytkbbcmbeafjpaab", sum := "3874e15df04b1ddafecb074de6fedc49cb028228c8eeaa808018a66363b5fdb0", func := "loop.example/g00882/laws.FnFoldInverse", spec := "fnFoldInverse", unfollowed := true, recurses := true, apart := false }
def FnFoldInverseSaid : Prop := fnFoldInverseRow.holds Try.pinned (OpenSpec.ofChange fnFoldInverseSpec)

/-- ITS FALSE NEIGHBOUR: 'it returns false'. Refute it at one input. -/
def fnFoldInverseWrong : ChangeSpec := { name := "fnFoldInverse", fn := fun _ => fun
  | [d] => { results := [.lit (.bool false)], args := [d] }
  | _ => none }
def FnFoldInverseWrongFalsely : Prop := fnFoldInverseRow.holds Try.pinned (OpenSpec.ofChange fnFoldInverseWrong)

/-- 'laws.FnRender': WHATEVER THE INPUT: true; the input reads as it did. -/
def fnRenderSpec : ChangeSpec := { name := "fnRender", fn := fun _ => fun
  | [d] => { results := [.lit (.bool true)], args := [d] }
  | _ => none }
def fnRenderRow : OpenClaim := { program := "ytkbbcmbeafjpaab", sum := "3874e15df04b1ddafecb074de6fedc49cb028228c8eeaa808018a66363b5fdb0", func := "loop.example/g00882/laws.FnRender", spec := "fnRender", inPlace := ["internal/bytealg.IndexByteString", "internal/bytealg.IndexString", "internal/abi.NoEscape", "internal/bytealg.MakeNoZero"], unfollowed := true, recurses := true, named := ["internal/bytealg.MaxLen"], apart := false }
def FnRenderSaid : Prop := fnRenderRow.holds Try.pinned (OpenSpec.ofChange fnRenderSpec)

/-- ITS FALSE NEIGHBOUR: 'it returns false'. Refute it at one input. -/
def fnRenderWrong : ChangeSpec := { name := "fnRender", fn := fun _ => fun
  | [d] => { results := [.lit (.bool false)], args := [d] }
  | _ => none }
def FnRenderWrongFalsely : Prop := fnRenderRow.holds Try.pinned (OpenSpec.ofChange fnRenderWrong)

/- THE SECOND FORM. 'bulk': how many values and letters a reading holds, each counted each time it is reached (what is shared counts as often as it is met; a slice's spare places count too). A statement '..UptoSaid' is the law's where the arguments, and the package variables that the reading takes, are together of bulk at most 1048576: NARROWER than '..Said'. Prove '..Said' where nothing that the law and all that it calls make is longer than what came in: it says more and counts as full. Else prove '..UptoSaid'. A law counts once. -/
mutual
def uptoBulk {H : Type} : DataW H → Nat
  | .lit (.string bytes) => bytes.length + 1
  | .lit _ => 1
  | .nil => 1
  | .ptr d => uptoBulk d + 1
  | .slice elems spare => uptoBulkAll elems + uptoBulkAll spare + 1
  | .agg parts => uptoBulkAll parts + 1
  | .iface _ d => uptoBulk d + 1
  | .map entries => uptoBulkEntries entries + 1
  | .held _ => 1
def uptoBulkAll {H : Type} : List (DataW H) → Nat
  | [] => 0
  | d :: r => uptoBulk d + uptoBulkAll r
def uptoBulkEntries {H : Type} : List (Lit × DataW H) → Nat
  | [] => 0
  | x :: r => uptoBulkEntry x + uptoBulkEntries r
def uptoBulkEntry {H : Type} : Lit × DataW H → Nat
  | (.string bytes, d) => bytes.length + uptoBulk d + 1
  | (_, d) => uptoBulk d + 1
 end
def uptoSmall : (H : Type) → List (DataW H) → Bool := fun _ ds => decide (uptoBulkAll ds ≤ 1048576)
def OpenSpec.upto (s : _root_.Go.ChangeSpec) : _root_.Go.OpenSpec := { _root_.Go.OpenSpec.ofChange s with cond := some uptoSmall }

/-- 'laws.FnFoldInverse', WHERE WHAT IT READS IS OF BULK AT MOST 1048576: true; the input reads as it did. -/
def fnFoldInverseUptoRow : OpenClaim := { program := "ytkbbcmbeafjpaab", sum := "3874e15df04b1ddafecb074de6fedc49cb028228c8eeaa808018a66363b5fdb0", func := "loop.example/g00882/laws.FnFoldInverse", spec := "fnFoldInverse", unfollowed := true, recurses := true, apart := false, narrowed := true }
def FnFoldInverseUptoSaid : Prop := fnFoldInverseUptoRow.holds Try.pinned (OpenSpec.upto fnFoldInverseSpec)

/-- 'laws.FnRender', WHERE WHAT IT READS IS OF BULK AT MOST 1048576: true; the input reads as it did. -/
def fnRenderUptoRow : OpenClaim := { program := "ytkbbcmbeafjpaab", sum := "3874e15df04b1ddafecb074de6fedc49cb028228c8eeaa808018a66363b5fdb0", func := "loop.example/g00882/laws.FnRender", spec := "fnRender", inPlace := ["internal/bytealg.IndexByteString", "internal/bytealg.IndexString", "internal/abi.NoEscape", "internal/bytealg.MakeNoZero"], unfollowed := true, recurses := true, named := ["internal/bytealg.MaxLen"], apart := false, narrowed := true }
def FnRenderUptoSaid : Prop := fnRenderUptoRow.holds Try.pinned (OpenSpec.upto fnRenderSpec)

end Rows
end Go.Proofs.Ytkbbcmbeafjpaab
