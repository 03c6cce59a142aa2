/-
  CLOSED FACTS of the row of FnExactShadowedEntries: what the program's text says of itself, by the kernel alone.
-/
import Derived.Test.YtdidgaibgkdjoaaGreatDoorRows
import Derived.ProofKit
namespace Go.Proofs.YtdidgaibgkdjoaaGreatDoor

set_option maxRecDepth 100000 in
theorem fctFnExactShadowedEntries : joinedFacts Tryz.prog 4 Tryz.f4 Rows.fnExactShadowedEntriesSpec Rows.fnExactShadowedEntriesRow = true := by kernel_rfl

end Go.Proofs.YtdidgaibgkdjoaaGreatDoor
