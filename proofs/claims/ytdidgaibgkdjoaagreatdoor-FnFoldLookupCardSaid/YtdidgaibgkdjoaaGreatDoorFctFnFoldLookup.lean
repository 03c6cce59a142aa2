/-
  CLOSED FACTS of the row of FnFoldLookup: what the program's text says of itself, by the kernel alone.
-/
import Derived.Test.YtdidgaibgkdjoaaGreatDoorRows
import Derived.ProofKit
namespace Go.Proofs.YtdidgaibgkdjoaaGreatDoor

set_option maxRecDepth 100000 in
theorem fctFnFoldLookup : joinedFacts Tryz.prog 5 Tryz.f5 Rows.fnFoldLookupSpec Rows.fnFoldLookupRow = true := by kernel_rfl

end Go.Proofs.YtdidgaibgkdjoaaGreatDoor
