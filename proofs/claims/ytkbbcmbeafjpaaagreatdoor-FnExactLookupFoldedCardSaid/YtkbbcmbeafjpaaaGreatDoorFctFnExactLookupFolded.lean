/-
  CLOSED FACTS of the row of FnExactLookupFolded: what the program's text says of itself, by the kernel alone.
-/
import Derived.Test.YtkbbcmbeafjpaaaGreatDoorRows
import Derived.ProofKit
namespace Go.Proofs.YtkbbcmbeafjpaaaGreatDoor

set_option maxRecDepth 100000 in
theorem fctFnExactLookupFolded : joinedFacts Tryz.prog 7 Tryz.f7 Rows.fnExactLookupFoldedSpec Rows.fnExactLookupFoldedRow = true := by kernel_rfl

end Go.Proofs.YtkbbcmbeafjpaaaGreatDoor
