/-
  CLOSED FACTS of the row of FnExactLookupStack: what the program's text says of itself, by the kernel alone.
-/
import Derived.Test.YtkbbcmbeafjpaaaGreatDoorRows
import Derived.ProofKit
namespace Go.Proofs.YtkbbcmbeafjpaaaGreatDoor

set_option maxRecDepth 100000 in
theorem fctFnExactLookupStack : joinedFacts Tryz.prog 3 Tryz.f3 Rows.fnExactLookupStackSpec Rows.fnExactLookupStackRow = true := by kernel_rfl

end Go.Proofs.YtkbbcmbeafjpaaaGreatDoor
