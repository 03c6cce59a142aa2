/-
  CLOSED FACTS of the row of FnExactFoldOverrides: what the program's text says of itself, by the kernel alone.
-/
import Derived.Test.YtkbbcmbeafjpaaaGreatDoorRows
import Derived.ProofKit
namespace Go.Proofs.YtkbbcmbeafjpaaaGreatDoor

set_option maxRecDepth 100000 in
theorem fctFnExactFoldOverrides : joinedFacts Tryz.prog 8 Tryz.f8 Rows.fnExactFoldOverridesSpec Rows.fnExactFoldOverridesRow = true := by kernel_rfl

end Go.Proofs.YtkbbcmbeafjpaaaGreatDoor
