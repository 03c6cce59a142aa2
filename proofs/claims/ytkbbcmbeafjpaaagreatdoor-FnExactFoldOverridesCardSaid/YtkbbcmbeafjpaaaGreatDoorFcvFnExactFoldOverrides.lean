/-
  CLOSED FACTS of the row of FnExactFoldOverrides: whether it goes by the program, by the kernel alone.
-/
import Derived.Test.YtkbbcmbeafjpaaaGreatDoorRows
import Derived.ProofKit
import GoSem.ClaimSeven
namespace Go.Proofs.YtkbbcmbeafjpaaaGreatDoor

set_option maxRecDepth 100000 in
theorem fcvFnExactFoldOverrides : false = Rows.fnExactFoldOverridesRow.goesBy Tryz.prog := by kernel_rfl

end Go.Proofs.YtkbbcmbeafjpaaaGreatDoor
