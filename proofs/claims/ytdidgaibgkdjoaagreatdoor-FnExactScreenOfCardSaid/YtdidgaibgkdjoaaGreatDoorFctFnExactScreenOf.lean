/-
  CLOSED FACTS of the row of FnExactScreenOf: what the program's text says of itself, by the kernel alone.
-/
import Derived.Test.YtdidgaibgkdjoaaGreatDoorRows
import Derived.ProofKit
namespace Go.Proofs.YtdidgaibgkdjoaaGreatDoor

set_option maxRecDepth 100000 in
theorem fctFnExactScreenOf : joinedFacts Tryz.prog 6 Tryz.f6 Rows.fnExactScreenOfSpec Rows.fnExactScreenOfRow = true := by kernel_rfl

end Go.Proofs.YtdidgaibgkdjoaaGreatDoor
