/-
  CLOSED FACTS of the row of FnReverse: what the program's text says of itself, by the kernel alone.
-/
import Derived.Test.YtdidgaibgkdjoaaGreatDoorRows
import Derived.ProofKit
namespace Go.Proofs.YtdidgaibgkdjoaaGreatDoor

set_option maxRecDepth 100000 in
theorem fctFnReverse : joinedFacts Tryz.prog 3 Tryz.f3 Rows.fnReverseSpec Rows.fnReverseRow = true := by kernel_rfl

end Go.Proofs.YtdidgaibgkdjoaaGreatDoor
