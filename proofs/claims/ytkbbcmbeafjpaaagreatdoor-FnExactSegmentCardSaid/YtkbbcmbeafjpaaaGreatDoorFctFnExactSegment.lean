/-
  CLOSED FACTS of the row of FnExactSegment: what the program's text says of itself, by the kernel alone.
-/
import Derived.Test.YtkbbcmbeafjpaaaGreatDoorRows
import Derived.ProofKit
namespace Go.Proofs.YtkbbcmbeafjpaaaGreatDoor

set_option maxRecDepth 100000 in
theorem fctFnExactSegment : joinedFacts Tryz.prog 5 Tryz.f5 Rows.fnExactSegmentSpec Rows.fnExactSegmentRow = true := by kernel_rfl

end Go.Proofs.YtkbbcmbeafjpaaaGreatDoor
