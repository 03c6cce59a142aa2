/-
  CLOSED FACTS of the row of FnExactFewestPieces: what the program's text says of itself, by the kernel alone.
-/
import Derived.Test.YtkbbcmbeafjpaaaGreatDoorRows
import Derived.ProofKit
namespace Go.Proofs.YtkbbcmbeafjpaaaGreatDoor

set_option maxRecDepth 100000 in
theorem fctFnExactFewestPieces : joinedFacts Tryz.prog 6 Tryz.f6 Rows.fnExactFewestPiecesSpec Rows.fnExactFewestPiecesRow = true := by kernel_rfl

end Go.Proofs.YtkbbcmbeafjpaaaGreatDoor
