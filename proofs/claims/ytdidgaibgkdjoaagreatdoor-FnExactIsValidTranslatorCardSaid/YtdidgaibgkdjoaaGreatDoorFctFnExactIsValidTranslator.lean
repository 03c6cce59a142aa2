/-
  CLOSED FACTS of the row of FnExactIsValidTranslator: what the program's text says of itself, by the kernel alone.
-/
import Derived.Test.YtdidgaibgkdjoaaGreatDoorRows
import Derived.ProofKit
namespace Go.Proofs.YtdidgaibgkdjoaaGreatDoor

set_option maxRecDepth 100000 in
theorem fctFnExactIsValidTranslator : joinedFacts Tryz.prog 7 Tryz.f7 Rows.fnExactIsValidTranslatorSpec Rows.fnExactIsValidTranslatorRow = true := by kernel_rfl

end Go.Proofs.YtdidgaibgkdjoaaGreatDoor
