/-
  CLOSED FACTS of the row of FnExactIsValidTranslator: whether it goes by the program, by the kernel alone.
-/
import Derived.Test.YtdidgaibgkdjoaaGreatDoorRows
import Derived.ProofKit
import GoSem.ClaimSeven
namespace Go.Proofs.YtdidgaibgkdjoaaGreatDoor

set_option maxRecDepth 100000 in
theorem fcvFnExactIsValidTranslator : false = Rows.fnExactIsValidTranslatorRow.goesBy Tryz.prog := by kernel_rfl

end Go.Proofs.YtdidgaibgkdjoaaGreatDoor
