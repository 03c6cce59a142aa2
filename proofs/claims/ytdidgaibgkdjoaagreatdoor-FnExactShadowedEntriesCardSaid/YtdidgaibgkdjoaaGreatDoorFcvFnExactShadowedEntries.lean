/-
  CLOSED FACTS of the row of FnExactShadowedEntries: whether it goes by the program, by the kernel alone.
-/
import Derived.Test.YtdidgaibgkdjoaaGreatDoorRows
import Derived.ProofKit
import GoSem.ClaimSeven
namespace Go.Proofs.YtdidgaibgkdjoaaGreatDoor

set_option maxRecDepth 100000 in
theorem fcvFnExactShadowedEntries : false = Rows.fnExactShadowedEntriesRow.goesBy Tryz.prog := by kernel_rfl

end Go.Proofs.YtdidgaibgkdjoaaGreatDoor
