/-
  CLOSED FACTS of the program: its main function and what it looks at, by the kernel alone.
-/
import Derived.Test.YtdidgaibgkdjoaaGreatDoorRows
import Derived.ProofKit
import GoSem.ClaimSeven
namespace Go.Proofs.YtdidgaibgkdjoaaGreatDoor
set_option maxRecDepth 100000

theorem fcMain : Tryz.prog.mainIs = some ((true, "70eabb1b7a533be697576e121598ac2897fd501f92ee71b84b46e17736223434").1, (true, "70eabb1b7a533be697576e121598ac2897fd501f92ee71b84b46e17736223434").2.toList) := by kernel_rfl
theorem fcLooks : false = Tryz.prog.looks [] := by kernel_rfl

end Go.Proofs.YtdidgaibgkdjoaaGreatDoor
