/-
  CLOSED FACTS of the program: its main function and what it looks at, by the kernel alone.
-/
import Derived.Test.YtkbbcmbeafjpaaaGreatDoorRows
import Derived.ProofKit
import GoSem.ClaimSeven
namespace Go.Proofs.YtkbbcmbeafjpaaaGreatDoor
set_option maxRecDepth 100000

theorem fcMain : Tryz.prog.mainIs = some ((true, "0a055facdfed52634cc6e3afe02bf7d64c2c09defa06d1a19fab15cb4d895d9c").1, (true, "0a055facdfed52634cc6e3afe02bf7d64c2c09defa06d1a19fab15cb4d895d9c").2.toList) := by kernel_rfl
theorem fcLooks : false = Tryz.prog.looks [] := by kernel_rfl

end Go.Proofs.YtkbbcmbeafjpaaaGreatDoor
