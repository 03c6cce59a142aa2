/-
  CONTRACTS: the laws' own functions over slices of atoms: szAtomS, toAtomS, eqAtomS.
-/
import Derived.Test.YtdidgaibgkdjoaaGreatDoorBasB
import Derived.BigRegion
import Derived.Deep.DeepCutAuto
import Derived.Deep.RegionHeld3
import Derived.Lib.SmallJoins
namespace Go.Proofs.YtdidgaibgkdjoaaGreatDoor
open Go.RowKit

theorem Tryz.infoAtom : (Tryz.prog.info? 161).map (fun i => (i.zero, i.size, i.bytes)) = some (some (.agg #[.int .i64 0, .string ⟨#[]⟩]), 2, 24) := by kernel_rfl

end Go.Proofs.YtdidgaibgkdjoaaGreatDoor
