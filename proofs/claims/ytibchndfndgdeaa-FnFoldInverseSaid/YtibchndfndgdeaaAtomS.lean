/-
  CONTRACTS: the laws' own functions over slices of atoms: szAtomS, toAtomS, eqAtomS.
-/
import Derived.Test.YtibchndfndgdeaaFoldS
import Derived.BigRegion
import Derived.Deep.DeepCutAuto
import Derived.Deep.RegionHeld3
import Derived.Lib.SmallJoins
namespace Go.Proofs.Ytibchndfndgdeaa
open Go.RowKit

theorem Try.infoAtom : (Try.prog.info? 75).map (fun i => (i.zero, i.size, i.bytes)) = some (some (.agg #[.int .i64 0, .string ⟨#[]⟩]), 2, 24) := by kernel_rfl

end Go.Proofs.Ytibchndfndgdeaa
