/-
  CONTRACTS: the laws' own functions over slices of integers: toIntS, eqIntS, markIntS, heldIntS.
-/
import Derived.Test.YtibchndfndgdeaaSl
import Derived.Test.YtibchndfndgdeaaStrA
import Derived.Deep.QuietTactic
import Derived.BigQuiet
import Derived.IntWalk
namespace Go.Proofs.Ytibchndfndgdeaa
open Go.RowKit

theorem Try.infoInt : (Try.prog.info? 3).map (fun i => (i.zero, i.size, i.bytes)) = some (some (.int .i64 0), 1, 8) := by kernel_rfl

end Go.Proofs.Ytibchndfndgdeaa
