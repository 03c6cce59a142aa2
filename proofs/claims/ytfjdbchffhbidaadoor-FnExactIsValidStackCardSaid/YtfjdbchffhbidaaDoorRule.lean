/-
  CONTRACTS: the spelling rule of the program.
-/
import Derived.Test.YtfjdbchffhbidaaDoorSpell
namespace Go.Proofs.YtfjdbchffhbidaaDoor
open Go.RowKit

end Go.Proofs.YtfjdbchffhbidaaDoor
