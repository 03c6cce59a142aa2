/-
  CONTRACTS: JoinSuffix of the program and of the reference.
-/
import Derived.Test.YtfjdbchffhbidaaDoorSufRule
import Derived.Test.YtfjdbchffhbidaaDoorPlainJoin
namespace Go.Proofs.YtfjdbchffhbidaaDoor
open Go.RowKit

end Go.Proofs.YtfjdbchffhbidaaDoor
