/-
  CONTRACTS: IsValidState, LastWord of the program and the reference.
-/
import Derived.Test.YtfjdbchffhbidaaDoorStrA
namespace Go.Proofs.YtfjdbchffhbidaaDoor
open Go.RowKit

end Go.Proofs.YtfjdbchffhbidaaDoor
