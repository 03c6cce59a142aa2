/-
  CONTRACTS: SuffixRule of the program and of the reference.
-/
import Derived.Test.YtfjdbchffhbidaaDoorRule
namespace Go.Proofs.YtfjdbchffhbidaaDoor
open Go.RowKit

end Go.Proofs.YtfjdbchffhbidaaDoor
