/-
  CONTRACTS: SuffixRule of the program and of the reference.
-/
import Derived.Test.YtfjdbchffhbidaaRule
namespace Go.Proofs.Ytfjdbchffhbidaa
open Go.RowKit

end Go.Proofs.Ytfjdbchffhbidaa
