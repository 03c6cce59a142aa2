/-
  CONTRACTS: isVowel, vowelGroups, VowelGroups of the program and the reference.
-/
import Derived.Test.YtfjdbchffhbidaaDoorPlainVow
import Derived.Test.YtfjdbchffhbidaaDoorNum
import Derived.Test.YtfjdbchffhbidaaDoorShelf
namespace Go.Proofs.YtfjdbchffhbidaaDoor
open Go.RowKit

end Go.Proofs.YtfjdbchffhbidaaDoor
