/-
  CONTRACTS: SuffixRule of the program and of the reference.
-/
import Derived.Test.YtkbbcmbeafjpaabRule
namespace Go.Proofs.Ytkbbcmbeafjpaab
open Go.RowKit

end Go.Proofs.Ytkbbcmbeafjpaab
