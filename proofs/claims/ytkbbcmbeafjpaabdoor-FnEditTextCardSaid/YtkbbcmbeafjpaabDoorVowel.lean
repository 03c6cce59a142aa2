/-
  CONTRACTS: isVowel, vowelGroups, VowelGroups of the program and the reference.
-/
import Derived.Test.YtkbbcmbeafjpaabDoorPlainVow
import Derived.Test.YtkbbcmbeafjpaabDoorNum
import Derived.Test.YtkbbcmbeafjpaabDoorShelf
namespace Go.Proofs.YtkbbcmbeafjpaabDoor
open Go.RowKit

end Go.Proofs.YtkbbcmbeafjpaabDoor
