/-
  CONTRACTS over digit strings: areDigits, isNumber, grouped, GroupDigits, FormatOrdinal of the program and the reference.
-/
import Derived.Test.YtkbbcmbeafjpaabDoorPlainNum
import Derived.Test.YtkbbcmbeafjpaabDoorStrA
import Derived.Deep.QuietTactic
import Derived.BigQuiet
import Derived.IntWalk
namespace Go.Proofs.YtkbbcmbeafjpaabDoor
open Go.RowKit

end Go.Proofs.YtkbbcmbeafjpaabDoor
