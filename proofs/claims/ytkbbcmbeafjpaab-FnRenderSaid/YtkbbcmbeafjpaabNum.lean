/-
  CONTRACTS over digit strings: areDigits, isNumber, grouped, GroupDigits, FormatOrdinal of the program and the reference.
-/
import Derived.Test.YtkbbcmbeafjpaabPlainNum
import Derived.Test.YtkbbcmbeafjpaabStrA
import Derived.Deep.QuietTactic
import Derived.BigQuiet
import Derived.IntWalk
namespace Go.Proofs.Ytkbbcmbeafjpaab
open Go.RowKit

end Go.Proofs.Ytkbbcmbeafjpaab
