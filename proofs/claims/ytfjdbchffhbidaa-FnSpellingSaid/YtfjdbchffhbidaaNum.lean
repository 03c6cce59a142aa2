/-
  CONTRACTS over digit strings: areDigits, isNumber, grouped, GroupDigits, FormatOrdinal of the program and the reference.
-/
import Derived.Test.YtfjdbchffhbidaaPlainNum
import Derived.Test.YtfjdbchffhbidaaStrA
import Derived.Deep.QuietTactic
import Derived.BigQuiet
import Derived.IntWalk
namespace Go.Proofs.Ytfjdbchffhbidaa
open Go.RowKit

end Go.Proofs.Ytfjdbchffhbidaa
