/-
  CONTRACTS over digit strings: areDigits, isNumber, grouped, GroupDigits, FormatOrdinal of the program and the reference.
-/
import Derived.Test.YtfjdbchffhbidaaDoorPlainNum
import Derived.Test.YtfjdbchffhbidaaDoorStrA
import Derived.Deep.QuietTactic
import Derived.BigQuiet
import Derived.IntWalk
namespace Go.Proofs.YtfjdbchffhbidaaDoor
open Go.RowKit

end Go.Proofs.YtfjdbchffhbidaaDoor
