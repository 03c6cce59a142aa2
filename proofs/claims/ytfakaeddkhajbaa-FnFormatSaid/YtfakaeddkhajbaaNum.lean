/-
  CONTRACTS over digit strings: areDigits, isNumber, grouped, GroupDigits, FormatOrdinal of the program and the reference.
-/
import Derived.Test.YtfakaeddkhajbaaPlainNum
import Derived.Test.YtfakaeddkhajbaaStrA
import Derived.Deep.QuietTactic
import Derived.BigQuiet
import Derived.IntWalk
namespace Go.Proofs.Ytfakaeddkhajbaa
open Go.RowKit

end Go.Proofs.Ytfakaeddkhajbaa
