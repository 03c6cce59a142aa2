/-
  CONTRACTS over digit strings: areDigits, isNumber, grouped, GroupDigits, FormatOrdinal of the program and the reference.
-/
import Derived.Test.YtibchndfndgdeaaPlainNum
import Derived.Test.YtibchndfndgdeaaStrA
import Derived.Deep.QuietTactic
import Derived.BigQuiet
import Derived.IntWalk
namespace Go.Proofs.Ytibchndfndgdeaa
open Go.RowKit

end Go.Proofs.Ytibchndfndgdeaa
