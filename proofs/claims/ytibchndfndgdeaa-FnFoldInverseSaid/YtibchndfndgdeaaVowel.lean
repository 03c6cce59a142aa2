/-
  CONTRACTS: isVowel, vowelGroups, VowelGroups of the program and the reference.
-/
import Derived.Test.YtibchndfndgdeaaPlainVow
import Derived.Test.YtibchndfndgdeaaNum
import Derived.Test.YtibchndfndgdeaaShelf
namespace Go.Proofs.Ytibchndfndgdeaa
open Go.RowKit

end Go.Proofs.Ytibchndfndgdeaa
