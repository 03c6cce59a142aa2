/-
  PLAIN: what the looks at the sizes tell of a stack of layers.
-/
import Derived.Test.YtdidgaibgkdjoaaGreatDoorLayE
import Derived.Test.YtdidgaibgkdjoaaGreatDoorGrC
namespace Go.Proofs.YtdidgaibgkdjoaaGreatDoor

theorem fit_lay {l : List Lay} (h : LaysFit l) : ∀ q ∈ l, LayFit q := fun q hq => h.2 q hq

end Go.Proofs.YtdidgaibgkdjoaaGreatDoor
