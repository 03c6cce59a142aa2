/-
  CONTRACTS: LeastEdit, ApplyEdit of the program and the reference; eqEdit.
-/
import Derived.Test.YtkbbcmbeafjpaabDoorPlainEdit
import Derived.Test.YtkbbcmbeafjpaabDoorEdit
import Derived.Deep.QuietTactic
import Derived.BigQuiet
import Derived.IntWalk
namespace Go.Proofs.YtkbbcmbeafjpaabDoor
open Go.RowKit

set_option maxHeartbeats 400000 in
theorem eqEdit_same (b : Int) (t : ByteArray) (w : World) :
    Calls Tryd.prog 8 #[.agg #[.int .i64 b, .string t], .agg #[.int .i64 b, .string t]] w fun e w' => e = .returned (.bool true) ∧ Below w.heap.size w w' := by
  go_enter Tryd.func8, Tryd.ntmps8
  go_wp2
  go_ret
  exact ⟨rfl, (by repeat (first | with_reducible exact Below.refl _ _ | with_reducible assumption | with_reducible refine Below.alloc ?_ ?_ _ | with_reducible refine Below.setCell ?_ ?_ _ | with_reducible refine Below.drew ?_ | with_reducible refine below_drewN ?_ _ | with_reducible refine Below.trans ?_ (Below.mono (by assumption) ?_) | omega | ((repeat (first | rw [World.size_alloc] | rw [size_setCell] | rw [size_drewN] | rw [size_drew])); omega) | exact Nat.le_refl _ | (dsimp only; omega) | (simp [World.setCell]; omega)))⟩

end Go.Proofs.YtkbbcmbeafjpaabDoor
