/-
  CONTRACTS: number strokes of the program and the reference.
-/
import Derived.Test.YtfjdbchffhbidaaDoorSl
import Derived.Test.YtfjdbchffhbidaaDoorRev
import Derived.Test.YtfjdbchffhbidaaDoorStrA
import Derived.Deep.QuietTactic
import Derived.BigQuiet
import Derived.IntWalk
namespace Go.Proofs.YtfjdbchffhbidaaDoor
open Go.RowKit

set_option maxHeartbeats 400000 in
theorem IsValidStroke_any (s : Int) (w : World) :
    Calls Tryd.prog 132 #[.int .i64 s] w fun e w' => e = .returned (.bool (Pl.strokeB s)) ∧ w = w' := by
  go_enter Tryd.func132, Tryd.ntmps132
  go_wp2_with ((go_at_call 75; refine (in_any _ _ _ _).mono ?_; rintro e w' ⟨rfl, rfl⟩))
  go_ret
  exact ⟨rfl, rfl⟩

set_option maxHeartbeats 400000 in
theorem l2Good_any (s : Int) (w : World) :
    Calls Tryd.prog 107 #[.int .i64 s] w fun e w' => e = .returned (.bool (Pl.strokeB s)) ∧ w = w' := by
  go_enter Tryd.func107, Tryd.ntmps107
  go_wp2_with ((go_at_call 72; refine (l1In_any _ _ _ _).mono ?_; rintro e w' ⟨rfl, rfl⟩))
  go_ret
  exact ⟨rfl, rfl⟩

theorem bT {a b : Int} (h : (a == b) = true) : a = b := by simpa using h
theorem bF {a b : Int} (h : (a == b) = false) : ¬ a = b := by simpa using h

theorem nT {a b : Int} (h : (a == b) = true) : (a != b) = false := by simpa using h
theorem nF {a b : Int} (h : (a == b) = false) : (a != b) = true := by simpa using h

theorem written_empty (s : Int) : (Pl.written s).toList.isEmpty = !Pl.isNum s := by
  rw [← Pl.written_isNum s]; cases (Pl.written s).toList <;> rfl

end Go.Proofs.YtfjdbchffhbidaaDoor
