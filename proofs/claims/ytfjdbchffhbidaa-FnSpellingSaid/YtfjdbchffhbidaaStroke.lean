/-
  CONTRACTS: number strokes of the program and the reference.
-/
import Derived.Test.YtfjdbchffhbidaaSl
import Derived.Test.YtfjdbchffhbidaaRev
import Derived.Test.YtfjdbchffhbidaaStrA
import Derived.Deep.QuietTactic
import Derived.BigQuiet
import Derived.IntWalk
namespace Go.Proofs.Ytfjdbchffhbidaa
open Go.RowKit

set_option maxHeartbeats 400000 in
theorem IsValidStroke_any (s : Int) (w : World) :
    Calls Try.prog 83 #[.int .i64 s] w fun e w' => e = .returned (.bool (Pl.strokeB s)) ∧ w = w' := by
  go_enter Try.func83, Try.ntmps83
  go_wp2_with ((go_at_call 46; refine (in_any _ _ _ _).mono ?_; rintro e w' ⟨rfl, rfl⟩))
  go_ret
  exact ⟨rfl, rfl⟩

set_option maxHeartbeats 400000 in
theorem l2Good_any (s : Int) (w : World) :
    Calls Try.prog 85 #[.int .i64 s] w fun e w' => e = .returned (.bool (Pl.strokeB s)) ∧ w = w' := by
  go_enter Try.func85, Try.ntmps85
  go_wp2_with ((go_at_call 74; refine (l1In_any _ _ _ _).mono ?_; rintro e w' ⟨rfl, rfl⟩))
  go_ret
  exact ⟨rfl, rfl⟩

theorem bT {a b : Int} (h : (a == b) = true) : a = b := by simpa using h
theorem bF {a b : Int} (h : (a == b) = false) : ¬ a = b := by simpa using h

theorem nT {a b : Int} (h : (a == b) = true) : (a != b) = false := by simpa using h
theorem nF {a b : Int} (h : (a == b) = false) : (a != b) = true := by simpa using h

theorem written_empty (s : Int) : (Pl.written s).toList.isEmpty = !Pl.isNum s := by
  rw [← Pl.written_isNum s]; cases (Pl.written s).toList <;> rfl

end Go.Proofs.Ytfjdbchffhbidaa
