/-
  CONTRACTS: isScreen, IsValidEdit, IsValidState of the program and the reference.
-/
import Derived.Test.YtkbbcmbeafjpaabDoorStrA
namespace Go.Proofs.YtkbbcmbeafjpaabDoor
open Go.RowKit

set_option maxHeartbeats 400000 in
theorem isScreen_any (s : ByteArray) (w : World) (hs : s.size ≤ maxLen) :
    Calls Tryd.prog 35 #[.string s] w fun e w' => e = .returned (.bool (Pl.isScreen s)) ∧ w = w' := by
  have hs' := hs
  unfold maxLen at hs
  go_enter Tryd.func35, Tryd.ntmps35
  go_wp2_with ((go_at_call 46; refine (isPrintable_any _ _ hs').mono ?_; rintro e w' ⟨rfl, rfl⟩))
  all_goals go_ret
  all_goals exact ⟨ret_bool (by simp_all [Pl.isScreen]; try omega), rfl⟩

set_option maxHeartbeats 400000 in
theorem l13Screen_any (s : ByteArray) (w : World) (hs : s.size ≤ maxLen) :
    Calls Tryd.prog 30 #[.string s] w fun e w' => e = .returned (.bool (Pl.isScreen s)) ∧ w = w' := by
  have hs' := hs
  unfold maxLen at hs
  go_enter Tryd.func30, Tryd.ntmps30
  go_wp2_with ((go_at_call 41; refine (l12Plain_any _ _ hs').mono ?_; rintro e w' ⟨rfl, rfl⟩))
  all_goals go_ret
  all_goals exact ⟨ret_bool (by simp_all [Pl.isScreen]; try omega), rfl⟩

set_option maxHeartbeats 400000 in
theorem IsValidEdit_any (b : Int) (t : ByteArray) (w : World) (hs : t.size ≤ maxLen) :
    Calls Tryd.prog 23 #[.agg #[.int .i64 b, .string t]] w fun e w' => e = .returned (.bool (Pl.validEdit b t)) ∧ Below w.heap.size w w' := by
  go_enter Tryd.func23, Tryd.ntmps23
  go_wp2_with (first | (go_at_call 34; refine (in_any _ _ _ _).mono ?_; rintro e w' ⟨rfl, rfl⟩) | (go_at_call 35; refine (isScreen_any _ _ hs).mono ?_; rintro e w' ⟨rfl, rfl⟩))
  all_goals go_ret
  all_goals exact ⟨ret_bool (by simp_all [Pl.validEdit]), (by repeat (first | with_reducible exact Below.refl _ _ | with_reducible assumption | with_reducible refine Below.alloc ?_ ?_ _ | with_reducible refine Below.setCell ?_ ?_ _ | with_reducible refine Below.drew ?_ | with_reducible refine below_drewN ?_ _ | with_reducible refine Below.trans ?_ (Below.mono (by assumption) ?_) | omega | ((repeat (first | rw [World.size_alloc] | rw [size_setCell] | rw [size_drewN] | rw [size_drew])); omega) | exact Nat.le_refl _ | (dsimp only; omega) | (simp [World.setCell]; omega)))⟩

set_option maxHeartbeats 400000 in
theorem l13Good_any (b : Int) (t : ByteArray) (w : World) (hs : t.size ≤ maxLen) :
    Calls Tryd.prog 18 #[.agg #[.int .i64 b, .string t]] w fun e w' => e = .returned (.bool (Pl.validEdit b t)) ∧ Below w.heap.size w w' := by
  go_enter Tryd.func18, Tryd.ntmps18
  go_wp2_with (first | (go_at_call 29; refine (l1In_any _ _ _ _).mono ?_; rintro e w' ⟨rfl, rfl⟩) | (go_at_call 30; refine (l13Screen_any _ _ hs).mono ?_; rintro e w' ⟨rfl, rfl⟩))
  all_goals go_ret
  all_goals exact ⟨ret_bool (by simp_all [Pl.validEdit]), (by repeat (first | with_reducible exact Below.refl _ _ | with_reducible assumption | with_reducible refine Below.alloc ?_ ?_ _ | with_reducible refine Below.setCell ?_ ?_ _ | with_reducible refine Below.drew ?_ | with_reducible refine below_drewN ?_ _ | with_reducible refine Below.trans ?_ (Below.mono (by assumption) ?_) | omega | ((repeat (first | rw [World.size_alloc] | rw [size_setCell] | rw [size_drewN] | rw [size_drew])); omega) | exact Nat.le_refl _ | (dsimp only; omega) | (simp [World.setCell]; omega)))⟩

set_option maxHeartbeats 400000 in
theorem toEdit_any (a : Int) (b : ByteArray) (w : World) :
    Calls Tryd.prog 15 #[.agg #[.int .i64 a, .string b]] w fun e w' => e = .returned (.agg #[.int .i64 a, .string b]) ∧ Below w.heap.size w w' := by
  go_enter Tryd.func15, Tryd.ntmps15
  go_wp2
  exact bodyPost_ret (v := .agg #[.int .i64 a, .string b]) (by simp [results, Tryd.results15, go_sem]) rfl ⟨rfl, (by repeat (first | with_reducible exact Below.refl _ _ | with_reducible assumption | with_reducible refine Below.alloc ?_ ?_ _ | with_reducible refine Below.setCell ?_ ?_ _ | with_reducible refine Below.drew ?_ | with_reducible refine below_drewN ?_ _ | with_reducible refine Below.trans ?_ (Below.mono (by assumption) ?_) | omega | ((repeat (first | rw [World.size_alloc] | rw [size_setCell] | rw [size_drewN] | rw [size_drew])); omega) | exact Nat.le_refl _ | (dsimp only; omega) | (simp [World.setCell]; omega)))⟩

end Go.Proofs.YtkbbcmbeafjpaabDoor
