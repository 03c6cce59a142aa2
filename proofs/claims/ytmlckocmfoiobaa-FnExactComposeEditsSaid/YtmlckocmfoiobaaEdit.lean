/-
  CONTRACTS: isScreen, IsValidEdit, IsValidState of the program and the reference.
-/
import Derived.Test.YtmlckocmfoiobaaStrA
namespace Go.Proofs.Ytmlckocmfoiobaa
open Go.RowKit

set_option maxHeartbeats 400000 in
theorem isScreen_any (s : ByteArray) (w : World) (hs : s.size ≤ maxLen) :
    Calls Try.prog 99 #[.string s] w fun e w' => e = .returned (.bool (Pl.isScreen s)) ∧ w = w' := by
  have hs' := hs
  unfold maxLen at hs
  go_enter Try.func99, Try.ntmps99
  go_wp2_with ((go_at_call 94; refine (isPrintable_any _ _ hs').mono ?_; rintro e w' ⟨rfl, rfl⟩))
  all_goals go_ret
  all_goals exact ⟨ret_bool (by simp_all [Pl.isScreen]; try omega), rfl⟩

set_option maxHeartbeats 400000 in
theorem l13Screen_any (s : ByteArray) (w : World) (hs : s.size ≤ maxLen) :
    Calls Try.prog 98 #[.string s] w fun e w' => e = .returned (.bool (Pl.isScreen s)) ∧ w = w' := by
  have hs' := hs
  unfold maxLen at hs
  go_enter Try.func98, Try.ntmps98
  go_wp2_with ((go_at_call 93; refine (l12Plain_any _ _ hs').mono ?_; rintro e w' ⟨rfl, rfl⟩))
  all_goals go_ret
  all_goals exact ⟨ret_bool (by simp_all [Pl.isScreen]; try omega), rfl⟩

set_option maxHeartbeats 400000 in
theorem IsValidEdit_any (b : Int) (t : ByteArray) (w : World) (hs : t.size ≤ maxLen) :
    Calls Try.prog 66 #[.agg #[.int .i64 b, .string t]] w fun e w' => e = .returned (.bool (Pl.validEdit b t)) ∧ Below w.heap.size w w' := by
  go_enter Try.func66, Try.ntmps66
  go_wp2_with (first | (go_at_call 95; refine (in_any _ _ _ _).mono ?_; rintro e w' ⟨rfl, rfl⟩) | (go_at_call 99; refine (isScreen_any _ _ hs).mono ?_; rintro e w' ⟨rfl, rfl⟩))
  all_goals go_ret
  all_goals exact ⟨ret_bool (by simp_all [Pl.validEdit]), (by repeat (first | with_reducible exact Below.refl _ _ | with_reducible assumption | with_reducible refine Below.alloc ?_ ?_ _ | with_reducible refine Below.setCell ?_ ?_ _ | with_reducible refine Below.drew ?_ | with_reducible refine below_drewN ?_ _ | with_reducible refine Below.trans ?_ (Below.mono (by assumption) ?_) | omega | ((repeat (first | rw [World.size_alloc] | rw [size_setCell] | rw [size_drewN] | rw [size_drew])); omega) | exact Nat.le_refl _ | (dsimp only; omega) | (simp [World.setCell]; omega)))⟩

set_option maxHeartbeats 400000 in
theorem l13Good_any (b : Int) (t : ByteArray) (w : World) (hs : t.size ≤ maxLen) :
    Calls Try.prog 65 #[.agg #[.int .i64 b, .string t]] w fun e w' => e = .returned (.bool (Pl.validEdit b t)) ∧ Below w.heap.size w w' := by
  go_enter Try.func65, Try.ntmps65
  go_wp2_with (first | (go_at_call 87; refine (l1In_any _ _ _ _).mono ?_; rintro e w' ⟨rfl, rfl⟩) | (go_at_call 98; refine (l13Screen_any _ _ hs).mono ?_; rintro e w' ⟨rfl, rfl⟩))
  all_goals go_ret
  all_goals exact ⟨ret_bool (by simp_all [Pl.validEdit]), (by repeat (first | with_reducible exact Below.refl _ _ | with_reducible assumption | with_reducible refine Below.alloc ?_ ?_ _ | with_reducible refine Below.setCell ?_ ?_ _ | with_reducible refine Below.drew ?_ | with_reducible refine below_drewN ?_ _ | with_reducible refine Below.trans ?_ (Below.mono (by assumption) ?_) | omega | ((repeat (first | rw [World.size_alloc] | rw [size_setCell] | rw [size_drewN] | rw [size_drew])); omega) | exact Nat.le_refl _ | (dsimp only; omega) | (simp [World.setCell]; omega)))⟩

set_option maxHeartbeats 400000 in
theorem toEdit_any (a : Int) (b : ByteArray) (w : World) :
    Calls Try.prog 24 #[.agg #[.int .i64 a, .string b]] w fun e w' => e = .returned (.agg #[.int .i64 a, .string b]) ∧ Below w.heap.size w w' := by
  go_enter Try.func24, Try.ntmps24
  go_wp2
  exact bodyPost_ret (v := .agg #[.int .i64 a, .string b]) (by simp [results, Try.results24, go_sem]) rfl ⟨rfl, (by repeat (first | with_reducible exact Below.refl _ _ | with_reducible assumption | with_reducible refine Below.alloc ?_ ?_ _ | with_reducible refine Below.setCell ?_ ?_ _ | with_reducible refine Below.drew ?_ | with_reducible refine below_drewN ?_ _ | with_reducible refine Below.trans ?_ (Below.mono (by assumption) ?_) | omega | ((repeat (first | rw [World.size_alloc] | rw [size_setCell] | rw [size_drewN] | rw [size_drew])); omega) | exact Nat.le_refl _ | (dsimp only; omega) | (simp [World.setCell]; omega)))⟩

end Go.Proofs.Ytmlckocmfoiobaa
