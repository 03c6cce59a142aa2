/-
  CONTRACTS: isScreen, IsValidEdit, IsValidState of the program and the reference.
-/
import Derived.Test.YtfakaeddkhajbaaStrA
namespace Go.Proofs.Ytfakaeddkhajbaa
open Go.RowKit

set_option maxHeartbeats 400000 in
theorem isScreen_any (s : ByteArray) (w : World) (hs : s.size ≤ maxLen) :
    Calls Try.prog 72 #[.string s] w fun e w' => e = .returned (.bool (Pl.isScreen s)) ∧ w = w' := by
  have hs' := hs
  unfold maxLen at hs
  go_enter Try.func72, Try.ntmps72
  go_wp2_with ((go_at_call 110; refine (isPrintable_any _ _ hs').mono ?_; rintro e w' ⟨rfl, rfl⟩))
  all_goals go_ret
  all_goals exact ⟨ret_bool (by simp_all [Pl.isScreen]; try omega), rfl⟩

set_option maxHeartbeats 400000 in
theorem l13Screen_any (s : ByteArray) (w : World) (hs : s.size ≤ maxLen) :
    Calls Try.prog 74 #[.string s] w fun e w' => e = .returned (.bool (Pl.isScreen s)) ∧ w = w' := by
  have hs' := hs
  unfold maxLen at hs
  go_enter Try.func74, Try.ntmps74
  go_wp2_with ((go_at_call 121; refine (l12Plain_any _ _ hs').mono ?_; rintro e w' ⟨rfl, rfl⟩))
  all_goals go_ret
  all_goals exact ⟨ret_bool (by simp_all [Pl.isScreen]; try omega), rfl⟩

set_option maxHeartbeats 400000 in
theorem IsValidEdit_any (b : Int) (t : ByteArray) (w : World) (hs : t.size ≤ maxLen) :
    Calls Try.prog 18 #[.agg #[.int .i64 b, .string t]] w fun e w' => e = .returned (.bool (Pl.validEdit b t)) ∧ Below w.heap.size w w' := by
  go_enter Try.func18, Try.ntmps18
  go_wp2_with (first | (go_at_call 76; refine (in_any _ _ _ _).mono ?_; rintro e w' ⟨rfl, rfl⟩) | (go_at_call 72; refine (isScreen_any _ _ hs).mono ?_; rintro e w' ⟨rfl, rfl⟩))
  all_goals go_ret
  all_goals exact ⟨ret_bool (by simp_all [Pl.validEdit]), (by repeat (first | with_reducible exact Below.refl _ _ | with_reducible assumption | with_reducible refine Below.alloc ?_ ?_ _ | with_reducible refine Below.setCell ?_ ?_ _ | with_reducible refine Below.drew ?_ | with_reducible refine below_drewN ?_ _ | with_reducible refine Below.trans ?_ (Below.mono (by assumption) ?_) | omega | ((repeat (first | rw [World.size_alloc] | rw [size_setCell] | rw [size_drewN] | rw [size_drew])); omega) | exact Nat.le_refl _ | (dsimp only; omega) | (simp [World.setCell]; omega)))⟩

set_option maxHeartbeats 400000 in
theorem l13Good_any (b : Int) (t : ByteArray) (w : World) (hs : t.size ≤ maxLen) :
    Calls Try.prog 78 #[.agg #[.int .i64 b, .string t]] w fun e w' => e = .returned (.bool (Pl.validEdit b t)) ∧ Below w.heap.size w w' := by
  go_enter Try.func78, Try.ntmps78
  go_wp2_with (first | (go_at_call 123; refine (l1In_any _ _ _ _).mono ?_; rintro e w' ⟨rfl, rfl⟩) | (go_at_call 74; refine (l13Screen_any _ _ hs).mono ?_; rintro e w' ⟨rfl, rfl⟩))
  all_goals go_ret
  all_goals exact ⟨ret_bool (by simp_all [Pl.validEdit]), (by repeat (first | with_reducible exact Below.refl _ _ | with_reducible assumption | with_reducible refine Below.alloc ?_ ?_ _ | with_reducible refine Below.setCell ?_ ?_ _ | with_reducible refine Below.drew ?_ | with_reducible refine below_drewN ?_ _ | with_reducible refine Below.trans ?_ (Below.mono (by assumption) ?_) | omega | ((repeat (first | rw [World.size_alloc] | rw [size_setCell] | rw [size_drewN] | rw [size_drew])); omega) | exact Nat.le_refl _ | (dsimp only; omega) | (simp [World.setCell]; omega)))⟩

set_option maxHeartbeats 400000 in
theorem specIsValidEdit_any (b : Int) (t : ByteArray) (w : World) (hs : t.size ≤ maxLen) :
    Calls Try.prog 22 #[.agg #[.int .i64 b, .string t]] w fun e w' => e = .returned (.bool (Pl.validEdit b t)) ∧ Below w.heap.size w w' := by
  go_enter Try.func22, Try.ntmps22
  go_wp2_with ((go_at_call 78; refine (l13Good_any _ _ _ hs).mono ?_; rintro e w1 ⟨rfl, hb1⟩; have hcf := bcell hb1; have hz1 := hb1.size; (repeat (first | simp only [World.size_alloc] at hz1 hcf | simp only [size_setCell] at hz1 hcf | simp only [size_drewN] at hz1 hcf | simp only [size_drew] at hz1 hcf)); obtain ⟨hc1, hf1⟩ := hcf; (try have hn1a : _ < w1.heap.size := Nat.lt_of_lt_of_le hn1a (by omega)); (try have hn1b : _ < w1.heap.size := Nat.lt_of_lt_of_le hn1b (by omega)); (try have hn1c : _ < w1.heap.size := Nat.lt_of_lt_of_le hn1c (by omega)); (try have hn1d : _ < w1.heap.size := Nat.lt_of_lt_of_le hn1d (by omega)); (try have hn1e : _ < w1.heap.size := Nat.lt_of_lt_of_le hn1e (by omega)); (try have ho1a : _ < w1.heap.size := Nat.lt_of_lt_of_le ho1a (by omega)); (try have ho1b : _ < w1.heap.size := Nat.lt_of_lt_of_le ho1b (by omega)); (try have ho1c : _ < w1.heap.size := Nat.lt_of_lt_of_le ho1c (by omega)); (try have ho1d : _ < w1.heap.size := Nat.lt_of_lt_of_le ho1d (by omega)); (try have ho1e : _ < w1.heap.size := Nat.lt_of_lt_of_le ho1e (by omega)); (try have ho1a := hn1a); (try have ho1b := hn1b); (try have ho1c := hn1c); (try have ho1d := hn1d); (try have ho1e := hn1e); (try have hn1a := Nat.lt_of_succ_le hz1); (try have hn1b := Nat.lt_of_succ_lt hn1a); (try have hn1c := Nat.lt_of_succ_lt hn1b); (try have hn1d := Nat.lt_of_succ_lt hn1c); (try have hn1e := Nat.lt_of_succ_lt hn1d); (try have htA : w.heap.size < w1.heap.size := by omega)))
  go_ret
  exact ⟨rfl, (by repeat (first | with_reducible exact Below.refl _ _ | with_reducible assumption | with_reducible refine Below.alloc ?_ ?_ _ | with_reducible refine Below.setCell ?_ ?_ _ | with_reducible refine Below.drew ?_ | with_reducible refine below_drewN ?_ _ | with_reducible refine Below.trans ?_ (Below.mono (by assumption) ?_) | omega | ((repeat (first | rw [World.size_alloc] | rw [size_setCell] | rw [size_drewN] | rw [size_drew])); omega) | exact Nat.le_refl _ | (dsimp only; omega) | (simp [World.setCell]; omega)))⟩

end Go.Proofs.Ytfakaeddkhajbaa
