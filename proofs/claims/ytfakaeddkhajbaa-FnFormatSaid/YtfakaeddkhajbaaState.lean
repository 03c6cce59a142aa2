/-
  CONTRACTS: IsValidState, LastWord of the program and the reference.
-/
import Derived.Test.YtfakaeddkhajbaaStrA
namespace Go.Proofs.Ytfakaeddkhajbaa
open Go.RowKit

set_option maxHeartbeats 400000 in
theorem IsValidState_any (t : ByteArray) (j g : Bool) (c k : Int) (w : World) (hs : t.size ≤ maxLen) :
    Calls Try.prog 62 #[.agg #[.string t, .bool j, .bool g, .int .i64 c, .int .i64 k]] w fun e w' => e = .returned (.bool (Pl.validState t c k)) ∧ Below w.heap.size w w' := by
  have hs' := hs
  unfold maxLen at hs
  go_enter Try.func62, Try.ntmps62
  go_wp2_with (first | (go_at_call 76; refine (in_any _ _ _ _).mono ?_; rintro e w' ⟨rfl, rfl⟩) | (go_at_call 110; refine (isPrintable_any _ _ hs').mono ?_; rintro e w' ⟨rfl, rfl⟩))
  all_goals go_ret
  all_goals exact ⟨ret_bool (by simp_all [Pl.validState]; try omega), (by repeat (first | with_reducible exact Below.refl _ _ | with_reducible assumption | with_reducible refine Below.alloc ?_ ?_ _ | with_reducible refine Below.setCell ?_ ?_ _ | with_reducible refine Below.drew ?_ | with_reducible refine below_drewN ?_ _ | with_reducible refine Below.trans ?_ (Below.mono (by assumption) ?_) | omega | ((repeat (first | rw [World.size_alloc] | rw [size_setCell] | rw [size_drewN] | rw [size_drew])); omega) | exact Nat.le_refl _ | (dsimp only; omega) | (simp [World.setCell]; omega)))⟩

set_option maxHeartbeats 400000 in
theorem l12Good_any (t : ByteArray) (j g : Bool) (c k : Int) (w : World) (hs : t.size ≤ maxLen) :
    Calls Try.prog 98 #[.agg #[.string t, .bool j, .bool g, .int .i64 c, .int .i64 k]] w fun e w' => e = .returned (.bool (Pl.validState t c k)) ∧ Below w.heap.size w w' := by
  have hs' := hs
  unfold maxLen at hs
  go_enter Try.func98, Try.ntmps98
  go_wp2_with (first | (go_at_call 123; refine (l1In_any _ _ _ _).mono ?_; rintro e w' ⟨rfl, rfl⟩) | (go_at_call 121; refine (l12Plain_any _ _ hs').mono ?_; rintro e w' ⟨rfl, rfl⟩))
  all_goals go_ret
  all_goals exact ⟨ret_bool (by simp_all [Pl.validState]; try omega), (by repeat (first | with_reducible exact Below.refl _ _ | with_reducible assumption | with_reducible refine Below.alloc ?_ ?_ _ | with_reducible refine Below.setCell ?_ ?_ _ | with_reducible refine Below.drew ?_ | with_reducible refine below_drewN ?_ _ | with_reducible refine Below.trans ?_ (Below.mono (by assumption) ?_) | omega | ((repeat (first | rw [World.size_alloc] | rw [size_setCell] | rw [size_drewN] | rw [size_drew])); omega) | exact Nat.le_refl _ | (dsimp only; omega) | (simp [World.setCell]; omega)))⟩

set_option maxHeartbeats 400000 in
theorem specIsValidState_any (t : ByteArray) (j g : Bool) (c k : Int) (w : World) (hs : t.size ≤ maxLen) :
    Calls Try.prog 63 #[.agg #[.string t, .bool j, .bool g, .int .i64 c, .int .i64 k]] w fun e w' => e = .returned (.bool (Pl.validState t c k)) ∧ Below w.heap.size w w' := by
  go_enter Try.func63, Try.ntmps63
  go_wp2_with ((go_at_call 98; refine (l12Good_any _ _ _ _ _ _ hs).mono ?_; rintro e w1 ⟨rfl, hb1⟩; have hcf := bcell hb1; have hz1 := hb1.size; (repeat (first | simp only [World.size_alloc] at hz1 hcf | simp only [size_setCell] at hz1 hcf | simp only [size_drewN] at hz1 hcf | simp only [size_drew] at hz1 hcf)); obtain ⟨hc1, hf1⟩ := hcf; (try have hn1a : _ < w1.heap.size := Nat.lt_of_lt_of_le hn1a (by omega)); (try have hn1b : _ < w1.heap.size := Nat.lt_of_lt_of_le hn1b (by omega)); (try have hn1c : _ < w1.heap.size := Nat.lt_of_lt_of_le hn1c (by omega)); (try have hn1d : _ < w1.heap.size := Nat.lt_of_lt_of_le hn1d (by omega)); (try have hn1e : _ < w1.heap.size := Nat.lt_of_lt_of_le hn1e (by omega)); (try have ho1a : _ < w1.heap.size := Nat.lt_of_lt_of_le ho1a (by omega)); (try have ho1b : _ < w1.heap.size := Nat.lt_of_lt_of_le ho1b (by omega)); (try have ho1c : _ < w1.heap.size := Nat.lt_of_lt_of_le ho1c (by omega)); (try have ho1d : _ < w1.heap.size := Nat.lt_of_lt_of_le ho1d (by omega)); (try have ho1e : _ < w1.heap.size := Nat.lt_of_lt_of_le ho1e (by omega)); (try have ho1a := hn1a); (try have ho1b := hn1b); (try have ho1c := hn1c); (try have ho1d := hn1d); (try have ho1e := hn1e); (try have hn1a := Nat.lt_of_succ_le hz1); (try have hn1b := Nat.lt_of_succ_lt hn1a); (try have hn1c := Nat.lt_of_succ_lt hn1b); (try have hn1d := Nat.lt_of_succ_lt hn1c); (try have hn1e := Nat.lt_of_succ_lt hn1d); (try have htA : w.heap.size < w1.heap.size := by omega)))
  go_ret
  exact ⟨rfl, (by repeat (first | with_reducible exact Below.refl _ _ | with_reducible assumption | with_reducible refine Below.alloc ?_ ?_ _ | with_reducible refine Below.setCell ?_ ?_ _ | with_reducible refine Below.drew ?_ | with_reducible refine below_drewN ?_ _ | with_reducible refine Below.trans ?_ (Below.mono (by assumption) ?_) | omega | ((repeat (first | rw [World.size_alloc] | rw [size_setCell] | rw [size_drewN] | rw [size_drew])); omega) | exact Nat.le_refl _ | (dsimp only; omega) | (simp [World.setCell]; omega)))⟩

set_option maxHeartbeats 400000 in
theorem toState_any (a : ByteArray) (b : Bool) (c : Bool) (d : Int) (f : Int) (w : World) :
    Calls Try.prog 47 #[.agg #[.string a, .bool b, .bool c, .int .i64 d, .int .i64 f]] w fun e w' => e = .returned (.agg #[.string a, .bool b, .bool c, .int .i64 d, .int .i64 f]) ∧ Below w.heap.size w w' := by
  go_enter Try.func47, Try.ntmps47
  go_wp2
  exact bodyPost_ret (v := .agg #[.string a, .bool b, .bool c, .int .i64 d, .int .i64 f]) (by simp [results, Try.results47, go_sem]) rfl ⟨rfl, (by repeat (first | with_reducible exact Below.refl _ _ | with_reducible assumption | with_reducible refine Below.alloc ?_ ?_ _ | with_reducible refine Below.setCell ?_ ?_ _ | with_reducible refine Below.drew ?_ | with_reducible refine below_drewN ?_ _ | with_reducible refine Below.trans ?_ (Below.mono (by assumption) ?_) | omega | ((repeat (first | rw [World.size_alloc] | rw [size_setCell] | rw [size_drewN] | rw [size_drew])); omega) | exact Nat.le_refl _ | (dsimp only; omega) | (simp [World.setCell]; omega)))⟩

set_option maxHeartbeats 400000 in
theorem LastWord_any (t : ByteArray) (j g : Bool) (c k : Int) (w : World) (hs : t.size ≤ maxLen) :
    Calls Try.prog 57 #[.agg #[.string t, .bool j, .bool g, .int .i64 c, .int .i64 k]] w fun e w' => e = .returned (.tuple #[.string (Pl.lastWord t c k), .bool (Pl.validState t c k)]) ∧ Below w.heap.size w w' := by
  have hs' := hs
  unfold maxLen at hs
  cases hv : Pl.validState t c k
  · have E := Lib.hid (show Pl.lastWord t c k = ⟨#[]⟩ by simp [Pl.lastWord, hv])
    go_enter Try.func57, Try.ntmps57
    go_wp2_with ((go_at_call 62; refine (IsValidState_any _ _ _ _ _ _ hs').mono ?_; rintro e w1 ⟨rfl, hb1⟩; have hcf := bcell hb1; have hz1 := hb1.size; (repeat (first | simp only [World.size_alloc] at hz1 hcf | simp only [size_setCell] at hz1 hcf | simp only [size_drewN] at hz1 hcf | simp only [size_drew] at hz1 hcf)); obtain ⟨hc1, hf1⟩ := hcf; (try have hn1a : _ < w1.heap.size := Nat.lt_of_lt_of_le hn1a (by omega)); (try have hn1b : _ < w1.heap.size := Nat.lt_of_lt_of_le hn1b (by omega)); (try have hn1c : _ < w1.heap.size := Nat.lt_of_lt_of_le hn1c (by omega)); (try have hn1d : _ < w1.heap.size := Nat.lt_of_lt_of_le hn1d (by omega)); (try have hn1e : _ < w1.heap.size := Nat.lt_of_lt_of_le hn1e (by omega)); (try have ho1a : _ < w1.heap.size := Nat.lt_of_lt_of_le ho1a (by omega)); (try have ho1b : _ < w1.heap.size := Nat.lt_of_lt_of_le ho1b (by omega)); (try have ho1c : _ < w1.heap.size := Nat.lt_of_lt_of_le ho1c (by omega)); (try have ho1d : _ < w1.heap.size := Nat.lt_of_lt_of_le ho1d (by omega)); (try have ho1e : _ < w1.heap.size := Nat.lt_of_lt_of_le ho1e (by omega)); (try have ho1a := hn1a); (try have ho1b := hn1b); (try have ho1c := hn1c); (try have ho1d := hn1d); (try have ho1e := hn1e); (try have hn1a := Nat.lt_of_succ_le hz1); (try have hn1b := Nat.lt_of_succ_lt hn1a); (try have hn1c := Nat.lt_of_succ_lt hn1b); (try have hn1d := Nat.lt_of_succ_lt hn1c); (try have hn1e := Nat.lt_of_succ_lt hn1d); (try have htA : w.heap.size < w1.heap.size := by omega)))
    go_ret2
    exact ⟨ret_strb E.out.symm rfl, (by repeat (first | with_reducible exact Below.refl _ _ | with_reducible assumption | with_reducible refine Below.alloc ?_ ?_ _ | with_reducible refine Below.setCell ?_ ?_ _ | with_reducible refine Below.drew ?_ | with_reducible refine below_drewN ?_ _ | with_reducible refine Below.trans ?_ (Below.mono (by assumption) ?_) | omega | ((repeat (first | rw [World.size_alloc] | rw [size_setCell] | rw [size_drewN] | rw [size_drew])); omega) | exact Nat.le_refl _ | (dsimp only; omega) | (simp [World.setCell]; omega)))⟩
  · have E := Lib.hid (show Pl.lastWord t c k = t.extract k.toNat t.size by simp [Pl.lastWord, hv])
    obtain ⟨h0, h1⟩ := Pl.validState_k hv
    go_enter Try.func57, Try.ntmps57
    go_wp2_with ((go_at_call 62; refine (IsValidState_any _ _ _ _ _ _ hs').mono ?_; rintro e w1 ⟨rfl, hb1⟩; have hcf := bcell hb1; have hz1 := hb1.size; (repeat (first | simp only [World.size_alloc] at hz1 hcf | simp only [size_setCell] at hz1 hcf | simp only [size_drewN] at hz1 hcf | simp only [size_drew] at hz1 hcf)); obtain ⟨hc1, hf1⟩ := hcf; (try have hn1a : _ < w1.heap.size := Nat.lt_of_lt_of_le hn1a (by omega)); (try have hn1b : _ < w1.heap.size := Nat.lt_of_lt_of_le hn1b (by omega)); (try have hn1c : _ < w1.heap.size := Nat.lt_of_lt_of_le hn1c (by omega)); (try have hn1d : _ < w1.heap.size := Nat.lt_of_lt_of_le hn1d (by omega)); (try have hn1e : _ < w1.heap.size := Nat.lt_of_lt_of_le hn1e (by omega)); (try have ho1a : _ < w1.heap.size := Nat.lt_of_lt_of_le ho1a (by omega)); (try have ho1b : _ < w1.heap.size := Nat.lt_of_lt_of_le ho1b (by omega)); (try have ho1c : _ < w1.heap.size := Nat.lt_of_lt_of_le ho1c (by omega)); (try have ho1d : _ < w1.heap.size := Nat.lt_of_lt_of_le ho1d (by omega)); (try have ho1e : _ < w1.heap.size := Nat.lt_of_lt_of_le ho1e (by omega)); (try have ho1a := hn1a); (try have ho1b := hn1b); (try have ho1c := hn1c); (try have ho1d := hn1d); (try have ho1e := hn1e); (try have hn1a := Nat.lt_of_succ_le hz1); (try have hn1b := Nat.lt_of_succ_lt hn1a); (try have hn1c := Nat.lt_of_succ_lt hn1b); (try have hn1d := Nat.lt_of_succ_lt hn1c); (try have hn1e := Nat.lt_of_succ_lt hn1d); (try have htA : w.heap.size < w1.heap.size := by omega)))
    go_ret2
    exact ⟨ret_strb E.out.symm rfl, (by repeat (first | with_reducible exact Below.refl _ _ | with_reducible assumption | with_reducible refine Below.alloc ?_ ?_ _ | with_reducible refine Below.setCell ?_ ?_ _ | with_reducible refine Below.drew ?_ | with_reducible refine below_drewN ?_ _ | with_reducible refine Below.trans ?_ (Below.mono (by assumption) ?_) | omega | ((repeat (first | rw [World.size_alloc] | rw [size_setCell] | rw [size_drewN] | rw [size_drew])); omega) | exact Nat.le_refl _ | (dsimp only; omega) | (simp [World.setCell]; omega)))⟩

set_option maxHeartbeats 400000 in
theorem specLastWord_any (t : ByteArray) (j g : Bool) (c k : Int) (w : World) (hs : t.size ≤ maxLen) :
    Calls Try.prog 58 #[.agg #[.string t, .bool j, .bool g, .int .i64 c, .int .i64 k]] w fun e w' => e = .returned (.tuple #[.string (Pl.lastWord t c k), .bool (Pl.validState t c k)]) ∧ Below w.heap.size w w' := by
  have hs' := hs
  unfold maxLen at hs
  cases hv : Pl.validState t c k
  · have E := Lib.hid (show Pl.lastWord t c k = ⟨#[]⟩ by simp [Pl.lastWord, hv])
    go_enter Try.func58, Try.ntmps58
    go_wp2_with ((go_at_call 98; refine (l12Good_any _ _ _ _ _ _ hs').mono ?_; rintro e w1 ⟨rfl, hb1⟩; have hcf := bcell hb1; have hz1 := hb1.size; (repeat (first | simp only [World.size_alloc] at hz1 hcf | simp only [size_setCell] at hz1 hcf | simp only [size_drewN] at hz1 hcf | simp only [size_drew] at hz1 hcf)); obtain ⟨hc1, hf1⟩ := hcf; (try have hn1a : _ < w1.heap.size := Nat.lt_of_lt_of_le hn1a (by omega)); (try have hn1b : _ < w1.heap.size := Nat.lt_of_lt_of_le hn1b (by omega)); (try have hn1c : _ < w1.heap.size := Nat.lt_of_lt_of_le hn1c (by omega)); (try have hn1d : _ < w1.heap.size := Nat.lt_of_lt_of_le hn1d (by omega)); (try have hn1e : _ < w1.heap.size := Nat.lt_of_lt_of_le hn1e (by omega)); (try have ho1a : _ < w1.heap.size := Nat.lt_of_lt_of_le ho1a (by omega)); (try have ho1b : _ < w1.heap.size := Nat.lt_of_lt_of_le ho1b (by omega)); (try have ho1c : _ < w1.heap.size := Nat.lt_of_lt_of_le ho1c (by omega)); (try have ho1d : _ < w1.heap.size := Nat.lt_of_lt_of_le ho1d (by omega)); (try have ho1e : _ < w1.heap.size := Nat.lt_of_lt_of_le ho1e (by omega)); (try have ho1a := hn1a); (try have ho1b := hn1b); (try have ho1c := hn1c); (try have ho1d := hn1d); (try have ho1e := hn1e); (try have hn1a := Nat.lt_of_succ_le hz1); (try have hn1b := Nat.lt_of_succ_lt hn1a); (try have hn1c := Nat.lt_of_succ_lt hn1b); (try have hn1d := Nat.lt_of_succ_lt hn1c); (try have hn1e := Nat.lt_of_succ_lt hn1d); (try have htA : w.heap.size < w1.heap.size := by omega)))
    go_ret2
    exact ⟨ret_strb E.out.symm rfl, (by repeat (first | with_reducible exact Below.refl _ _ | with_reducible assumption | with_reducible refine Below.alloc ?_ ?_ _ | with_reducible refine Below.setCell ?_ ?_ _ | with_reducible refine Below.drew ?_ | with_reducible refine below_drewN ?_ _ | with_reducible refine Below.trans ?_ (Below.mono (by assumption) ?_) | omega | ((repeat (first | rw [World.size_alloc] | rw [size_setCell] | rw [size_drewN] | rw [size_drew])); omega) | exact Nat.le_refl _ | (dsimp only; omega) | (simp [World.setCell]; omega)))⟩
  · have E := Lib.hid (show Pl.lastWord t c k = t.extract k.toNat t.size by simp [Pl.lastWord, hv])
    obtain ⟨h0, h1⟩ := Pl.validState_k hv
    go_enter Try.func58, Try.ntmps58
    go_wp2_with ((go_at_call 98; refine (l12Good_any _ _ _ _ _ _ hs').mono ?_; rintro e w1 ⟨rfl, hb1⟩; have hcf := bcell hb1; have hz1 := hb1.size; (repeat (first | simp only [World.size_alloc] at hz1 hcf | simp only [size_setCell] at hz1 hcf | simp only [size_drewN] at hz1 hcf | simp only [size_drew] at hz1 hcf)); obtain ⟨hc1, hf1⟩ := hcf; (try have hn1a : _ < w1.heap.size := Nat.lt_of_lt_of_le hn1a (by omega)); (try have hn1b : _ < w1.heap.size := Nat.lt_of_lt_of_le hn1b (by omega)); (try have hn1c : _ < w1.heap.size := Nat.lt_of_lt_of_le hn1c (by omega)); (try have hn1d : _ < w1.heap.size := Nat.lt_of_lt_of_le hn1d (by omega)); (try have hn1e : _ < w1.heap.size := Nat.lt_of_lt_of_le hn1e (by omega)); (try have ho1a : _ < w1.heap.size := Nat.lt_of_lt_of_le ho1a (by omega)); (try have ho1b : _ < w1.heap.size := Nat.lt_of_lt_of_le ho1b (by omega)); (try have ho1c : _ < w1.heap.size := Nat.lt_of_lt_of_le ho1c (by omega)); (try have ho1d : _ < w1.heap.size := Nat.lt_of_lt_of_le ho1d (by omega)); (try have ho1e : _ < w1.heap.size := Nat.lt_of_lt_of_le ho1e (by omega)); (try have ho1a := hn1a); (try have ho1b := hn1b); (try have ho1c := hn1c); (try have ho1d := hn1d); (try have ho1e := hn1e); (try have hn1a := Nat.lt_of_succ_le hz1); (try have hn1b := Nat.lt_of_succ_lt hn1a); (try have hn1c := Nat.lt_of_succ_lt hn1b); (try have hn1d := Nat.lt_of_succ_lt hn1c); (try have hn1e := Nat.lt_of_succ_lt hn1d); (try have htA : w.heap.size < w1.heap.size := by omega)))
    go_ret2
    exact ⟨ret_strb E.out.symm rfl, (by repeat (first | with_reducible exact Below.refl _ _ | with_reducible assumption | with_reducible refine Below.alloc ?_ ?_ _ | with_reducible refine Below.setCell ?_ ?_ _ | with_reducible refine Below.drew ?_ | with_reducible refine below_drewN ?_ _ | with_reducible refine Below.trans ?_ (Below.mono (by assumption) ?_) | omega | ((repeat (first | rw [World.size_alloc] | rw [size_setCell] | rw [size_drewN] | rw [size_drew])); omega) | exact Nat.le_refl _ | (dsimp only; omega) | (simp [World.setCell]; omega)))⟩

set_option maxHeartbeats 400000 in
theorem l12New_any (t : ByteArray) (w : World) :
    Calls Try.prog 103 #[.string t] w fun e w' => e = .returned (.agg #[.string t, .bool t.toList.isEmpty, .bool false, .int .i64 0, .int .i64 t.size]) ∧ Below w.heap.size w w' := by
  go_enter Try.func103, Try.ntmps103
  go_wp2
  exact bodyPost_ret (v := .agg #[.string t, .bool t.toList.isEmpty, .bool false, .int .i64 0, .int .i64 t.size]) (by simp [results, Try.results103, go_sem, *]) rfl ⟨rfl, (by repeat (first | with_reducible exact Below.refl _ _ | with_reducible assumption | with_reducible refine Below.alloc ?_ ?_ _ | with_reducible refine Below.setCell ?_ ?_ _ | with_reducible refine Below.drew ?_ | with_reducible refine below_drewN ?_ _ | with_reducible refine Below.trans ?_ (Below.mono (by assumption) ?_) | omega | ((repeat (first | rw [World.size_alloc] | rw [size_setCell] | rw [size_drewN] | rw [size_drew])); omega) | exact Nat.le_refl _ | (dsimp only; omega) | (simp [World.setCell]; omega)))⟩

set_option maxHeartbeats 400000 in
theorem eqState_same (t : ByteArray) (j g : Bool) (c k : Int) (w : World) :
    Calls Try.prog 50 #[.agg #[.string t, .bool j, .bool g, .int .i64 c, .int .i64 k], .agg #[.string t, .bool j, .bool g, .int .i64 c, .int .i64 k]] w fun e w' => e = .returned (.bool true) ∧ Below w.heap.size w w' := by
  go_enter Try.func50, Try.ntmps50
  go_wp2
  go_ret
  exact ⟨rfl, (by repeat (first | with_reducible exact Below.refl _ _ | with_reducible assumption | with_reducible refine Below.alloc ?_ ?_ _ | with_reducible refine Below.setCell ?_ ?_ _ | with_reducible refine Below.drew ?_ | with_reducible refine below_drewN ?_ _ | with_reducible refine Below.trans ?_ (Below.mono (by assumption) ?_) | omega | ((repeat (first | rw [World.size_alloc] | rw [size_setCell] | rw [size_drewN] | rw [size_drew])); omega) | exact Nat.le_refl _ | (dsimp only; omega) | (simp [World.setCell]; omega)))⟩

end Go.Proofs.Ytfakaeddkhajbaa
