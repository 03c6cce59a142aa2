/-
  CONTRACTS: IsValidState, LastWord of the program and the reference.
-/
import Derived.Test.YtpdmhkmomfjcmaaStrA
namespace Go.Proofs.Ytpdmhkmomfjcmaa
open Go.RowKit

set_option maxHeartbeats 400000 in
theorem IsValidState_any (t : ByteArray) (j g : Bool) (c k : Int) (w : World) (hs : t.size ≤ maxLen) :
    Calls Try.prog 24 #[.agg #[.string t, .bool j, .bool g, .int .i64 c, .int .i64 k]] w fun e w' => e = .returned (.bool (Pl.validState t c k)) ∧ Below w.heap.size w w' := by
  have hs' := hs
  unfold maxLen at hs
  go_enter Try.func24, Try.ntmps24
  go_wp2_with (first | (go_at_call 54; refine (in_any _ _ _ _).mono ?_; rintro e w' ⟨rfl, rfl⟩) | (go_at_call 59; refine (isPrintable_any _ _ hs').mono ?_; rintro e w' ⟨rfl, rfl⟩))
  all_goals go_ret
  all_goals exact ⟨ret_bool (by simp_all [Pl.validState]; try omega), (by repeat (first | with_reducible exact Below.refl _ _ | with_reducible assumption | with_reducible refine Below.alloc ?_ ?_ _ | with_reducible refine Below.setCell ?_ ?_ _ | with_reducible refine Below.drew ?_ | with_reducible refine below_drewN ?_ _ | with_reducible refine Below.trans ?_ (Below.mono (by assumption) ?_) | omega | (simp only [World.size_alloc]; omega) | (simp only [World.size_alloc, World.setCell, Array.size_modify]; omega) | (simp [World.setCell]; omega) | (simp [World.setCell]; done)))⟩

set_option maxHeartbeats 400000 in
theorem l12Good_any (t : ByteArray) (j g : Bool) (c k : Int) (w : World) (hs : t.size ≤ maxLen) :
    Calls Try.prog 58 #[.agg #[.string t, .bool j, .bool g, .int .i64 c, .int .i64 k]] w fun e w' => e = .returned (.bool (Pl.validState t c k)) ∧ Below w.heap.size w w' := by
  have hs' := hs
  unfold maxLen at hs
  go_enter Try.func58, Try.ntmps58
  go_wp2_with (first | (go_at_call 83; refine (l1In_any _ _ _ _).mono ?_; rintro e w' ⟨rfl, rfl⟩) | (go_at_call 88; refine (l12Plain_any _ _ hs').mono ?_; rintro e w' ⟨rfl, rfl⟩))
  all_goals go_ret
  all_goals exact ⟨ret_bool (by simp_all [Pl.validState]; try omega), (by repeat (first | with_reducible exact Below.refl _ _ | with_reducible assumption | with_reducible refine Below.alloc ?_ ?_ _ | with_reducible refine Below.setCell ?_ ?_ _ | with_reducible refine Below.drew ?_ | with_reducible refine below_drewN ?_ _ | with_reducible refine Below.trans ?_ (Below.mono (by assumption) ?_) | omega | (simp only [World.size_alloc]; omega) | (simp only [World.size_alloc, World.setCell, Array.size_modify]; omega) | (simp [World.setCell]; omega) | (simp [World.setCell]; done)))⟩

set_option maxHeartbeats 400000 in
theorem specIsValidState_any (t : ByteArray) (j g : Bool) (c k : Int) (w : World) (hs : t.size ≤ maxLen) :
    Calls Try.prog 22 #[.agg #[.string t, .bool j, .bool g, .int .i64 c, .int .i64 k]] w fun e w' => e = .returned (.bool (Pl.validState t c k)) ∧ Below w.heap.size w w' := by
  go_enter Try.func22, Try.ntmps22
  go_wp2_with ((go_at_call 58; refine (l12Good_any _ _ _ _ _ _ hs).mono ?_; rintro e w1 ⟨rfl, hb⟩; have hcf := bcell hb; have hz := hb.size; (try simp only [World.size_alloc] at hz hcf); obtain ⟨hc, hf⟩ := hcf; (try have ht0 : w.heap.size < w1.heap.size := by omega); (try have ht1 : w.heap.size + 1 < w1.heap.size := by omega); (try have ht2 : w.heap.size + 2 < w1.heap.size := by omega)))
  go_ret
  exact ⟨rfl, (by repeat (first | with_reducible exact Below.refl _ _ | with_reducible assumption | with_reducible refine Below.alloc ?_ ?_ _ | with_reducible refine Below.setCell ?_ ?_ _ | with_reducible refine Below.drew ?_ | with_reducible refine below_drewN ?_ _ | with_reducible refine Below.trans ?_ (Below.mono (by assumption) ?_) | omega | (simp only [World.size_alloc]; omega) | (simp only [World.size_alloc, World.setCell, Array.size_modify]; omega) | (simp [World.setCell]; omega) | (simp [World.setCell]; done)))⟩

set_option maxHeartbeats 400000 in
theorem toState_any (a : ByteArray) (b : Bool) (c : Bool) (d : Int) (f : Int) (w : World) :
    Calls Try.prog 23 #[.agg #[.string a, .bool b, .bool c, .int .i64 d, .int .i64 f]] w fun e w' => e = .returned (.agg #[.string a, .bool b, .bool c, .int .i64 d, .int .i64 f]) ∧ Below w.heap.size w w' := by
  go_enter Try.func23, Try.ntmps23
  go_wp2
  exact bodyPost_ret (v := .agg #[.string a, .bool b, .bool c, .int .i64 d, .int .i64 f]) (by simp [results, Try.results23, go_sem]) rfl ⟨rfl, (by repeat (first | with_reducible exact Below.refl _ _ | with_reducible assumption | with_reducible refine Below.alloc ?_ ?_ _ | with_reducible refine Below.setCell ?_ ?_ _ | with_reducible refine Below.drew ?_ | with_reducible refine below_drewN ?_ _ | with_reducible refine Below.trans ?_ (Below.mono (by assumption) ?_) | omega | (simp only [World.size_alloc]; omega) | (simp only [World.size_alloc, World.setCell, Array.size_modify]; omega) | (simp [World.setCell]; omega) | (simp [World.setCell]; done)))⟩

set_option maxHeartbeats 400000 in
theorem LastWord_any (t : ByteArray) (j g : Bool) (c k : Int) (w : World) (hs : t.size ≤ maxLen) :
    Calls Try.prog 28 #[.agg #[.string t, .bool j, .bool g, .int .i64 c, .int .i64 k]] w fun e w' => e = .returned (.tuple #[.string (Pl.lastWord t c k), .bool (Pl.validState t c k)]) ∧ Below w.heap.size w w' := by
  have hs' := hs
  unfold maxLen at hs
  cases hv : Pl.validState t c k
  · have E := Lib.hid (show Pl.lastWord t c k = ⟨#[]⟩ by simp [Pl.lastWord, hv])
    go_enter Try.func28, Try.ntmps28
    go_wp2_with ((go_at_call 24; refine (IsValidState_any _ _ _ _ _ _ hs').mono ?_; rintro e w1 ⟨rfl, hb⟩; have hcf := bcell hb; have hz := hb.size; (try simp only [World.size_alloc] at hz hcf); obtain ⟨hc, hf⟩ := hcf; (try have ht0 : w.heap.size < w1.heap.size := by omega); (try have ht1 : w.heap.size + 1 < w1.heap.size := by omega); (try have ht2 : w.heap.size + 2 < w1.heap.size := by omega)))
    go_ret2
    exact ⟨ret_strb E.out.symm rfl, (by repeat (first | with_reducible exact Below.refl _ _ | with_reducible assumption | with_reducible refine Below.alloc ?_ ?_ _ | with_reducible refine Below.setCell ?_ ?_ _ | with_reducible refine Below.drew ?_ | with_reducible refine below_drewN ?_ _ | with_reducible refine Below.trans ?_ (Below.mono (by assumption) ?_) | omega | (simp only [World.size_alloc]; omega) | (simp only [World.size_alloc, World.setCell, Array.size_modify]; omega) | (simp [World.setCell]; omega) | (simp [World.setCell]; done)))⟩
  · have E := Lib.hid (show Pl.lastWord t c k = t.extract k.toNat t.size by simp [Pl.lastWord, hv])
    obtain ⟨h0, h1⟩ := Pl.validState_k hv
    go_enter Try.func28, Try.ntmps28
    go_wp2_with ((go_at_call 24; refine (IsValidState_any _ _ _ _ _ _ hs').mono ?_; rintro e w1 ⟨rfl, hb⟩; have hcf := bcell hb; have hz := hb.size; (try simp only [World.size_alloc] at hz hcf); obtain ⟨hc, hf⟩ := hcf; (try have ht0 : w.heap.size < w1.heap.size := by omega); (try have ht1 : w.heap.size + 1 < w1.heap.size := by omega); (try have ht2 : w.heap.size + 2 < w1.heap.size := by omega)))
    go_ret2
    exact ⟨ret_strb E.out.symm rfl, (by repeat (first | with_reducible exact Below.refl _ _ | with_reducible assumption | with_reducible refine Below.alloc ?_ ?_ _ | with_reducible refine Below.setCell ?_ ?_ _ | with_reducible refine Below.drew ?_ | with_reducible refine below_drewN ?_ _ | with_reducible refine Below.trans ?_ (Below.mono (by assumption) ?_) | omega | (simp only [World.size_alloc]; omega) | (simp only [World.size_alloc, World.setCell, Array.size_modify]; omega) | (simp [World.setCell]; omega) | (simp [World.setCell]; done)))⟩

set_option maxHeartbeats 400000 in
theorem specLastWord_any (t : ByteArray) (j g : Bool) (c k : Int) (w : World) (hs : t.size ≤ maxLen) :
    Calls Try.prog 27 #[.agg #[.string t, .bool j, .bool g, .int .i64 c, .int .i64 k]] w fun e w' => e = .returned (.tuple #[.string (Pl.lastWord t c k), .bool (Pl.validState t c k)]) ∧ Below w.heap.size w w' := by
  have hs' := hs
  unfold maxLen at hs
  cases hv : Pl.validState t c k
  · have E := Lib.hid (show Pl.lastWord t c k = ⟨#[]⟩ by simp [Pl.lastWord, hv])
    go_enter Try.func27, Try.ntmps27
    go_wp2_with ((go_at_call 58; refine (l12Good_any _ _ _ _ _ _ hs').mono ?_; rintro e w1 ⟨rfl, hb⟩; have hcf := bcell hb; have hz := hb.size; (try simp only [World.size_alloc] at hz hcf); obtain ⟨hc, hf⟩ := hcf; (try have ht0 : w.heap.size < w1.heap.size := by omega); (try have ht1 : w.heap.size + 1 < w1.heap.size := by omega); (try have ht2 : w.heap.size + 2 < w1.heap.size := by omega)))
    go_ret2
    exact ⟨ret_strb E.out.symm rfl, (by repeat (first | with_reducible exact Below.refl _ _ | with_reducible assumption | with_reducible refine Below.alloc ?_ ?_ _ | with_reducible refine Below.setCell ?_ ?_ _ | with_reducible refine Below.drew ?_ | with_reducible refine below_drewN ?_ _ | with_reducible refine Below.trans ?_ (Below.mono (by assumption) ?_) | omega | (simp only [World.size_alloc]; omega) | (simp only [World.size_alloc, World.setCell, Array.size_modify]; omega) | (simp [World.setCell]; omega) | (simp [World.setCell]; done)))⟩
  · have E := Lib.hid (show Pl.lastWord t c k = t.extract k.toNat t.size by simp [Pl.lastWord, hv])
    obtain ⟨h0, h1⟩ := Pl.validState_k hv
    go_enter Try.func27, Try.ntmps27
    go_wp2_with ((go_at_call 58; refine (l12Good_any _ _ _ _ _ _ hs').mono ?_; rintro e w1 ⟨rfl, hb⟩; have hcf := bcell hb; have hz := hb.size; (try simp only [World.size_alloc] at hz hcf); obtain ⟨hc, hf⟩ := hcf; (try have ht0 : w.heap.size < w1.heap.size := by omega); (try have ht1 : w.heap.size + 1 < w1.heap.size := by omega); (try have ht2 : w.heap.size + 2 < w1.heap.size := by omega)))
    go_ret2
    exact ⟨ret_strb E.out.symm rfl, (by repeat (first | with_reducible exact Below.refl _ _ | with_reducible assumption | with_reducible refine Below.alloc ?_ ?_ _ | with_reducible refine Below.setCell ?_ ?_ _ | with_reducible refine Below.drew ?_ | with_reducible refine below_drewN ?_ _ | with_reducible refine Below.trans ?_ (Below.mono (by assumption) ?_) | omega | (simp only [World.size_alloc]; omega) | (simp only [World.size_alloc, World.setCell, Array.size_modify]; omega) | (simp [World.setCell]; omega) | (simp [World.setCell]; done)))⟩

end Go.Proofs.Ytpdmhkmomfjcmaa
