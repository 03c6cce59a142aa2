/-
  CONTRACTS: valid outlines, valid folds, and an outline with another last stroke.
-/
import Derived.Test.YtfjdbchffhbidaaDoorEnds
import Derived.Test.YtfjdbchffhbidaaDoorStroke
import Derived.Test.YtfjdbchffhbidaaDoorIntS
import Derived.Test.YtfjdbchffhbidaaDoorPlainFold
namespace Go.Proofs.YtfjdbchffhbidaaDoor
open Go.RowKit

set_option maxHeartbeats 400000 in
theorem IsValidOutline_any (v : Value) (l : List Int) (w : World) (hr : Rows w v l.length 1 (ints l)) (hl : l.length ≤ 1048576) :
    Calls Tryd.prog 125 #[v] w fun e w' => e = .returned (.bool (Pl.outlineB l)) ∧ Below w.heap.size w w' := by
  have H := Lib.hid (allI_any Pl.strokeB 132 (enters_of Tryd.func132 (by kernel_rfl) rfl) v l w hr hl (fun W x => IsValidStroke_any x W))
  have E : Hid (Pl.outlineB l = (Pl.inB l.length 1 6 && l.all Pl.strokeB)) := Lib.hid rfl
  obtain ⟨a, cap, rfl, -⟩ := hr
  cases h1 : Pl.inB l.length 1 6
  · rw [h1, Bool.false_and] at E
    go_enter Tryd.func125, Tryd.ntmps125
    go_wp2_with ((go_at_call 75; refine (in_any _ _ _ _).mono ?_; rintro e w' ⟨rfl, rfl⟩))
    all_goals go_ret
    all_goals exact ⟨ret_bool E.out.symm, Below.refl _ _⟩
  · rw [h1, Bool.true_and] at E
    go_enter Tryd.func125, Tryd.ntmps125
    go_wp2_with (first | (go_at_call 75; refine (in_any _ _ _ _).mono ?_; rintro e w' ⟨rfl, rfl⟩) | (go_at_call 131; refine H.out.mono ?_; rintro e w1 ⟨rfl, hb1⟩))
    all_goals go_ret
    all_goals exact ⟨ret_bool E.out.symm, hb1⟩

theorem all_take_no (p : Int → Bool) (l : List Int) (k : Nat) (h : k < l.length) (y : Int) (hy : l[k] = y) (hp : p y = false) : l.all p = false := by
  subst hy
  exact Bool.eq_false_iff.2 fun ha => by
    have := (List.all_eq_true.1 ha) _ (List.getElem_mem h)
    rw [hp] at this; cases this
theorem all_take_next (p : Int → Bool) (l : List Int) (k : Nat) (h : k < l.length) (y : Int) (hy : l[k] = y) (hp : p y = true) (ha : (l.take k).all p = true) : (l.take (k + 1)).all p = true := by
  subst hy
  rw [List.take_add_one, List.getElem?_eq_getElem h, List.all_append, ha]
  simp [hp]
theorem all_take_all (p : Int → Bool) (l : List Int) (k : Nat) (h : k = l.length) (ha : (l.take k).all p = true) : l.all p = true := by
  subst h
  rwa [List.take_of_length_le (Nat.le_refl _)] at ha

set_option maxHeartbeats 800000 in
theorem l4Good_any (v : Value) (l : List Int) (w : World) (hr : Rows w v l.length 1 (ints l)) (hl : l.length ≤ 1048576) :
    Calls Tryd.prog 123 #[v] w fun e w' => e = .returned (.bool (Pl.outlineB l)) ∧ w = w' := by
  have E : Hid (Pl.outlineB l = (Pl.inB l.length 1 6 && l.all Pl.strokeB)) := Lib.hid rfl
  obtain ⟨a, cap, rfl, _, _, _, _, hcells⟩ := hr
  cases h1 : Pl.inB l.length 1 6
  · rw [h1, Bool.false_and] at E
    clear hcells
    go_enter Tryd.func123, Tryd.ntmps123
    go_wp2_with ((go_at_call 72; refine (l1In_any _ _ _ _).mono ?_; rintro e w' ⟨rfl, rfl⟩))
    all_goals go_ret
    all_goals exact ⟨ret_bool E.out.symm, rfl⟩
  · rw [h1, Bool.true_and] at E
    go_enter Tryd.func123, Tryd.ntmps123
    go_wp2_with ((go_at_call 72; refine (l1In_any _ _ _ _).mono ?_; rintro e w' ⟨rfl, rfl⟩))
    go_loop [3] (fun i => ∃ k : Nat, k ≤ l.length ∧ i = .int .i64 k ∧ Hid ((l.take k).all Pl.strokeB = true)) (fun i => l.length - (intOf i).toNat)
    case atStart => exact ⟨0, Nat.zero_le _, rfl, Lib.hid (by simp)⟩
    case round =>
      obtain ⟨k, hk, rfl, HA⟩ := hrel
      by_cases hlt : k < l.length
      · obtain ⟨b, off, rfl, hsrc⟩ := hcells k _ (ints_at l k hlt)
        have hki : (k : Int) < (l.length : Int) := by omega
        generalize hy : l[k] = y at hsrc
        have HY := Lib.hid hy; clear hy
        cases hq : Pl.strokeB y
        · have HQ := Lib.hid (all_take_no Pl.strokeB l k hlt y HY.out hq)
          clear HY HA
          go_wp2_with ((go_at_call 107; refine (l2Good_any _ _).mono ?_; rintro e w' ⟨rfl, rfl⟩))
          go_ret
          exact ⟨ret_bool (by rw [E.out, HQ.out]), rfl⟩
        · have HQ := Lib.hid (all_take_next Pl.strokeB l k hlt y HY.out hq HA.out)
          clear HY HA
          go_wp2_with ((go_at_call 107; refine (l2Good_any _ _).mono ?_; rintro e w' ⟨rfl, rfl⟩))
          go_round
          case rel => exact ⟨k + 1, by omega, by go_num, HQ⟩
          case measure => simp [intOf]; omega
      · have HQ := Lib.hid (all_take_all Pl.strokeB l k (by omega) HA.out)
        have hki : ¬ (k : Int) < (l.length : Int) := by omega
        clear HA
        go_wp2
        go_ret
        exact ⟨ret_bool (by rw [E.out, HQ.out]), rfl⟩

set_option maxHeartbeats 400000 in
theorem isFold_any (k : Int) (t : ByteArray) (w : World) (ht : t.size ≤ maxLen) :
    Calls Tryd.prog 44 #[.agg #[.int .i64 k, .string t]] w fun e w' => e = .returned (.bool (Pl.foldB k t)) ∧ Below w.heap.size w w' := by
  have E : Hid (Pl.foldB k t = (Pl.inB k 13 22 && Pl.inB t.size 1 8 && Pl.allIn 97 122 t.data.toList)) := Lib.hid rfl
  have HB := Lib.hid (Joins.below_alloc1 w (.cells #[.int .i64 k, .string t] 27))
  cases h1 : Pl.inB k 13 22
  · rw [h1, Bool.false_and, Bool.false_and] at E
    go_enter Tryd.func44, Tryd.ntmps44
    go_wp2_with ((go_at_call 75; refine (in_any _ _ _ _).mono ?_; rintro e w' ⟨rfl, rfl⟩))
    all_goals go_ret
    all_goals exact ⟨ret_bool E.out.symm, HB.out⟩
  · cases h2 : Pl.inB t.size 1 8
    · rw [h1, h2, Bool.and_false, Bool.false_and] at E
      go_enter Tryd.func44, Tryd.ntmps44
      go_wp2_with ((go_at_call 75; refine (in_any _ _ _ _).mono ?_; rintro e w' ⟨rfl, rfl⟩))
      all_goals go_ret
      all_goals exact ⟨ret_bool E.out.symm, HB.out⟩
    · rw [h1, h2, Bool.and_true, Bool.true_and] at E
      go_enter Tryd.func44, Tryd.ntmps44
      go_wp2_with (first | (go_at_call 75; refine (in_any _ _ _ _).mono ?_; rintro e w' ⟨rfl, rfl⟩) | (go_at_call 81; refine (areLetters_any _ _ ht).mono ?_; rintro e w' ⟨rfl, rfl⟩))
      all_goals go_ret
      all_goals exact ⟨ret_bool E.out.symm, HB.out⟩

end Go.Proofs.YtfjdbchffhbidaaDoor
