/-
  CONTRACTS: IsValidFolds of the program and of the reference.
-/
import Derived.Test.YtfjdbchffhbidaaDoorPlainFolds
import Derived.Test.YtfjdbchffhbidaaDoorFoldS
import Derived.Test.YtfjdbchffhbidaaDoorOutline
namespace Go.Proofs.YtfjdbchffhbidaaDoor
open Go.RowKit

set_option maxHeartbeats 800000 in
theorem l10Fold_any (k : Int) (t : ByteArray) (w : World) (ht : t.size ≤ maxLen) :
    Calls Tryd.prog 42 #[.agg #[.int .i64 k, .string t]] w fun e w' => e = .returned (.bool (Pl.foldB k t)) ∧ Below w.heap.size w w' := by
  have E : Hid (Pl.foldB k t = (Pl.inB k 13 22 && Pl.inB t.size 1 8 && Pl.allIn 97 122 t.data.toList)) := Lib.hid rfl
  have HB := Lib.hid (Joins.below_alloc1 w (.cells #[.int .i64 k, .string t] 27))
  unfold maxLen at ht
  go_enter Tryd.func42, Tryd.ntmps42
  go_wp2
  go_loop [3] (fun i => ∃ n : Nat, n ≤ t.size ∧ i = .int .i64 n ∧ Pl.allIn 97 122 (t.data.toList.take n) = true) (fun i => t.size - (intOf i).toNat)
  case atStart => exact ⟨0, Nat.zero_le _, rfl, rfl⟩
  case round =>
    obtain ⟨n, hn, rfl, hall⟩ := hrel
    have HA := Lib.hid hall; clear hall
    by_cases hlt : n < t.size
    · by_cases h1 : t[n].toNat < 97 ∨ 122 < t[n].toNat
      · have HV := Lib.hid (Pl.allIn_of_bad 97 122 t n hlt h1)
        go_wp2
        all_goals go_ret
        all_goals exact ⟨ret_bool (by rw [E.out, HV.out, Bool.and_false]), HB.out⟩
      · have HT := Lib.hid (Pl.allIn_take_ok 97 122 t n hlt HA.out (by omega) (by omega))
        go_wp2
        go_round
        case rel => exact ⟨n + 1, by omega, by go_num, HT.out⟩
        case measure => simp [intOf]; omega
    · have HT := Lib.hid (Pl.allIn_take_all 97 122 t n (by omega) HA.out)
      cases h1 : Pl.inB k 13 22
      · rw [h1, Bool.false_and, Bool.false_and] at E
        go_wp2_with ((go_at_call 72; refine (l1In_any _ _ _ _).mono ?_; rintro e w' ⟨rfl, rfl⟩))
        all_goals go_ret
        all_goals exact ⟨ret_bool E.out.symm, HB.out⟩
      · rw [h1, Bool.true_and, HT.out, Bool.and_true] at E
        cases h2 : Pl.inB t.size 1 8
        · rw [h2] at E
          go_wp2_with ((go_at_call 72; refine (l1In_any _ _ _ _).mono ?_; rintro e w' ⟨rfl, rfl⟩))
          all_goals go_ret
          all_goals exact ⟨ret_bool E.out.symm, HB.out⟩
        · rw [h2] at E
          go_wp2_with ((go_at_call 72; refine (l1In_any _ _ _ _).mono ?_; rintro e w' ⟨rfl, rfl⟩))
          all_goals go_ret
          all_goals exact ⟨ret_bool E.out.symm, HB.out⟩

theorem below_pastF {W w' : World} {o : Obj} (h1 : Below (W.alloc o).heap.size (W.alloc o) w') : Below W.heap.size W w' :=
  (Joins.below_alloc1 W o).trans (h1.mono (Joins.below_alloc1 W o).size)
theorem wrap_pow {j : Nat} (h : j ≤ 22) : wrap64 ((2 : Int) ^ j) = ((2 ^ j : Nat) : Int) := by
  have hk : 2 ^ j ≤ 2 ^ 22 := Nat.pow_le_pow_right (by omega) h
  rw [show ((2 : Int) ^ j) = ((2 ^ j : Nat) : Int) by simp]
  generalize 2 ^ j = x at hk ⊢
  exact IntWalk.wrap64_in _ ⟨by omega, by omega⟩

theorem any_take_step {l : List (Int × ByteArray)} {x : Int} (m : Nat) (h : m < l.length) (hp : (l[m].1 == x) = false) (ha : ((l.take m).any fun q => q.1 == x) = false) : ((l.take (m + 1)).any fun q => q.1 == x) = false := by
  rw [List.take_add_one, List.getElem?_eq_getElem h, List.any_append, ha]
  simpa using hp
theorem any_take_found {l : List (Int × ByteArray)} {x : Int} (m k : Nat) (h : m < l.length) (hm : m < k) (hp : (l[m].1 == x) = true) : ((l.take k).any fun q => q.1 == x) = true :=
  List.any_eq_true.2 ⟨l[m], List.mem_take_iff_getElem.2 ⟨m, by omega, rfl⟩, hp⟩

end Go.Proofs.YtfjdbchffhbidaaDoor
