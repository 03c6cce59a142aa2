/-
  CONTRACTS over digit strings: areDigits, isNumber, grouped, GroupDigits, FormatOrdinal of the program and the reference.
-/
import Derived.Test.YtmlckocmfoiobaaPlainNum
import Derived.Test.YtmlckocmfoiobaaStrA
import Derived.Deep.QuietTactic
import Derived.BigQuiet
import Derived.IntWalk
namespace Go.Proofs.Ytmlckocmfoiobaa
open Go.RowKit

set_option maxHeartbeats 400000 in
theorem areDigits_any (s : ByteArray) (w : World) (hs : s.size ≤ maxLen) :
    Calls Try.prog 97 #[.string s] w fun e w' => e = .returned (.bool (Pl.digitsOk s)) ∧ w = w' := by
  unfold maxLen at hs
  go_enter Try.func97, Try.ntmps97
  go_wp2
  go_loop [6] (fun i => ∃ k : Nat, k ≤ s.size ∧ i = .int .i64 k ∧ Pl.allIn 48 57 (s.data.toList.take k) = true) (fun i => s.size - (intOf i).toNat)
  case atStart => exact ⟨0, Nat.zero_le _, rfl, rfl⟩
  case round =>
    obtain ⟨k, hk, rfl, hall⟩ := hrel
    have HA := Lib.hid hall; clear hall
    by_cases hlt : k < s.size
    · by_cases h1 : s[k].toNat < 48 ∨ 57 < s[k].toNat
      · have HV := Lib.hid (Pl.allIn_of_bad 48 57 s k hlt h1)
        go_wp2
        all_goals go_ret
        all_goals exact ⟨ret_bool (by unfold Pl.digitsOk; rw [HV.out]; rfl), rfl⟩
      · have HT := Lib.hid (Pl.allIn_take_ok 48 57 s k hlt HA.out (by omega) (by omega))
        go_wp2
        go_round
        case rel => exact ⟨k + 1, by omega, by go_num, HT.out⟩
        case measure => simp [intOf]; omega
    · have HT := Lib.hid (Pl.allIn_take_all 48 57 s k (by omega) HA.out)
      go_wp2_with ((go_at_call 95; refine (in_any _ _ _ _).mono ?_; rintro e w' ⟨rfl, rfl⟩))
      go_ret
      exact ⟨ret_bool (by unfold Pl.digitsOk; rw [HT.out]; rfl), rfl⟩

set_option maxHeartbeats 400000 in
theorem l15All_any (s : ByteArray) (w : World) (hs : s.size ≤ maxLen) :
    Calls Try.prog 96 #[.string s] w fun e w' => e = .returned (.bool (Pl.digitsOk s)) ∧ w = w' := by
  unfold maxLen at hs
  go_enter Try.func96, Try.ntmps96
  go_wp2
  go_loop [3] (fun i => ∃ k : Nat, k ≤ s.size ∧ i = .int .i64 k ∧ Pl.allIn 48 57 (s.data.toList.take k) = true) (fun i => s.size - (intOf i).toNat)
  case atStart => exact ⟨0, Nat.zero_le _, rfl, rfl⟩
  case round =>
    obtain ⟨k, hk, rfl, hall⟩ := hrel
    have HA := Lib.hid hall; clear hall
    by_cases hlt : k < s.size
    · by_cases h1 : s[k].toNat < 48 ∨ 57 < s[k].toNat
      · have HV := Lib.hid (Pl.allIn_of_bad 48 57 s k hlt h1)
        go_wp2
        all_goals go_ret
        all_goals exact ⟨ret_bool (by unfold Pl.digitsOk; rw [HV.out]; rfl), rfl⟩
      · have HT := Lib.hid (Pl.allIn_take_ok 48 57 s k hlt HA.out (by omega) (by omega))
        go_wp2
        go_round
        case rel => exact ⟨k + 1, by omega, by go_num, HT.out⟩
        case measure => simp [intOf]; omega
    · have HT := Lib.hid (Pl.allIn_take_all 48 57 s k (by omega) HA.out)
      go_wp2_with ((go_at_call 87; refine (l1In_any _ _ _ _).mono ?_; rintro e w' ⟨rfl, rfl⟩))
      go_ret
      exact ⟨ret_bool (by unfold Pl.digitsOk; rw [HT.out]; rfl), rfl⟩

set_option maxHeartbeats 400000 in
theorem isNumber_any (s : ByteArray) (w : World) (hs : s.size ≤ maxLen) :
    Calls Try.prog 63 #[.string s] w fun e w' => e = .returned (.bool (Pl.isNumber s)) ∧ w = w' := by
  have hs' := hs
  unfold maxLen at hs
  by_cases hd : Pl.digitsOk s = true
  · have hp := Pl.digitsOk_pos hd
    have e0 := Pl.byteAt_eq s 0 hp
    have E := Lib.hid (Pl.isNumber_impl hd)
    go_enter Try.func63, Try.ntmps63
    go_wp2_with ((go_at_call 97; refine (areDigits_any _ _ hs').mono ?_; rintro e w' ⟨rfl, rfl⟩))
    all_goals go_ret
    all_goals exact ⟨ret_bool (by rw [E.out]; try simp_all), rfl⟩
  · have hd' : Pl.digitsOk s = false := by simpa using hd
    have E := Lib.hid (Pl.isNumber_no hd')
    go_enter Try.func63, Try.ntmps63
    go_wp2_with ((go_at_call 97; refine (areDigits_any _ _ hs').mono ?_; rintro e w' ⟨rfl, rfl⟩))
    go_ret
    exact ⟨ret_bool E.out.symm, rfl⟩

set_option maxHeartbeats 400000 in
theorem l15Number_any (s : ByteArray) (w : World) (hs : s.size ≤ maxLen) :
    Calls Try.prog 61 #[.string s] w fun e w' => e = .returned (.bool (Pl.isNumber s)) ∧ w = w' := by
  have hs' := hs
  unfold maxLen at hs
  by_cases hd : Pl.digitsOk s = true
  · have hp := Pl.digitsOk_pos hd
    have e0 := Pl.byteAt_eq s 0 hp
    have E := Lib.hid (Pl.isNumber_spec hd)
    go_enter Try.func61, Try.ntmps61
    go_wp2_with ((go_at_call 96; refine (l15All_any _ _ hs').mono ?_; rintro e w' ⟨rfl, rfl⟩))
    all_goals go_ret
    all_goals exact ⟨ret_bool (by rw [E.out]; try simp_all), rfl⟩
  · have hd' : Pl.digitsOk s = false := by simpa using hd
    have E := Lib.hid (Pl.isNumber_no hd')
    go_enter Try.func61, Try.ntmps61
    go_wp2_with ((go_at_call 96; refine (l15All_any _ _ hs').mono ?_; rintro e w' ⟨rfl, rfl⟩))
    go_ret
    exact ⟨ret_bool E.out.symm, rfl⟩

set_option maxHeartbeats 400000 in
theorem grouped_by (n : Nat) : ∀ (s : ByteArray) (w : World), s.size ≤ n → s.size ≤ 1048576 →
    Calls Try.prog 64 #[.string s] w fun e w' => e = .returned (.string (Pl.grouped s)) ∧ Drew w w' := by
  induction n with
  | zero =>
    intro s w h0 _
    have E := Lib.hid (Pl.grouped_small s (by omega))
    go_enter Try.func64, Try.ntmps64
    go_wp2_with fail
    go_ret
    exact ⟨ret_str E.out.symm, Drew.refl _⟩
  | succ n ih =>
    intro s w h0 h1
    by_cases h3 : s.size ≤ 3
    · have E := Lib.hid (Pl.grouped_small s h3)
      go_enter Try.func64, Try.ntmps64
      go_wp2_with fail
      go_ret
      exact ⟨ret_str E.out.symm, Drew.refl _⟩
    · have E := Lib.hid (Pl.grouped_step s (by omega))
      have hgs := Pl.grouped_size (s.extract 0 (s.size - 3))
      have hes : (s.extract 0 (s.size - 3)).size = s.size - 3 := by simp
      have HC := Lib.hid (fun W => ih (s.extract 0 (s.size - 3)) W (by omega) (by omega))
      clear ih
      rw [hes] at hgs
      have HE := Lib.hid hes
      clear hes
      have hw3 : IntKind.i64.wrap ((s.size : Int) - 3) = (s.size : Int) - 3 := IntWalk.i64_in _ (by omega)
      have h03 : (0 : Int) ≤ (s.size : Int) - 3 := by omega
      have ht3 : ((s.size : Int) - 3).toNat = s.size - 3 := by omega
      go_enter Try.func64, Try.ntmps64
      go_wp2_with fail
      go_quiet ((go_at_call 64; exact Calls.quiet_of (HC.out _)))
      go_wp2_with fail
      go_ret
      exact ⟨ret_str E.out.symm, ⟨_, rfl⟩⟩
theorem grouped_any (s : ByteArray) (w : World) (h : s.size ≤ 1048576) :
    Calls Try.prog 64 #[.string s] w fun e w' => e = .returned (.string (Pl.grouped s)) ∧ Drew w w' := grouped_by s.size s w (Nat.le_refl _) h

set_option maxHeartbeats 400000 in
theorem l15Group_any (s : ByteArray) (w : World) (hs : s.size ≤ 1048576) :
    Calls Try.prog 62 #[.string s] w fun e w' => e = .returned (.string (Pl.grouped s)) ∧ w = w' := by
  go_enter Try.func62, Try.ntmps62
  go_wp2
  go_loop [3, 4] (fun o i => ∃ k : Nat, k ≤ s.size ∧ i = .int .i64 k ∧ ∃ t : ByteArray, o = .string t ∧ t.size ≤ 2 * k ∧ Pl.grpInv s k t) (fun _ i => s.size - (intOf i).toNat)
  case atStart => exact ⟨0, Nat.zero_le _, rfl, ⟨#[]⟩, rfl, Nat.le_refl _, Pl.grpInv_zero s⟩
  case round =>
    obtain ⟨k, hk, rfl, t, rfl, hts, hinv⟩ := hrel
    have HI := Lib.hid hinv; clear hinv
    by_cases hlt : k < s.size
    · have hes : (s.extract k (k + 1)).size = 1 := by simp; omega
      by_cases hk0 : k = 0
      · subst hk0
        have HI1 := Lib.hid (Pl.grpInv_first s t hlt HI.out)
        go_wp2
        go_round
        case rel => exact ⟨1, by omega, by go_num, _, rfl, by simp only [ByteArray.size_append, hes]; omega, HI1.out⟩
        case measure => simp [intOf]; omega
      · by_cases hm : (s.size - k) % 3 = 0
        · have hb : (((s.size : Int) - (k : Int)) % 3 == 0) = true := by simp; omega
          have HI1 := Lib.hid (Pl.grpInv_sep s k t hlt (by omega) hm HI.out)
          have hcm : (⟨#[44]⟩ : ByteArray).size = 1 := rfl
          clear hm
          go_wp2
          go_round
          case rel => exact ⟨k + 1, by omega, by go_num, _, rfl, by simp only [ByteArray.size_append, hes, hcm]; omega, HI1.out⟩
          case measure => simp [intOf]; omega
        · have hb : (((s.size : Int) - (k : Int)) % 3 == 0) = false := by simp; omega
          have HI1 := Lib.hid (Pl.grpInv_no s k t hlt (by omega) hm HI.out)
          clear hm
          go_wp2
          go_round
          case rel => exact ⟨k + 1, by omega, by go_num, _, rfl, by simp only [ByteArray.size_append, hes]; omega, HI1.out⟩
          case measure => simp [intOf]; omega
    · have HE := Lib.hid (Pl.grpInv_end s k t (by omega) HI.out)
      go_wp2
      go_ret
      exact ⟨ret_str HE.out, rfl⟩

end Go.Proofs.Ytmlckocmfoiobaa
