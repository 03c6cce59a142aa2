/-
  CONTRACTS: isVowel, vowelGroups, VowelGroups of the program and the reference.
-/
import Derived.Test.YtkbbcmbeafjpaabPlainVow
import Derived.Test.YtkbbcmbeafjpaabNum
import Derived.Test.YtkbbcmbeafjpaabShelf
namespace Go.Proofs.Ytkbbcmbeafjpaab
open Go.RowKit

set_option maxHeartbeats 400000 in
theorem l9Vowel_any (c : Int) (w : World) :
    Calls Try.prog 116 #[.int .u8 c] w fun e w' => e = .returned (.bool (Pl.isVowel c)) ∧ w = w' := by
  go_enter Try.func116, Try.ntmps116
  go_wp2
  all_goals go_ret
  all_goals exact ⟨ret_bool (by simp_all [Pl.isVowel]), rfl⟩

set_option maxHeartbeats 400000 in
theorem isVowel_any (c : Int) (h0 : 0 ≤ c) (h1 : c < 256) (w : World) :
    Calls Try.prog 113 #[.int .u8 c] w fun e w' => e = .returned (.bool (Pl.isVowel c)) ∧ w = w' := by
  have E := Lib.hid (Pl.vowel_index c h0 h1)
  go_enter Try.func113, Try.ntmps113
  go_wp2_with (go_at_call 92; refine (Try.strings_IndexByte _ _ _).mono ?_; rintro e w' ⟨rfl, rfl⟩)
  go_ret
  exact ⟨ret_bool E.out.symm, rfl⟩

set_option maxHeartbeats 400000 in
theorem l9Groups_any (s : ByteArray) (w : World) (hs : s.size ≤ maxLen) :
    Calls Try.prog 123 #[.string s] w fun e w' => e = .returned (.int .i64 (Pl.vowelGroups s)) ∧ w = w' := by
  unfold maxLen at hs
  go_enter Try.func123, Try.ntmps123
  go_wp2
  go_loop [3, 4] (fun n i => ∃ k : Nat, k ≤ s.size ∧ i = .int .i64 k ∧ n = .int .i64 (Pl.vgTo s k)) (fun _ i => s.size - (intOf i).toNat)
  case atStart => exact ⟨0, Nat.zero_le _, rfl, rfl⟩
  case round =>
    obtain ⟨k, hk, rfl, rfl⟩ := hrel
    have hbd := Pl.vgTo_bd s k
    by_cases hlt : k < s.size
    · have e1 := Pl.byteAt_eq s k hlt
      by_cases hv : Pl.isVowel (Pl.byteAt s k) = true
      · by_cases h0 : k = 0
        · subst h0
          have E := Lib.hid (show Pl.vgTo s (0 + 1) = Pl.vgTo s 0 + 1 by simp [Pl.vgTo, Pl.startsRun, hv])
          go_wp2_with ((go_at_call 116; refine (l9Vowel_any _ _).mono ?_; rintro e w' ⟨rfl, rfl⟩))
          go_round
          case rel => exact ⟨1, by omega, by go_num, by rw [E.out]⟩
          case measure => simp [intOf]; omega
        · have e2 := Pl.byteAt_eq s (k - 1) (by omega)
          have hk0 : ((k : Int) == 0) = false := by simp; omega
          by_cases hu : Pl.isVowel (Pl.byteAt s (k - 1)) = true
          · have E := Lib.hid (show Pl.vgTo s (k + 1) = Pl.vgTo s k by simp [Pl.vgTo, Pl.startsRun, hv, hu, h0])
            go_wp2_with ((go_at_call 116; refine (l9Vowel_any _ _).mono ?_; rintro e w' ⟨rfl, rfl⟩))
            go_round
            case rel => exact ⟨k + 1, by omega, by go_num, by rw [E.out]⟩
            case measure => simp [intOf]; omega
          · have hu' : Pl.isVowel (Pl.byteAt s (k - 1)) = false := by simpa using hu
            have E := Lib.hid (show Pl.vgTo s (k + 1) = Pl.vgTo s k + 1 by simp [Pl.vgTo, Pl.startsRun, hv, hu'])
            clear hu
            go_wp2_with ((go_at_call 116; refine (l9Vowel_any _ _).mono ?_; rintro e w' ⟨rfl, rfl⟩))
            go_round
            case rel => exact ⟨k + 1, by omega, by go_num, by rw [E.out]⟩
            case measure => simp [intOf]; omega
      · have hv' : Pl.isVowel (Pl.byteAt s k) = false := by simpa using hv
        have E := Lib.hid (show Pl.vgTo s (k + 1) = Pl.vgTo s k by simp [Pl.vgTo, Pl.startsRun, hv'])
        clear hv
        go_wp2_with ((go_at_call 116; refine (l9Vowel_any _ _).mono ?_; rintro e w' ⟨rfl, rfl⟩))
        go_round
        case rel => exact ⟨k + 1, by omega, by go_num, by rw [E.out]⟩
        case measure => simp [intOf]; omega
    · have E := Lib.hid (show k = s.size by omega)
      go_wp2
      go_ret
      exact ⟨ret_int (by rw [E.out]; rfl), rfl⟩

set_option maxHeartbeats 400000 in
theorem vowelGroups_any (s : ByteArray) (w : World) (hs : s.size ≤ maxLen) :
    Calls Try.prog 115 #[.string s] w fun e w' => e = .returned (.int .i64 (Pl.vowelGroups s)) ∧ w = w' := by
  unfold maxLen at hs
  go_enter Try.func115, Try.ntmps115
  go_wp2
  go_loop [3, 7] (fun n i => ∃ k : Nat, k ≤ s.size ∧ i = .int .i64 k ∧ n = .int .i64 (Pl.vgTo s k)) (fun _ i => s.size - (intOf i).toNat)
  case atStart => exact ⟨0, Nat.zero_le _, rfl, rfl⟩
  case round =>
    obtain ⟨k, hk, rfl, rfl⟩ := hrel
    have hbd := Pl.vgTo_bd s k
    by_cases hlt : k < s.size
    · have e1 := Pl.byteAt_eq s k hlt
      have hb1 := Pl.byteAt_bd s k
      by_cases hv : Pl.isVowel (Pl.byteAt s k) = true
      · by_cases h0 : k = 0
        · subst h0
          have E := Lib.hid (show Pl.vgTo s (0 + 1) = Pl.vgTo s 0 + 1 by simp [Pl.vgTo, Pl.startsRun, hv])
          go_wp2_with (go_at_call 113; refine (isVowel_any _ (by omega) (by omega) _).mono ?_; rintro e w' ⟨rfl, rfl⟩)
          go_round
          case rel => exact ⟨1, by omega, by go_num, by rw [E.out]⟩
          case measure => simp [intOf]; omega
        · have e2 := Pl.byteAt_eq s (k - 1) (by omega)
          have hb2 := Pl.byteAt_bd s (k - 1)
          have hk0 : ((k : Int) == 0) = false := by simp; omega
          by_cases hu : Pl.isVowel (Pl.byteAt s (k - 1)) = true
          · have E := Lib.hid (show Pl.vgTo s (k + 1) = Pl.vgTo s k by simp [Pl.vgTo, Pl.startsRun, hv, hu, h0])
            go_wp2_with (go_at_call 113; refine (isVowel_any _ (by omega) (by omega) _).mono ?_; rintro e w' ⟨rfl, rfl⟩)
            go_round
            case rel => exact ⟨k + 1, by omega, by go_num, by rw [E.out]⟩
            case measure => simp [intOf]; omega
          · have hu' : Pl.isVowel (Pl.byteAt s (k - 1)) = false := by simpa using hu
            have E := Lib.hid (show Pl.vgTo s (k + 1) = Pl.vgTo s k + 1 by simp [Pl.vgTo, Pl.startsRun, hv, hu'])
            clear hu
            go_wp2_with (go_at_call 113; refine (isVowel_any _ (by omega) (by omega) _).mono ?_; rintro e w' ⟨rfl, rfl⟩)
            go_round
            case rel => exact ⟨k + 1, by omega, by go_num, by rw [E.out]⟩
            case measure => simp [intOf]; omega
      · have hv' : Pl.isVowel (Pl.byteAt s k) = false := by simpa using hv
        have E := Lib.hid (show Pl.vgTo s (k + 1) = Pl.vgTo s k by simp [Pl.vgTo, Pl.startsRun, hv'])
        clear hv
        go_wp2_with (go_at_call 113; refine (isVowel_any _ (by omega) (by omega) _).mono ?_; rintro e w' ⟨rfl, rfl⟩)
        go_round
        case rel => exact ⟨k + 1, by omega, by go_num, by rw [E.out]⟩
        case measure => simp [intOf]; omega
    · have E := Lib.hid (show k = s.size by omega)
      go_wp2
      go_ret
      exact ⟨ret_int (by rw [E.out]; rfl), rfl⟩

end Go.Proofs.Ytkbbcmbeafjpaab
