/-
  CONTRACTS of small functions over strings: in, l1In, areLetters, IsWord, l9Word.
  CONTRACTS over digit strings: areDigits, isNumber, grouped, GroupDigits, FormatOrdinal of the program and the reference.
  CONTRACTS: isVowel, vowelGroups, VowelGroups of the program and the reference.
  CONTRACTS: the search of a slice by a predicate (slices.IndexFunc, slices.ContainsFunc) at strings and at integers; endsWith; all.
  CONTRACTS: slices.Reverse on a row of bytes; reversed, doubled of the program.
  CONTRACTS: number strokes of the program and the reference.
  CONTRACTS: the laws' own functions over slices of integers: toIntS, eqIntS, markIntS, heldIntS.
  CONTRACTS: valid outlines, valid folds, and an outline with another last stroke.
  CONTRACTS: two outlines compared, of the library and of the reference.
  CONTRACTS: two outlines held side by side, of the library and of the reference.
  CONTRACTS: the laws' own functions over slices of folds: szFoldS, toFoldS, eqFoldS.
  CONTRACTS: a list of strokes looked at, of the program and of the reference.
  CONTRACTS: the laws' own functions over slices of pieces: szPieceS, toPieceS, eqPieceS.
  CONTRACTS: the laws' own functions over dictionaries: szDictionary, toDictionary, eqDictionary.
  CONTRACTS: the laws' own look at the size of folds and of pieces, with any rest.
  CONTRACTS: the laws' own functions over dictionaries: toDictionary, eqDictionary.
  CONTRACTS: IsValidFolds of the program and of the reference.
  CONTRACTS: a list of integers in new memory, and with another last element.
  CONTRACTS: Unfold of the program and of the reference.
-/
import Derived.Test.YtdidgaibgkdjoaaGreatDoorBasA
import Derived.Test.YtdidgaibgkdjoaaGreatDoorProg
import Derived.WalkKit
import Derived.WalkSpells
import Derived.WalkLawsBesides
import Derived.Lib.Hide
import Derived.Deep.QuietTactic
import Derived.BigQuiet
import Derived.IntWalk
import Derived.Test.YtdidgaibgkdjoaaGreatDoorShelf
import Derived.Lib.SmallJoins
import Derived.BigRegion
import Derived.Deep.DeepCutAuto
import Derived.Deep.RegionHeld3
import Derived.Laws.AppendOwn
import Derived.OwnWalk
import Derived.Deep.RegionLaw
namespace Go.Proofs.YtdidgaibgkdjoaaGreatDoor
open Go.RowKit

theorem ret_bool {a b : Bool} (h : a = b) : Ending.returned (.bool a) = .returned (.bool b) := by rw [h]
theorem ret_int {a b : Int} (h : a = b) : Ending.returned (.int .i64 a) = .returned (.int .i64 b) := by rw [h]

theorem ret_str {a b : ByteArray} (h : a = b) : Ending.returned (.string a) = .returned (.string b) := by rw [h]
theorem ret_strb {a b : ByteArray} {x y : Bool} (h : a = b) (k : x = y) : Ending.returned (.tuple #[.string a, .bool x]) = .returned (.tuple #[.string b, .bool y]) := by rw [h, k]
theorem ret_intb {a b : Int} {x y : Bool} (h : a = b) (k : x = y) : Ending.returned (.tuple #[.int .i64 a, .bool x]) = .returned (.tuple #[.int .i64 b, .bool y]) := by rw [h, k]

theorem size_setCell (w : World) (a : Addr) (v : Value) : (w.setCell a v).heap.size = w.heap.size := by simp [World.setCell]
theorem size_drewN (w : World) (n : Nat) : (w.drewN n).heap.size = w.heap.size := rfl
theorem size_drew (w : World) : w.drew.heap.size = w.heap.size := rfl

/-- nothing but draws -/
def Drew (w w' : World) : Prop := ∃ n, w' = w.drewN n
theorem Drew.refl (w : World) : Drew w w := ⟨0, rfl⟩
theorem Drew.below {w w' : World} (h : Drew w w') : Below w.heap.size w w' := by
  obtain ⟨n, rfl⟩ := h
  exact ⟨rfl, rfl, rfl, Nat.le_refl _, fun _ _ => rfl⟩

/-- a callee that leaves the world alone, met in a region that draws its order -/
theorem quiet_eq {P : Program} {f : FuncId} {args : Array Value} {w : World} {n : Nat} {v : Value} (h : Calls P f args (w.drewN n) fun e w' => e = .returned v ∧ w.drewN n = w') :
    Calls P f args (w.drewN n) fun e w'' => e = .returned v ∧ ∃ m, w'' = w.drewN m := h.mono fun _ _ ⟨he, hm⟩ => ⟨he, n, hm.symm⟩

/-- what was there before a call that makes memory reads as before behind it -/
theorem bcell {W w1 : World} (hb : Below W.heap.size W w1) : (∀ b o, b < W.heap.size → w1.cell? ⟨b, o, none⟩ = W.cell? ⟨b, o, none⟩) ∧ (∀ b o, b < W.heap.size → w1.frozen? ⟨b, o, none⟩ = W.frozen? ⟨b, o, none⟩) :=
  ⟨fun b o h => hb.cell (p := ⟨b, o, none⟩) h, fun b o h => hb.frozen (p := ⟨b, o, none⟩) h⟩

set_option maxHeartbeats 400000 in
theorem in_any (n a b : Int) (w : World) :
    Calls Tryz.prog 113 #[.int .i64 n, .int .i64 a, .int .i64 b] w fun e w' => e = .returned (.bool (Pl.inB n a b)) ∧ w = w' := by
  go_enter Tryz.func113, Tryz.ntmps113
  go_wp2
  all_goals go_ret
  all_goals exact ⟨by simp_all [Pl.inB]; try omega, rfl⟩

set_option maxHeartbeats 400000 in
theorem l1In_any (n a b : Int) (w : World) :
    Calls Tryz.prog 117 #[.int .i64 n, .int .i64 a, .int .i64 b] w fun e w' => e = .returned (.bool (Pl.inB n a b)) ∧ w = w' := by
  go_enter Tryz.func117, Tryz.ntmps117
  go_wp2
  all_goals go_ret
  all_goals exact ⟨by simp_all [Pl.inB]; try omega, rfl⟩

set_option maxHeartbeats 400000 in
theorem areLetters_any (s : ByteArray) (w : World) (hs : s.size ≤ maxLen) :
    Calls Tryz.prog 120 #[.string s] w fun e w' => e = .returned (.bool (Pl.allIn 97 122 s.data.toList)) ∧ w = w' := by
  unfold maxLen at hs
  go_enter Tryz.func120, Tryz.ntmps120
  go_wp2
  go_loop [6] (fun i => ∃ k : Nat, k ≤ s.size ∧ i = .int .i64 k ∧ Pl.allIn 97 122 (s.data.toList.take k) = true) (fun i => s.size - (intOf i).toNat)
  case atStart => exact ⟨0, Nat.zero_le _, rfl, rfl⟩
  case round =>
    obtain ⟨k, hk, rfl, hall⟩ := hrel
    have HA := Lib.hid hall; clear hall
    by_cases hlt : k < s.size
    · by_cases h1 : s[k].toNat < 97 ∨ 122 < s[k].toNat
      · have HV := Lib.hid (Pl.allIn_of_bad 97 122 s k hlt h1)
        go_wp2
        all_goals go_ret
        all_goals exact ⟨ret_bool (HV.out.symm), rfl⟩
      · have HT := Lib.hid (Pl.allIn_take_ok 97 122 s k hlt HA.out (by omega) (by omega))
        go_wp2
        go_round
        case rel => exact ⟨k + 1, by omega, by go_num, HT.out⟩
        case measure => simp [intOf]; omega
    · have HT := Lib.hid (Pl.allIn_take_all 97 122 s k (by omega) HA.out)
      go_wp2
      go_ret
      exact ⟨ret_bool (HT.out.symm), rfl⟩

set_option maxHeartbeats 400000 in
theorem l9Word_any (s : ByteArray) (w : World) (hs : s.size ≤ maxLen) :
    Calls Tryz.prog 179 #[.string s] w fun e w' => e = .returned (.bool (Pl.isWord s)) ∧ w = w' := by
  unfold maxLen at hs
  go_enter Tryz.func179, Tryz.ntmps179
  go_wp2
  go_loop [3] (fun i => ∃ k : Nat, k ≤ s.size ∧ i = .int .i64 k ∧ Pl.allIn 97 122 (s.data.toList.take k) = true) (fun i => s.size - (intOf i).toNat)
  case atStart => exact ⟨0, Nat.zero_le _, rfl, rfl⟩
  case round =>
    obtain ⟨k, hk, rfl, hall⟩ := hrel
    have HA := Lib.hid hall; clear hall
    by_cases hlt : k < s.size
    · by_cases h1 : s[k].toNat < 97 ∨ 122 < s[k].toNat
      · have HV := Lib.hid (Pl.allIn_of_bad 97 122 s k hlt h1)
        go_wp2
        all_goals go_ret
        all_goals exact ⟨ret_bool (by unfold Pl.isWord; rw [HV.out]; rfl), rfl⟩
      · have HT := Lib.hid (Pl.allIn_take_ok 97 122 s k hlt HA.out (by omega) (by omega))
        go_wp2
        go_round
        case rel => exact ⟨k + 1, by omega, by go_num, HT.out⟩
        case measure => simp [intOf]; omega
    · have HT := Lib.hid (Pl.allIn_take_all 97 122 s k (by omega) HA.out)
      go_wp2_with ((go_at_call 117; refine (l1In_any _ _ _ _).mono ?_; rintro e w' ⟨rfl, rfl⟩))
      go_ret
      exact ⟨ret_bool (by unfold Pl.isWord; rw [HT.out]; rfl), rfl⟩

set_option maxHeartbeats 400000 in
theorem IsWord_any (s : ByteArray) (w : World) (hs : s.size ≤ maxLen) :
    Calls Tryz.prog 237 #[.string s] w fun e w' => e = .returned (.bool (Pl.isWord s)) ∧ w = w' := by
  have hs' := hs
  unfold maxLen at hs
  go_enter Tryz.func237, Tryz.ntmps237
  go_wp2_with (first | (go_at_call 113; refine (in_any _ _ _ _).mono ?_; rintro e w' ⟨rfl, rfl⟩) | (go_at_call 120; refine (areLetters_any _ _ hs').mono ?_; rintro e w' ⟨rfl, rfl⟩))
  all_goals go_ret
  all_goals exact ⟨ret_bool (by simp_all [Pl.isWord]), rfl⟩

set_option maxHeartbeats 400000 in
theorem isPrintable_any (s : ByteArray) (w : World) (hs : s.size ≤ maxLen) :
    Calls Tryz.prog 207 #[.string s] w fun e w' => e = .returned (.bool (Pl.allIn 32 126 s.data.toList)) ∧ w = w' := by
  unfold maxLen at hs
  go_enter Tryz.func207, Tryz.ntmps207
  go_wp2
  go_loop [6] (fun i => ∃ k : Nat, k ≤ s.size ∧ i = .int .i64 k ∧ Pl.allIn 32 126 (s.data.toList.take k) = true) (fun i => s.size - (intOf i).toNat)
  case atStart => exact ⟨0, Nat.zero_le _, rfl, rfl⟩
  case round =>
    obtain ⟨k, hk, rfl, hall⟩ := hrel
    have HA := Lib.hid hall; clear hall
    by_cases hlt : k < s.size
    · by_cases h1 : s[k].toNat < 32 ∨ 126 < s[k].toNat
      · have HV := Lib.hid (Pl.allIn_of_bad 32 126 s k hlt h1)
        go_wp2
        all_goals go_ret
        all_goals exact ⟨ret_bool (HV.out.symm), rfl⟩
      · have HT := Lib.hid (Pl.allIn_take_ok 32 126 s k hlt HA.out (by omega) (by omega))
        go_wp2
        go_round
        case rel => exact ⟨k + 1, by omega, by go_num, HT.out⟩
        case measure => simp [intOf]; omega
    · have HT := Lib.hid (Pl.allIn_take_all 32 126 s k (by omega) HA.out)
      go_wp2
      go_ret
      exact ⟨ret_bool (HT.out.symm), rfl⟩

set_option maxHeartbeats 400000 in
theorem l12Plain_any (s : ByteArray) (w : World) (hs : s.size ≤ maxLen) :
    Calls Tryz.prog 163 #[.string s] w fun e w' => e = .returned (.bool (Pl.allIn 32 126 s.data.toList)) ∧ w = w' := by
  unfold maxLen at hs
  go_enter Tryz.func163, Tryz.ntmps163
  go_wp2
  go_loop [3] (fun i => ∃ k : Nat, k ≤ s.size ∧ i = .int .i64 k ∧ Pl.allIn 32 126 (s.data.toList.take k) = true) (fun i => s.size - (intOf i).toNat)
  case atStart => exact ⟨0, Nat.zero_le _, rfl, rfl⟩
  case round =>
    obtain ⟨k, hk, rfl, hall⟩ := hrel
    have HA := Lib.hid hall; clear hall
    by_cases hlt : k < s.size
    · by_cases h1 : s[k].toNat < 32 ∨ 126 < s[k].toNat
      · have HV := Lib.hid (Pl.allIn_of_bad 32 126 s k hlt h1)
        have hbd : (s[k].toNat : Int) < 256 := by have := s[k].toNat_lt; omega
        have hib : Pl.inB (s[k].toNat : Int) 32 126 = false := by simp [Pl.inB]; omega
        go_wp2_with ((go_at_call 117; refine (l1In_any _ _ _ _).mono ?_; rintro e w' ⟨rfl, rfl⟩))
        all_goals go_ret
        all_goals exact ⟨ret_bool (HV.out.symm), rfl⟩
      · have HT := Lib.hid (Pl.allIn_take_ok 32 126 s k hlt HA.out (by omega) (by omega))
        have hbd : (s[k].toNat : Int) < 256 := by have := s[k].toNat_lt; omega
        have hib : Pl.inB (s[k].toNat : Int) 32 126 = true := by simp [Pl.inB]; omega
        go_wp2_with ((go_at_call 117; refine (l1In_any _ _ _ _).mono ?_; rintro e w' ⟨rfl, rfl⟩))
        go_round
        case rel => exact ⟨k + 1, by omega, by go_num, HT.out⟩
        case measure => simp [intOf]; omega
    · have HT := Lib.hid (Pl.allIn_take_all 32 126 s k (by omega) HA.out)
      go_wp2
      go_ret
      exact ⟨ret_bool (HT.out.symm), rfl⟩

end Go.Proofs.YtdidgaibgkdjoaaGreatDoor

namespace Go.Proofs.YtdidgaibgkdjoaaGreatDoor
open Go.RowKit

end Go.Proofs.YtdidgaibgkdjoaaGreatDoor

namespace Go.Proofs.YtdidgaibgkdjoaaGreatDoor
open Go.RowKit

set_option maxHeartbeats 400000 in
theorem l9Vowel_any (c : Int) (w : World) :
    Calls Tryz.prog 214 #[.int .u8 c] w fun e w' => e = .returned (.bool (Pl.isVowel c)) ∧ w = w' := by
  go_enter Tryz.func214, Tryz.ntmps214
  go_wp2
  all_goals go_ret
  all_goals exact ⟨ret_bool (by simp_all [Pl.isVowel]), rfl⟩

set_option maxHeartbeats 400000 in
theorem isVowel_any (c : Int) (h0 : 0 ≤ c) (h1 : c < 256) (w : World) :
    Calls Tryz.prog 239 #[.int .u8 c] w fun e w' => e = .returned (.bool (Pl.isVowel c)) ∧ w = w' := by
  have E := Lib.hid (Pl.vowel_index c h0 h1)
  go_enter Tryz.func239, Tryz.ntmps239
  go_wp2_with (go_at_call 230; refine (Tryz.strings_IndexByte _ _ _).mono ?_; rintro e w' ⟨rfl, rfl⟩)
  go_ret
  exact ⟨ret_bool E.out.symm, rfl⟩

set_option maxHeartbeats 400000 in
theorem l9Groups_any (s : ByteArray) (w : World) (hs : s.size ≤ maxLen) :
    Calls Tryz.prog 231 #[.string s] w fun e w' => e = .returned (.int .i64 (Pl.vowelGroups s)) ∧ w = w' := by
  unfold maxLen at hs
  go_enter Tryz.func231, Tryz.ntmps231
  go_wp2
  go_loop [3, 4] (fun n i => ∃ k : Nat, k ≤ s.size ∧ i = .int .i64 k ∧ n = .int .i64 (Pl.vgTo s k)) (fun _ i => s.size - (intOf i).toNat)
  case atStart => exact ⟨0, Nat.zero_le _, rfl, rfl⟩
  case round =>
    obtain ⟨k, hk, rfl, rfl⟩ := hrel
    have hbd := Pl.vgTo_bd s k
    by_cases hlt : k < s.size
    · have e1 := Pl.byteAt_eq s k hlt
      by_cases hv : Pl.isVowel (Pl.byteAt s k) = true
      · by_cases h0 : k = 0
        · subst h0
          have E := Lib.hid (show Pl.vgTo s (0 + 1) = Pl.vgTo s 0 + 1 by simp [Pl.vgTo, Pl.startsRun, hv])
          go_wp2_with ((go_at_call 214; refine (l9Vowel_any _ _).mono ?_; rintro e w' ⟨rfl, rfl⟩))
          go_round
          case rel => exact ⟨1, by omega, by go_num, by rw [E.out]⟩
          case measure => simp [intOf]; omega
        · have e2 := Pl.byteAt_eq s (k - 1) (by omega)
          have hk0 : ((k : Int) == 0) = false := by simp; omega
          by_cases hu : Pl.isVowel (Pl.byteAt s (k - 1)) = true
          · have E := Lib.hid (show Pl.vgTo s (k + 1) = Pl.vgTo s k by simp [Pl.vgTo, Pl.startsRun, hv, hu, h0])
            go_wp2_with ((go_at_call 214; refine (l9Vowel_any _ _).mono ?_; rintro e w' ⟨rfl, rfl⟩))
            go_round
            case rel => exact ⟨k + 1, by omega, by go_num, by rw [E.out]⟩
            case measure => simp [intOf]; omega
          · have hu' : Pl.isVowel (Pl.byteAt s (k - 1)) = false := by simpa using hu
            have E := Lib.hid (show Pl.vgTo s (k + 1) = Pl.vgTo s k + 1 by simp [Pl.vgTo, Pl.startsRun, hv, hu'])
            clear hu
            go_wp2_with ((go_at_call 214; refine (l9Vowel_any _ _).mono ?_; rintro e w' ⟨rfl, rfl⟩))
            go_round
            case rel => exact ⟨k + 1, by omega, by go_num, by rw [E.out]⟩
            case measure => simp [intOf]; omega
      · have hv' : Pl.isVowel (Pl.byteAt s k) = false := by simpa using hv
        have E := Lib.hid (show Pl.vgTo s (k + 1) = Pl.vgTo s k by simp [Pl.vgTo, Pl.startsRun, hv'])
        clear hv
        go_wp2_with ((go_at_call 214; refine (l9Vowel_any _ _).mono ?_; rintro e w' ⟨rfl, rfl⟩))
        go_round
        case rel => exact ⟨k + 1, by omega, by go_num, by rw [E.out]⟩
        case measure => simp [intOf]; omega
    · have E := Lib.hid (show k = s.size by omega)
      go_wp2
      go_ret
      exact ⟨ret_int (by rw [E.out]; rfl), rfl⟩

set_option maxHeartbeats 400000 in
theorem vowelGroups_any (s : ByteArray) (w : World) (hs : s.size ≤ maxLen) :
    Calls Tryz.prog 241 #[.string s] w fun e w' => e = .returned (.int .i64 (Pl.vowelGroups s)) ∧ w = w' := by
  unfold maxLen at hs
  go_enter Tryz.func241, Tryz.ntmps241
  go_wp2
  go_loop [3, 7] (fun n i => ∃ k : Nat, k ≤ s.size ∧ i = .int .i64 k ∧ n = .int .i64 (Pl.vgTo s k)) (fun _ i => s.size - (intOf i).toNat)
  case atStart => exact ⟨0, Nat.zero_le _, rfl, rfl⟩
  case round =>
    obtain ⟨k, hk, rfl, rfl⟩ := hrel
    have hbd := Pl.vgTo_bd s k
    by_cases hlt : k < s.size
    · have e1 := Pl.byteAt_eq s k hlt
      have hb1 := Pl.byteAt_bd s k
      by_cases hv : Pl.isVowel (Pl.byteAt s k) = true
      · by_cases h0 : k = 0
        · subst h0
          have E := Lib.hid (show Pl.vgTo s (0 + 1) = Pl.vgTo s 0 + 1 by simp [Pl.vgTo, Pl.startsRun, hv])
          go_wp2_with (go_at_call 239; refine (isVowel_any _ (by omega) (by omega) _).mono ?_; rintro e w' ⟨rfl, rfl⟩)
          go_round
          case rel => exact ⟨1, by omega, by go_num, by rw [E.out]⟩
          case measure => simp [intOf]; omega
        · have e2 := Pl.byteAt_eq s (k - 1) (by omega)
          have hb2 := Pl.byteAt_bd s (k - 1)
          have hk0 : ((k : Int) == 0) = false := by simp; omega
          by_cases hu : Pl.isVowel (Pl.byteAt s (k - 1)) = true
          · have E := Lib.hid (show Pl.vgTo s (k + 1) = Pl.vgTo s k by simp [Pl.vgTo, Pl.startsRun, hv, hu, h0])
            go_wp2_with (go_at_call 239; refine (isVowel_any _ (by omega) (by omega) _).mono ?_; rintro e w' ⟨rfl, rfl⟩)
            go_round
            case rel => exact ⟨k + 1, by omega, by go_num, by rw [E.out]⟩
            case measure => simp [intOf]; omega
          · have hu' : Pl.isVowel (Pl.byteAt s (k - 1)) = false := by simpa using hu
            have E := Lib.hid (show Pl.vgTo s (k + 1) = Pl.vgTo s k + 1 by simp [Pl.vgTo, Pl.startsRun, hv, hu'])
            clear hu
            go_wp2_with (go_at_call 239; refine (isVowel_any _ (by omega) (by omega) _).mono ?_; rintro e w' ⟨rfl, rfl⟩)
            go_round
            case rel => exact ⟨k + 1, by omega, by go_num, by rw [E.out]⟩
            case measure => simp [intOf]; omega
      · have hv' : Pl.isVowel (Pl.byteAt s k) = false := by simpa using hv
        have E := Lib.hid (show Pl.vgTo s (k + 1) = Pl.vgTo s k by simp [Pl.vgTo, Pl.startsRun, hv'])
        clear hv
        go_wp2_with (go_at_call 239; refine (isVowel_any _ (by omega) (by omega) _).mono ?_; rintro e w' ⟨rfl, rfl⟩)
        go_round
        case rel => exact ⟨k + 1, by omega, by go_num, by rw [E.out]⟩
        case measure => simp [intOf]; omega
    · have E := Lib.hid (show k = s.size by omega)
      go_wp2
      go_ret
      exact ⟨ret_int (by rw [E.out]; rfl), rfl⟩

end Go.Proofs.YtdidgaibgkdjoaaGreatDoor

namespace Go.Proofs.YtdidgaibgkdjoaaGreatDoor
open Go.RowKit

/-- the cells of a list of strings -/
def strs (l : List ByteArray) : List Value := l.map Value.string
theorem strs_length (l : List ByteArray) : (strs l).length = l.length := by simp [strs]
theorem strs_at (l : List ByteArray) (k : Nat) (h : k < l.length) : (strs l)[k]? = some (.string l[k]) := by
  simp [strs, List.getElem?_map, List.getElem?_eq_getElem h]

theorem any_take_hit {α : Type} (p : α → Bool) (l : List α) (k : Nat) (h : k < l.length) (y : α) (hy : l[k] = y) (hp : p y = true) : l.any p = true := by
  subst hy
  exact List.any_eq_true.2 ⟨_, List.getElem_mem h, hp⟩
theorem any_take_next {α : Type} (p : α → Bool) (l : List α) (k : Nat) (h : k < l.length) (y : α) (hy : l[k] = y) (hp : p y = false) (ha : (l.take k).any p = false) : (l.take (k + 1)).any p = false := by
  subst hy
  rw [List.take_add_one, List.getElem?_eq_getElem h, List.any_append, ha]
  simp [hp]
theorem any_take_all {α : Type} (p : α → Bool) (l : List α) (k : Nat) (h : k = l.length) (ha : (l.take k).any p = false) : l.any p = false := by
  subst h
  rwa [List.take_of_length_le (Nat.le_refl _)] at ha

set_option maxHeartbeats 800000 in
theorem IndexFuncS_any (p : ByteArray → Bool) (g : Nat) (lb : Array Value) (eg : ∀ args w, (callFunc g args).run Tryz.prog w = .ok (.enter g args) w) (v : Value) (l : List ByteArray) (w : World) (hr : Rows w v l.length 1 (strs l)) (hl : l.length ≤ 1048576)
    (hp : ∀ (n : Nat) (x : ByteArray), Calls Tryz.prog g (#[Value.string x] ++ lb) (w.drewN n) fun e w' => e = .returned (.bool (p x)) ∧ Drew w w') :
    Calls Tryz.prog 245 #[v, .func (.func g) #[] lb] w fun e w' => (∃ r : Int, e = .returned (.int .i64 r) ∧ decide (0 ≤ r) = l.any p) ∧ Drew w w' := by
  obtain ⟨a, cap, rfl, _, _, _, _, hcells⟩ := hr
  have HP := Lib.hid hp; clear hp
  go_enter Tryz.func245, Tryz.ntmps245
  go_wp2
  go_loopw [5, 8] (fun _ i wr => ∃ k : Nat, k ≤ l.length ∧ i = .int .i64 k ∧ (∃ n, wr = w.drewN n) ∧ Hid ((l.take k).any p = false)) (fun _ i _ => l.length - (intOf i).toNat)
  case atStart => exact ⟨0, Nat.zero_le _, rfl, ⟨0, rfl⟩, Lib.hid (by simp)⟩
  case round =>
    obtain ⟨k, hk, rfl, ⟨n, rfl⟩, HA⟩ := hrel
    by_cases hlt : k < l.length
    · obtain ⟨b, off, rfl, hsrc⟩ := hcells k _ (strs_at l k hlt)
      have hki : (k : Int) < (l.length : Int) := by omega
      have hcall := HP.out n l[k]
      generalize hy : l[k] = y at hsrc hcall
      have HY := Lib.hid hy; clear hy
      cases hq : p y
      · rw [hq] at hcall
        have HQ := Lib.hid (any_take_next p l k hlt y HY.out hq HA.out)
        clear HY hq HA
        go_wp2_with (go_at_fn g; refine hcall.mono ?_; rintro e w' ⟨rfl, n', rfl⟩)
        go_roundw
        case rel => exact ⟨k + 1, by omega, by go_num, ⟨n', rfl⟩, HQ⟩
        case measure => simp [intOf]; omega
      · rw [hq] at hcall
        have HQ := Lib.hid (any_take_hit p l k hlt y HY.out hq)
        clear HY hq HA
        go_wp2_with (go_at_fn g; refine hcall.mono ?_; rintro e w' ⟨rfl, n', rfl⟩)
        go_ret
        exact ⟨⟨k, rfl, by rw [HQ.out]; simp⟩, n', rfl⟩
    · have HQ := Lib.hid (any_take_all p l k (by omega) HA.out)
      have hki : ¬ (k : Int) < (l.length : Int) := by omega
      clear HA
      go_wp2
      go_ret
      exact ⟨⟨-1, rfl, by rw [HQ.out]; simp⟩, n, rfl⟩

theorem ContainsFuncS_any (p : ByteArray → Bool) (g : Nat) (lb : Array Value) (eg : ∀ args w, (callFunc g args).run Tryz.prog w = .ok (.enter g args) w) (v : Value) (l : List ByteArray) (w : World) (hr : Rows w v l.length 1 (strs l)) (hl : l.length ≤ 1048576)
    (hp : ∀ (n : Nat) (x : ByteArray), Calls Tryz.prog g (#[Value.string x] ++ lb) (w.drewN n) fun e w' => e = .returned (.bool (p x)) ∧ Drew w w') :
    Calls Tryz.prog 242 #[v, .func (.func g) #[] lb] w fun e w' => e = .returned (.bool (l.any p)) ∧ Drew w w' := by
  have H := Lib.hid (IndexFuncS_any p g lb eg v l w hr hl hp)
  clear hr hp
  go_enter Tryz.func242, Tryz.ntmps242
  go_wp2_with (go_at_call 245; refine H.out.mono ?_; rintro e w' ⟨⟨r, rfl, hd⟩, n, rfl⟩)
  go_ret
  exact ⟨by first | exact ret_bool hd | rfl, n, rfl⟩

set_option maxHeartbeats 800000 in
theorem IndexFuncI_any (p : Int → Bool) (g : Nat) (lb : Array Value) (eg : ∀ args w, (callFunc g args).run Tryz.prog w = .ok (.enter g args) w) (v : Value) (l : List Int) (w : World) (hr : Rows w v l.length 1 (ints l)) (hl : l.length ≤ 1048576)
    (hp : ∀ (n : Nat) (x : Int), Calls Tryz.prog g (#[(Value.int .i64) x] ++ lb) (w.drewN n) fun e w' => e = .returned (.bool (p x)) ∧ Drew w w') :
    Calls Tryz.prog 172 #[v, .func (.func g) #[] lb] w fun e w' => (∃ r : Int, e = .returned (.int .i64 r) ∧ decide (0 ≤ r) = l.any p) ∧ Drew w w' := by
  obtain ⟨a, cap, rfl, _, _, _, _, hcells⟩ := hr
  have HP := Lib.hid hp; clear hp
  go_enter Tryz.func172, Tryz.ntmps172
  go_wp2
  go_loopw [5, 8] (fun _ i wr => ∃ k : Nat, k ≤ l.length ∧ i = .int .i64 k ∧ (∃ n, wr = w.drewN n) ∧ Hid ((l.take k).any p = false)) (fun _ i _ => l.length - (intOf i).toNat)
  case atStart => exact ⟨0, Nat.zero_le _, rfl, ⟨0, rfl⟩, Lib.hid (by simp)⟩
  case round =>
    obtain ⟨k, hk, rfl, ⟨n, rfl⟩, HA⟩ := hrel
    by_cases hlt : k < l.length
    · obtain ⟨b, off, rfl, hsrc⟩ := hcells k _ (ints_at l k hlt)
      have hki : (k : Int) < (l.length : Int) := by omega
      have hcall := HP.out n l[k]
      generalize hy : l[k] = y at hsrc hcall
      have HY := Lib.hid hy; clear hy
      cases hq : p y
      · rw [hq] at hcall
        have HQ := Lib.hid (any_take_next p l k hlt y HY.out hq HA.out)
        clear HY hq HA
        go_wp2_with (go_at_fn g; refine hcall.mono ?_; rintro e w' ⟨rfl, n', rfl⟩)
        go_roundw
        case rel => exact ⟨k + 1, by omega, by go_num, ⟨n', rfl⟩, HQ⟩
        case measure => simp [intOf]; omega
      · rw [hq] at hcall
        have HQ := Lib.hid (any_take_hit p l k hlt y HY.out hq)
        clear HY hq HA
        go_wp2_with (go_at_fn g; refine hcall.mono ?_; rintro e w' ⟨rfl, n', rfl⟩)
        go_ret
        exact ⟨⟨k, rfl, by rw [HQ.out]; simp⟩, n', rfl⟩
    · have HQ := Lib.hid (any_take_all p l k (by omega) HA.out)
      have hki : ¬ (k : Int) < (l.length : Int) := by omega
      clear HA
      go_wp2
      go_ret
      exact ⟨⟨-1, rfl, by rw [HQ.out]; simp⟩, n, rfl⟩

theorem ContainsFuncI_any (p : Int → Bool) (g : Nat) (lb : Array Value) (eg : ∀ args w, (callFunc g args).run Tryz.prog w = .ok (.enter g args) w) (v : Value) (l : List Int) (w : World) (hr : Rows w v l.length 1 (ints l)) (hl : l.length ≤ 1048576)
    (hp : ∀ (n : Nat) (x : Int), Calls Tryz.prog g (#[(Value.int .i64) x] ++ lb) (w.drewN n) fun e w' => e = .returned (.bool (p x)) ∧ Drew w w') :
    Calls Tryz.prog 151 #[v, .func (.func g) #[] lb] w fun e w' => e = .returned (.bool (l.any p)) ∧ Drew w w' := by
  have H := Lib.hid (IndexFuncI_any p g lb eg v l w hr hl hp)
  clear hr hp
  go_enter Tryz.func151, Tryz.ntmps151
  go_wp2_with (go_at_call 172; refine H.out.mono ?_; rintro e w' ⟨⟨r, rfl, hd⟩, n, rfl⟩)
  go_ret
  exact ⟨by first | exact ret_bool hd | rfl, n, rfl⟩

set_option maxHeartbeats 800000 in
theorem endsWith_any (s : ByteArray) (v : Value) (l : List ByteArray) (w : World) (hr : Rows w v l.length 1 (strs l)) (hl : l.length ≤ 1048576) (hs : s.size ≤ maxLen) :
    Calls Tryz.prog 240 #[.string s, v] w fun e w' => e = .returned (.bool (l.any (Pl.endsB s))) ∧ Below w.heap.size w w' := by
  unfold maxLen at hs
  have H := Lib.hid (ContainsFuncS_any (Pl.endsB s) 243 #[.pointer (some ⟨w.heap.size, 0, none⟩)] (enters_of Tryz.func243 (by kernel_rfl) rfl) v l (w.alloc (.cells #[.string s] 9)) (hr.keep (Joins.below_alloc1 w _)) hl (fun n x => by
    show Calls Tryz.prog 243 #[.string x, .pointer (some ⟨w.heap.size, 0, none⟩)] _ _
    have hc : (w.alloc (.cells #[.string s] 9)).cell? ⟨w.heap.size, 0, none⟩ = some (.string s) := by simp
    have hp : Hid (Lib.hasSuffix s.data.toList x.data.toList = Pl.endsB s x) := Lib.hid rfl
    generalize w.alloc (.cells #[.string s] 9) = W at hc ⊢
    go_enter Tryz.func243, Tryz.ntmps243
    go_wp2_with (go_at_call 244; refine (Tryz.strings_HasSuffix _ _ _ (by omega)).mono ?_; rintro e w' ⟨rfl, rfl⟩)
    go_ret
    exact ⟨ret_bool hp.out, n, rfl⟩))
  have HB := Lib.hid (Joins.below_alloc1 w (.cells #[.string s] 9))
  clear hr
  go_enter Tryz.func240, Tryz.ntmps240
  go_wp2_with (go_at_call 242; refine H.out.mono ?_; rintro e w' ⟨rfl, n, rfl⟩)
  go_ret
  exact ⟨rfl, HB.out.trans (Joins.below_draws _ _ n)⟩

set_option maxHeartbeats 800000 in
theorem allI_any (p : Int → Bool) (g : Nat) (eg : ∀ args w, (callFunc g args).run Tryz.prog w = .ok (.enter g args) w) (v : Value) (l : List Int) (w : World) (hr : Rows w v l.length 1 (ints l)) (hl : l.length ≤ 1048576)
    (hp : ∀ (W : World) (x : Int), Calls Tryz.prog g #[.int .i64 x] W fun e w' => e = .returned (.bool (p x)) ∧ W = w') :
    Calls Tryz.prog 114 #[v, .func (.func g) #[] #[]] w fun e w' => e = .returned (.bool (l.all p)) ∧ Below w.heap.size w w' := by
  have H := Lib.hid (ContainsFuncI_any (fun x => !p x) 152 #[.pointer (some ⟨w.heap.size, 0, none⟩)] (enters_of Tryz.func152 (by kernel_rfl) rfl) v l (w.alloc (.cells #[.func (.func g) #[] #[]] 87)) (hr.keep (Joins.below_alloc1 w _)) hl (fun n x => by
    show Calls Tryz.prog 152 #[.int .i64 x, .pointer (some ⟨w.heap.size, 0, none⟩)] _ _
    have hc : (w.alloc (.cells #[.func (.func g) #[] #[]] 87)).cell? ⟨w.heap.size, 0, none⟩ = some (.func (.func g) #[] #[]) := by simp
    generalize w.alloc (.cells #[.func (.func g) #[] #[]] 87) = W at hc ⊢
    have hcall := Lib.hid (hp (W.drewN n) x)
    clear hp
    go_enter Tryz.func152, Tryz.ntmps152
    go_wp2_with (go_at_fn g; refine hcall.out.mono ?_; rintro e w' ⟨rfl, rfl⟩)
    go_ret
    exact ⟨rfl, n, rfl⟩))
  have HB := Lib.hid (Joins.below_alloc1 w (.cells #[.func (.func g) #[] #[]] 87))
  have hall : Hid ((!l.any fun x => !p x) = l.all p) := Lib.hid (by simp [List.all_eq_not_any_not])
  clear hr hp
  go_enter Tryz.func114, Tryz.ntmps114
  go_wp2_with (go_at_call 151; refine H.out.mono ?_; rintro e w' ⟨rfl, n, rfl⟩)
  go_ret
  exact ⟨ret_bool hall.out, HB.out.trans (Joins.below_draws _ _ n)⟩

end Go.Proofs.YtdidgaibgkdjoaaGreatDoor

namespace Go.Proofs.YtdidgaibgkdjoaaGreatDoor
open Go.RowKit

/-- k bytes at each end have been exchanged -/
def RevAt (b n : Nat) (f : Nat → UInt8) (k : Nat) (w wr : World) : Prop :=
  (∀ j, j < n → wr.cell? ⟨b, j, none⟩ = some (.int .u8 (((if j < k ∨ n ≤ j + k then f (n - 1 - j) else f j).toNat : Nat) : Int))) ∧ (∀ j, j < n → wr.frozen? ⟨b, j, none⟩ = false) ∧ w.grownBy wr (some b)

theorem RevAt.step {b n : Nat} {f : Nat → UInt8} {k : Nat} {w wr : World} (h : RevAt b n f k w wr) (hk : k + k + 1 < n) :
    RevAt b n f (k + 1) w ((wr.setCell ⟨b, k, none⟩ (.int .u8 ((f (n - 1 - k)).toNat : Int))).setCell ⟨b, n - 1 - k, none⟩ (.int .u8 ((f k).toNat : Int))) := by
  obtain ⟨h1, h2, h3⟩ := h
  refine ⟨fun j hj => ?_, fun j hj => ?_, ?_⟩
  · have c1 := h1 k (by omega)
    have c2 := h1 (n - 1 - k) (by omega)
    by_cases e2 : j = n - 1 - k
    · subst e2
      have c2' : (wr.setCell ⟨b, k, none⟩ (.int .u8 ((f (n - 1 - k)).toNat : Int))).cell? ⟨b, n - 1 - k, none⟩ = some (.int .u8 (((if n - 1 - k < k ∨ n ≤ n - 1 - k + k then f (n - 1 - (n - 1 - k)) else f (n - 1 - k)).toNat : Nat) : Int)) := by
        rw [World.cell?_setCell_other _ _ _ _ (by intro h; injection h with _ h _; omega)]; exact c2
      rw [World.cell?_setCell_same _ _ _ c2', if_pos (by omega), show n - 1 - (n - 1 - k) = k by omega]
    · rw [World.cell?_setCell_other _ _ _ _ (by intro h; injection h with _ h _; omega)]
      by_cases e1 : j = k
      · subst e1
        rw [World.cell?_setCell_same _ _ _ c1, if_pos (by omega)]
      · rw [World.cell?_setCell_other _ _ _ _ (by intro h; injection h with _ h _; omega), h1 j hj]
        by_cases hj2 : j < k ∨ n ≤ j + k
        · rw [if_pos hj2, if_pos (by omega)]
        · rw [if_neg hj2, if_neg (by omega)]
  · have := h2 j hj
    simpa [go_sem] using this
  · exact ⟨h3.os, h3.tape, h3.output, by simpa [World.setCell] using h3.size, fun i hi hne => by
      have hb : i ≠ b := fun e => hne (by rw [e])
      rw [Below.heap_setCell _ _ _ _ hb, Below.heap_setCell _ _ _ _ hb]; exact h3.block i hi hne⟩

/-- read back when all is exchanged -/
theorem rev_back {b k : Nat} {t : ByteArray} {w w' : World} (hk : t.size ≤ k + k + 1) (h : RevAt b t.size (fun j => t.data.getD j 0) k w w') (cap : Nat) :
    (convert 22 9 (.slice (some ⟨b, 0, none⟩) t.size cap)).run Tryz.prog w' = .ok (.string ⟨t.data.reverse⟩) w' := by
  have hl : t.data.toList.reverse.length = t.size := by rw [List.length_reverse, Array.length_toList]; rfl
  have := run_convert_bytes_back (P := Tryz.prog) w' 22 9 5 ⟨b, 0, none⟩ cap t.data.toList.reverse Tryz.underlying22 Tryz.underlying5 Tryz.underlying9 (fun j hj => by
    have hj' : j < t.size := by omega
    have e := h.1 j hj'
    have hx : t.data.toList.reverse[j] = t.data.getD (t.size - 1 - j) 0 := by
      rw [List.getElem_reverse, Array.getD_eq_getD_getElem?, Array.getElem?_eq_getElem (by show _ < t.size; omega)]
      simp only [Array.getElem_toList, Array.length_toList]
      rfl
    rw [hx]
    have ha : (Addr.add ⟨b, 0, none⟩ j) = ⟨b, j, none⟩ := by
      unfold Addr.add; split
      · rename_i h0; subst h0; rfl
      · simp
    rw [ha, e]
    by_cases hc : j < k ∨ t.size ≤ j + k
    · rw [if_pos hc]
    · rw [if_neg hc, show t.size - 1 - j = j by omega])
  rw [hl] at this
  rw [this, show t.data.toList.reverse.toArray = t.data.reverse by rw [← Array.toList_reverse, Array.toArray_toList]]

theorem heap_new (w : World) (o : Obj) : (w.alloc o).heap[w.heap.size]? = some o := by
  show (w.heap.push _)[w.heap.size]? = _; simp
theorem cell_new (w : World) (c : Array Value) (t : TypeId) (d : Nat × Nat) (i : Nat) : (w.alloc (.cells c t d)).cell? ⟨w.heap.size, i, none⟩ = c[i]? := by
  unfold World.cell?; rw [heap_new]; rfl
theorem frozen_new (w : World) (c : Array Value) (t : TypeId) (a b i : Nat) (h : i < a) : (w.alloc (.cells c t (a, b))).frozen? ⟨w.heap.size, i, none⟩ = false := by
  unfold World.frozen?; rw [heap_new]; simp; omega

/-- the bytes of t lie in the row -/
theorem bytesRow_rev (t : ByteArray) (cap : Nat) (w : World) :
    RevAt w.heap.size t.size (fun j => t.data.getD j 0) 0 (w.alloc (.cells (bytesRow t cap) 5 ((bytesRow t cap).size, (bytesRow t cap).size + 1))).drew (w.alloc (.cells (bytesRow t cap) 5 ((bytesRow t cap).size, (bytesRow t cap).size + 1))).drew := by
  refine ⟨fun j hj => ?_, fun j hj => ?_, World.grownBy.refl _ _⟩
  · have hj' : j < t.data.size := hj
    rw [World.cell?_drew, if_neg (by omega), cell_new]
    show (bytesRow t cap)[j]? = some (.int .u8 ((t.data.getD j 0).toNat : Int))
    rw [bytesRow_at t cap j hj', Array.getD_eq_getD_getElem?, Array.getElem?_eq_getElem hj']; rfl
  · have hj' : j < (bytesRow t cap).size := by
      have : j < t.data.size := hj
      simp [bytesRow]; omega
    show (w.alloc _).frozen? _ = _
    exact frozen_new _ _ _ _ _ _ hj'

end Go.Proofs.YtdidgaibgkdjoaaGreatDoor

namespace Go.Proofs.YtdidgaibgkdjoaaGreatDoor
open Go.RowKit

set_option maxHeartbeats 400000 in
theorem IsValidStroke_any (s : Int) (w : World) :
    Calls Tryz.prog 115 #[.int .i64 s] w fun e w' => e = .returned (.bool (Pl.strokeB s)) ∧ w = w' := by
  go_enter Tryz.func115, Tryz.ntmps115
  go_wp2_with ((go_at_call 113; refine (in_any _ _ _ _).mono ?_; rintro e w' ⟨rfl, rfl⟩))
  go_ret
  exact ⟨rfl, rfl⟩

set_option maxHeartbeats 400000 in
theorem l2Good_any (s : Int) (w : World) :
    Calls Tryz.prog 118 #[.int .i64 s] w fun e w' => e = .returned (.bool (Pl.strokeB s)) ∧ w = w' := by
  go_enter Tryz.func118, Tryz.ntmps118
  go_wp2_with ((go_at_call 117; refine (l1In_any _ _ _ _).mono ?_; rintro e w' ⟨rfl, rfl⟩))
  go_ret
  exact ⟨rfl, rfl⟩

theorem bT {a b : Int} (h : (a == b) = true) : a = b := by simpa using h
theorem bF {a b : Int} (h : (a == b) = false) : ¬ a = b := by simpa using h

theorem nT {a b : Int} (h : (a == b) = true) : (a != b) = false := by simpa using h
theorem nF {a b : Int} (h : (a == b) = false) : (a != b) = true := by simpa using h

theorem written_empty (s : Int) : (Pl.written s).toList.isEmpty = !Pl.isNum s := by
  rw [← Pl.written_isNum s]; cases (Pl.written s).toList <;> rfl

end Go.Proofs.YtdidgaibgkdjoaaGreatDoor

namespace Go.Proofs.YtdidgaibgkdjoaaGreatDoor
open Go.RowKit

theorem Tryz.infoInt : (Tryz.prog.info? 3).map (fun i => (i.zero, i.size, i.bytes)) = some (some (.int .i64 0), 1, 8) := by kernel_rfl

set_option maxHeartbeats 800000 in
theorem toIntS_any (v : Value) (l : List Int) (w : World) (hr : Rows w v l.length 1 (ints l)) (hl : l.length ≤ 1048576) :
    Calls Tryz.prog 34 #[v] w (RetRow 3 1 w.heap.size w l.length (ints l)) := by
  obtain ⟨i0, hi, hz0, hz1, hz2⟩ := info_parts Tryz.infoInt
  obtain ⟨a, cap, rfl, _, _, _, _, hcells⟩ := hr
  go_enter Tryz.func34, Tryz.ntmps34
  go_wp2_with (at_make; refine wpList_make_full _ rfl _ _ 36 rfl w.heap.size 3 i0 (.int .i64 0) 1 Tryz.underlying36 hi hz0 hz1 .i64 .i64 _ _ l.length rfl rfl rfl rfl ?c2 ?c3 (Nat.le_refl _) ?_)
  case c2 => rw [hz2]; omega
  case c3 => unfold maxLen; omega
  intro w1 hown1 hg1
  have hown0 : w1.ownsRow w.heap.size 3 1 (.slice (some ⟨w.heap.size, 0, none⟩) l.length l.length) l.length (half (ints l) (List.replicate l.length (.int .i64 0)) 0) := by
    rw [half_zero]
    simpa [Value.cells, toList_madeCells_one] using hown1
  have hb0 : Below w.heap.size w w1 := (Below.refl _ _).grown hg1 (Nat.le_refl _) (fun k h => by cases h)
  have HO := Lib.hid hown0; have HB := Lib.hid hb0
  clear hown1 hg1 hown0 hb0
  go_wp2
  go_loopw [4] (fun i wr => ∃ k : Nat, k ≤ l.length ∧ i = .int .i64 k ∧ wr.ownsRow w.heap.size 3 1 (.slice (some ⟨w.heap.size, 0, none⟩) l.length l.length) l.length (half (ints l) (List.replicate l.length (.int .i64 0)) k) ∧ Below w.heap.size w wr) (fun i _ => l.length - (intOf i).toNat)
  case atStart => exact ⟨0, Nat.zero_le _, rfl, HO.out, HB.out⟩
  clear HO HB
  case round =>
    obtain ⟨k, hk, rfl, hown, hb⟩ := hrel
    have HO := Lib.hid hown; have HB := Lib.hid hb; clear hown hb
    by_cases hlt : k < l.length
    · obtain ⟨b, off, rfl, hsrc⟩ := (hcells.keep HB.out) k _ (ints_at l k hlt)
      obtain ⟨z, hdst⟩ : ∃ z, wr.cell? ⟨w.heap.size, k, none⟩ = some z := by
        rw [HO.out.cellAt k (by omega)]
        exact ⟨_, List.getElem?_eq_getElem (by rw [half_length _ _ _ (by simp [ints])]; rw [ints_length]; exact hlt)⟩
      have hfr := HO.out.frozenAt k
      go_wp2
      go_roundw
      case rel =>
        have h1 := (HO.out.stored k (.int .i64 l[k])).1
        rw [half_set _ _ _ _ (by simp [ints]) (ints_at l k hlt)] at h1
        exact ⟨k + 1, by omega, by go_num, h1, HB.out.setCell (Nat.le_refl _) _⟩
      case measure => simp [intOf]; omega
    · obtain rfl : k = l.length := by omega
      go_wp2
      go_ret
      have h := HO.out
      rw [half_all' _ _ l.length (by simp [ints]) (by rw [ints_length])] at h
      exact ⟨_, rfl, h, HB.out⟩

set_option maxHeartbeats 800000 in
theorem eqIntS_same (v v' : Value) (l : List Int) (w : World) (hr : Rows w v l.length 1 (ints l)) (hr' : Rows w v' l.length 1 (ints l)) (hl : l.length ≤ 1048576) :
    Calls Tryz.prog 37 #[v, v'] w fun e w' => e = .returned (.bool true) ∧ Drew w w' := by
  obtain ⟨a, cap, rfl, _, _, _, _, hcells⟩ := hr
  obtain ⟨a', cap', rfl, _, _, _, _, hcells'⟩ := hr'
  go_enter Tryz.func37, Tryz.ntmps37
  go_wp2
  go_loopw [5] (fun i wr => ∃ k : Nat, k ≤ l.length ∧ i = .int .i64 k ∧ ∃ n, wr = w.drewN n) (fun i _ => l.length - (intOf i).toNat)
  case atStart => exact ⟨0, Nat.zero_le _, rfl, 0, rfl⟩
  case round =>
    obtain ⟨k, hk, rfl, n, rfl⟩ := hrel
    by_cases hlt : k < l.length
    · obtain ⟨b, off, rfl, h1⟩ := hcells k _ (ints_at l k hlt)
      obtain ⟨b', off', rfl, h2⟩ := hcells' k _ (ints_at l k hlt)
      have hki : (k : Int) < (l.length : Int) := by omega
      go_wp2
      go_quiet (fail)
      go_wp2
      go_roundw
      case rel => exact ⟨k + 1, by omega, by go_num, _, rfl⟩
      case measure => simp [intOf]; omega
    · go_wp2
      go_ret
      exact ⟨rfl, ⟨_, rfl⟩⟩

set_option maxHeartbeats 800000 in
theorem heldIntS_any (v : Value) (n : Nat) (k0 : Int) (w : World) (hr : Rows w v n 1 (ints (marksI k0 n))) (hn : n ≤ 1048576) (h0 : 0 ≤ k0) (h1 : k0 ≤ 4000000000000000000) :
    Calls Tryz.prog 63 #[v, .int .i64 k0] w fun e w' => e = .returned (.int .i64 (k0 + n)) ∧ w = w' := by
  obtain ⟨a, cap, rfl, _, _, _, _, hcells⟩ := hr
  go_enter Tryz.func63, Tryz.ntmps63
  go_wp2
  go_loop [1, 5] (fun q i => ∃ k : Nat, k ≤ n ∧ i = .int .i64 k ∧ q = .int .i64 (k0 + k)) (fun _ i => n - (intOf i).toNat)
  case atStart => exact ⟨0, Nat.zero_le _, rfl, by simp⟩
  case round =>
    obtain ⟨k, hk, rfl, rfl⟩ := hrel
    by_cases hlt : k < n
    · obtain ⟨b, off, rfl, h2⟩ := hcells k _ (ints_at _ k (by rw [marksI_length]; exact hlt))
      rw [marksI_at] at h2
      go_wp2
      go_round
      case rel => exact ⟨k + 1, by omega, by go_num, by go_num⟩
      case measure => simp [intOf]; omega
    · obtain rfl : k = n := by omega
      go_wp2
      go_ret
      exact ⟨rfl, rfl⟩

set_option maxHeartbeats 800000 in
theorem markIntS_any (v : Value) (xs : List Value) (n base : Nat) (k0 : Int) (w : World) (hr : w.ownsRow base 3 1 v n xs) (hn : n ≤ 1048576) (h0 : 0 ≤ k0) (h1 : k0 ≤ 4000000000000000000) :
    Calls Tryz.prog 62 #[v, .int .i64 k0] w fun e w' => e = .returned (.int .i64 (k0 + n)) ∧ Wrote 3 1 base w v n (ints (marksI k0 n)) w' := by
  have hxl := hr.1
  have hr0 := hr
  rcases hr.2 with ⟨rfl, rfl⟩ | ⟨g, cap, cur, rfl, hbg, hg, hnc, hcm, hcs, ht⟩
  · go_enter Tryz.func62, Tryz.ntmps62
    go_wp2
    go_loop [1, 5] (fun q i => i = .int .i64 0 ∧ q = .int .i64 k0) (fun _ _ => 0)
    case atStart => exact ⟨rfl, rfl⟩
    case round =>
      obtain ⟨rfl, rfl⟩ := hrel
      go_wp2
      go_ret
      exact ⟨by simp, World.ownsRow_nil _ _ _ _, World.grownBy.refl _ _⟩
  · have HR := Lib.hid hr0
    clear hr hr0 hg hcs ht hbg hcm
    go_enter Tryz.func62, Tryz.ntmps62
    go_wp2
    go_loopw [1, 5] (fun q i wr => ∃ k : Nat, k ≤ n ∧ i = .int .i64 k ∧ q = .int .i64 (k0 + k) ∧ Wrote 3 1 base w (.slice (some ⟨g, 0, none⟩) n cap) n (half (ints (marksI k0 n)) xs k) wr) (fun _ i _ => n - (intOf i).toNat)
    case atStart => exact ⟨0, Nat.zero_le _, rfl, by simp, by rw [half_zero]; exact HR.out, World.grownBy.refl _ _⟩
    case round =>
      obtain ⟨k, hk, rfl, rfl, hwr⟩ := hrel
      have HW := Lib.hid hwr; clear hwr
      have hlen : (ints (marksI k0 n)).length = xs.length := by rw [ints_length, marksI_length, hxl, Nat.mul_one]
      have HL := Lib.hid hlen; clear hlen
      by_cases hlt : k < n
      · obtain ⟨z, hdst⟩ : ∃ z, wr.cell? ⟨g, k, none⟩ = some z := by
          rw [HW.out.1.cellAt k (by omega)]
          exact ⟨_, List.getElem?_eq_getElem (by rw [half_length _ _ _ HL.out, ints_length, marksI_length]; exact hlt)⟩
        have hfr := HW.out.1.frozenAt k
        go_wp2
        go_roundw
        case rel =>
          have h2 := HW.out.1.stored k (.int .i64 (k0 + k))
          have h3 := h2.1
          rw [half_set _ _ _ _ HL.out (by rw [ints_at _ k (by rw [marksI_length]; exact hlt), marksI_at])] at h3
          exact ⟨k + 1, by omega, by go_num, by go_num, h3, grownBy_trans HW.out.2 h2.2⟩
        case measure => simp [intOf]; omega
      · obtain rfl : k = n := by omega
        go_wp2
        go_ret
        have h := HW.out.1
        rw [half_all' _ _ k HL.out (by rw [ints_length, marksI_length])] at h
        exact ⟨rfl, h, HW.out.2⟩

end Go.Proofs.YtdidgaibgkdjoaaGreatDoor

namespace Go.Proofs.YtdidgaibgkdjoaaGreatDoor
open Go.RowKit

set_option maxHeartbeats 400000 in
theorem IsValidOutline_any (v : Value) (l : List Int) (w : World) (hr : Rows w v l.length 1 (ints l)) (hl : l.length ≤ 1048576) :
    Calls Tryz.prog 68 #[v] w fun e w' => e = .returned (.bool (Pl.outlineB l)) ∧ Below w.heap.size w w' := by
  have H := Lib.hid (allI_any Pl.strokeB 115 (enters_of Tryz.func115 (by kernel_rfl) rfl) v l w hr hl (fun W x => IsValidStroke_any x W))
  have E : Hid (Pl.outlineB l = (Pl.inB l.length 1 6 && l.all Pl.strokeB)) := Lib.hid rfl
  obtain ⟨a, cap, rfl, -⟩ := hr
  cases h1 : Pl.inB l.length 1 6
  · rw [h1, Bool.false_and] at E
    go_enter Tryz.func68, Tryz.ntmps68
    go_wp2_with ((go_at_call 113; refine (in_any _ _ _ _).mono ?_; rintro e w' ⟨rfl, rfl⟩))
    all_goals go_ret
    all_goals exact ⟨ret_bool E.out.symm, Below.refl _ _⟩
  · rw [h1, Bool.true_and] at E
    go_enter Tryz.func68, Tryz.ntmps68
    go_wp2_with (first | (go_at_call 113; refine (in_any _ _ _ _).mono ?_; rintro e w' ⟨rfl, rfl⟩) | (go_at_call 114; refine H.out.mono ?_; rintro e w1 ⟨rfl, hb1⟩))
    all_goals go_ret
    all_goals exact ⟨ret_bool E.out.symm, hb1⟩

theorem all_take_no (p : Int → Bool) (l : List Int) (k : Nat) (h : k < l.length) (y : Int) (hy : l[k] = y) (hp : p y = false) : l.all p = false := by
  subst hy
  exact Bool.eq_false_iff.2 fun ha => by
    have := (List.all_eq_true.1 ha) _ (List.getElem_mem h)
    rw [hp] at this; cases this
theorem all_take_next (p : Int → Bool) (l : List Int) (k : Nat) (h : k < l.length) (y : Int) (hy : l[k] = y) (hp : p y = true) (ha : (l.take k).all p = true) : (l.take (k + 1)).all p = true := by
  subst hy
  rw [List.take_add_one, List.getElem?_eq_getElem h, List.all_append, ha]
  simp [hp]
theorem all_take_all (p : Int → Bool) (l : List Int) (k : Nat) (h : k = l.length) (ha : (l.take k).all p = true) : l.all p = true := by
  subst h
  rwa [List.take_of_length_le (Nat.le_refl _)] at ha

set_option maxHeartbeats 800000 in
theorem l4Good_any (v : Value) (l : List Int) (w : World) (hr : Rows w v l.length 1 (ints l)) (hl : l.length ≤ 1048576) :
    Calls Tryz.prog 71 #[v] w fun e w' => e = .returned (.bool (Pl.outlineB l)) ∧ w = w' := by
  have E : Hid (Pl.outlineB l = (Pl.inB l.length 1 6 && l.all Pl.strokeB)) := Lib.hid rfl
  obtain ⟨a, cap, rfl, _, _, _, _, hcells⟩ := hr
  cases h1 : Pl.inB l.length 1 6
  · rw [h1, Bool.false_and] at E
    clear hcells
    go_enter Tryz.func71, Tryz.ntmps71
    go_wp2_with ((go_at_call 117; refine (l1In_any _ _ _ _).mono ?_; rintro e w' ⟨rfl, rfl⟩))
    all_goals go_ret
    all_goals exact ⟨ret_bool E.out.symm, rfl⟩
  · rw [h1, Bool.true_and] at E
    go_enter Tryz.func71, Tryz.ntmps71
    go_wp2_with ((go_at_call 117; refine (l1In_any _ _ _ _).mono ?_; rintro e w' ⟨rfl, rfl⟩))
    go_loop [3] (fun i => ∃ k : Nat, k ≤ l.length ∧ i = .int .i64 k ∧ Hid ((l.take k).all Pl.strokeB = true)) (fun i => l.length - (intOf i).toNat)
    case atStart => exact ⟨0, Nat.zero_le _, rfl, Lib.hid (by simp)⟩
    case round =>
      obtain ⟨k, hk, rfl, HA⟩ := hrel
      by_cases hlt : k < l.length
      · obtain ⟨b, off, rfl, hsrc⟩ := hcells k _ (ints_at l k hlt)
        have hki : (k : Int) < (l.length : Int) := by omega
        generalize hy : l[k] = y at hsrc
        have HY := Lib.hid hy; clear hy
        cases hq : Pl.strokeB y
        · have HQ := Lib.hid (all_take_no Pl.strokeB l k hlt y HY.out hq)
          clear HY HA
          go_wp2_with ((go_at_call 118; refine (l2Good_any _ _).mono ?_; rintro e w' ⟨rfl, rfl⟩))
          go_ret
          exact ⟨ret_bool (by rw [E.out, HQ.out]), rfl⟩
        · have HQ := Lib.hid (all_take_next Pl.strokeB l k hlt y HY.out hq HA.out)
          clear HY HA
          go_wp2_with ((go_at_call 118; refine (l2Good_any _ _).mono ?_; rintro e w' ⟨rfl, rfl⟩))
          go_round
          case rel => exact ⟨k + 1, by omega, by go_num, HQ⟩
          case measure => simp [intOf]; omega
      · have HQ := Lib.hid (all_take_all Pl.strokeB l k (by omega) HA.out)
        have hki : ¬ (k : Int) < (l.length : Int) := by omega
        clear HA
        go_wp2
        go_ret
        exact ⟨ret_bool (by rw [E.out, HQ.out]), rfl⟩

set_option maxHeartbeats 400000 in
theorem isFold_any (k : Int) (t : ByteArray) (w : World) (ht : t.size ≤ maxLen) :
    Calls Tryz.prog 75 #[.agg #[.int .i64 k, .string t]] w fun e w' => e = .returned (.bool (Pl.foldB k t)) ∧ Below w.heap.size w w' := by
  have E : Hid (Pl.foldB k t = (Pl.inB k 13 22 && Pl.inB t.size 1 8 && Pl.allIn 97 122 t.data.toList)) := Lib.hid rfl
  have HB := Lib.hid (Joins.below_alloc1 w (.cells #[.int .i64 k, .string t] 64))
  cases h1 : Pl.inB k 13 22
  · rw [h1, Bool.false_and, Bool.false_and] at E
    go_enter Tryz.func75, Tryz.ntmps75
    go_wp2_with ((go_at_call 113; refine (in_any _ _ _ _).mono ?_; rintro e w' ⟨rfl, rfl⟩))
    all_goals go_ret
    all_goals exact ⟨ret_bool E.out.symm, HB.out⟩
  · cases h2 : Pl.inB t.size 1 8
    · rw [h1, h2, Bool.and_false, Bool.false_and] at E
      go_enter Tryz.func75, Tryz.ntmps75
      go_wp2_with ((go_at_call 113; refine (in_any _ _ _ _).mono ?_; rintro e w' ⟨rfl, rfl⟩))
      all_goals go_ret
      all_goals exact ⟨ret_bool E.out.symm, HB.out⟩
    · rw [h1, h2, Bool.and_true, Bool.true_and] at E
      go_enter Tryz.func75, Tryz.ntmps75
      go_wp2_with (first | (go_at_call 113; refine (in_any _ _ _ _).mono ?_; rintro e w' ⟨rfl, rfl⟩) | (go_at_call 120; refine (areLetters_any _ _ ht).mono ?_; rintro e w' ⟨rfl, rfl⟩))
      all_goals go_ret
      all_goals exact ⟨ret_bool E.out.symm, HB.out⟩

end Go.Proofs.YtdidgaibgkdjoaaGreatDoor

namespace Go.Proofs.YtdidgaibgkdjoaaGreatDoor
open Go.RowKit

theorem drews2 (w : World) (a b : Nat) : ∃ k, (w.drewN a).drewN b = w.drewN k := ⟨a + b, by unfold World.drewN; simp [Nat.add_assoc]⟩
theorem drews3 (w : World) (a b c : Nat) : ∃ k, ((w.drewN a).drewN b).drewN c = w.drewN k := ⟨a + b + c, by unfold World.drewN; simp [Nat.add_assoc]⟩
set_option maxHeartbeats 400000 in
theorem cmpInt_any (a b : Int) (w : World) :
    Calls Tryz.prog 143 #[.int .i64 a, .int .i64 b] w fun e w' => e = .returned (.int .i64 (if a < b then -1 else if b < a then 1 else 0)) ∧ w = w' := by
  by_cases h1 : a < b
  · have E := Lib.hid (show (if a < b then (-1 : Int) else if b < a then 1 else 0) = -1 from if_pos h1)
    go_enter Tryz.func143, Tryz.ntmps143
    go_wp2
    go_ret
    exact ⟨by first | rfl | exact ret_int E.out.symm, rfl⟩
  · by_cases h2 : b < a
    · have E := Lib.hid (show (if a < b then (-1 : Int) else if b < a then 1 else 0) = 1 by rw [if_neg h1, if_pos h2])
      go_enter Tryz.func143, Tryz.ntmps143
      go_wp2
      go_ret
      exact ⟨by first | rfl | exact ret_int E.out.symm, rfl⟩
    · have E := Lib.hid (show (if a < b then (-1 : Int) else if b < a then 1 else 0) = 0 by rw [if_neg h1, if_neg h2])
      obtain rfl : a = b := by omega
      clear h1 h2
      go_enter Tryz.func143, Tryz.ntmps143
      go_wp2
      go_ret
      exact ⟨by first | rfl | exact ret_int E.out.symm, rfl⟩

set_option maxHeartbeats 1600000 in
theorem Compare_any (v v' : Value) (a b : List Int) (w : World) (hr : Rows w v a.length 1 (ints a)) (hr' : Rows w v' b.length 1 (ints b)) (ha : a.length ≤ 1048576) :
    Calls Tryz.prog 97 #[v, v'] w fun e w' => e = .returned (.int .i64 (Pl.cmpI a b)) ∧ w = w' := by
  obtain ⟨a1, cap, rfl, _, _, _, _, hcells⟩ := hr
  obtain ⟨a2, cap', rfl, _, _, _, _, hcells'⟩ := hr'
  have HC := Lib.hid hcells; have HC' := Lib.hid hcells'
  clear hcells hcells'
  go_enter Tryz.func97, Tryz.ntmps97
  go_wp2
  go_loop [11] (fun i => ∃ k : Nat, k ≤ a.length ∧ i = .int .i64 k ∧ Hid (Pl.sameTo a b k)) (fun i => a.length - (intOf i).toNat)
  case atStart => exact ⟨0, Nat.zero_le _, rfl, Lib.hid (Pl.same_zero a b)⟩
  case round =>
    obtain ⟨k, hk, rfl, HS⟩ := hrel
    have hkb := HS.out.2.1
    by_cases hlt : k < a.length
    · obtain ⟨b1, off, rfl, c1⟩ := HC.out k _ (ints_at a k hlt)
      have hki : (k : Int) < (a.length : Int) := by omega
      by_cases hlb : k < b.length
      · obtain ⟨b2, off', rfl, c2⟩ := HC'.out k _ (ints_at b k hlb)
        have hkj : (k : Int) < (b.length : Int) := by omega
        by_cases h1 : a[k] < b[k]
        · have E := Lib.hid (Pl.cmp_lt HS.out hlt hlb h1)
          generalize a[k] = x at c1 h1
          generalize b[k] = y at c2 h1
          go_wp2_with (go_at_call 143; refine (cmpInt_any _ _ _).mono ?_; rintro e w' ⟨he, rfl⟩; rw [if_pos h1] at he; subst he)
          go_ret
          exact ⟨ret_int E.out.symm, rfl⟩
        · by_cases h2 : b[k] < a[k]
          · have E := Lib.hid (Pl.cmp_gt HS.out hlt hlb h2)
            generalize a[k] = x at c1 h1 h2
            generalize b[k] = y at c2 h1 h2
            go_wp2_with (go_at_call 143; refine (cmpInt_any _ _ _).mono ?_; rintro e w' ⟨he, rfl⟩; rw [if_neg h1, if_pos h2] at he; subst he)
            go_ret
            exact ⟨ret_int E.out.symm, rfl⟩
          · have HN := Lib.hid (Pl.same_next HS.out hlt hlb (by omega))
            generalize a[k] = x at c1 h1 h2
            generalize b[k] = y at c2 h1 h2
            go_wp2_with (go_at_call 143; refine (cmpInt_any _ _ _).mono ?_; rintro e w' ⟨he, rfl⟩; rw [if_neg h1, if_neg h2] at he; subst he)
            go_round
            case rel => exact ⟨k + 1, by omega, by go_num, HN⟩
            case measure => simp [intOf]; omega
      · obtain rfl : k = b.length := by omega
        have E := Lib.hid (Pl.cmp_long HS.out hlt)
        go_wp2
        go_ret
        exact ⟨ret_int E.out.symm, rfl⟩
    · obtain rfl : k = a.length := by omega
      by_cases hlb : a.length < b.length
      · have E := Lib.hid (Pl.cmp_short HS.out hlb)
        have hli : (a.length : Int) < (b.length : Int) := by omega
        go_wp2
        go_ret
        exact ⟨ret_int E.out.symm, rfl⟩
      · have E := Lib.hid (Pl.cmp_same HS.out (by omega))
        have hli : ¬ (a.length : Int) < (b.length : Int) := by omega
        go_wp2
        go_ret
        exact ⟨ret_int E.out.symm, rfl⟩

set_option maxHeartbeats 1600000 in
theorem l4Compare_any (v v' : Value) (a b : List Int) (w : World) (hr : Rows w v a.length 1 (ints a)) (hr' : Rows w v' b.length 1 (ints b)) (ha : a.length ≤ 1048576) :
    Calls Tryz.prog 99 #[v, v'] w fun e w' => e = .returned (.int .i64 (Pl.cmpI a b)) ∧ Drew w w' := by
  obtain ⟨a1, cap, rfl, _, _, _, _, hcells⟩ := hr
  obtain ⟨a2, cap', rfl, _, _, _, _, hcells'⟩ := hr'
  have HC := Lib.hid hcells; have HC' := Lib.hid hcells'
  clear hcells hcells'
  go_enter Tryz.func99, Tryz.ntmps99
  go_wp2
  go_loopw [5] (fun i wr => ∃ k : Nat, k ≤ a.length ∧ i = .int .i64 k ∧ Hid (Pl.sameTo a b k) ∧ ∃ n, wr = w.drewN n) (fun i _ => a.length - (intOf i).toNat)
  case atStart => exact ⟨0, Nat.zero_le _, rfl, Lib.hid (Pl.same_zero a b), 0, rfl⟩
  case round =>
    obtain ⟨k, hk, rfl, HS, n, rfl⟩ := hrel
    have hkb := HS.out.2.1
    by_cases hlt : k < a.length
    · obtain ⟨b1, off, rfl, c1⟩ := HC.out k _ (ints_at a k hlt)
      have hki : (k : Int) < (a.length : Int) := by omega
      by_cases hlb : k < b.length
      · obtain ⟨b2, off', rfl, c2⟩ := HC'.out k _ (ints_at b k hlb)
        have hkj : (k : Int) < (b.length : Int) := by omega
        by_cases h1 : a[k] < b[k]
        · have E := Lib.hid (Pl.cmp_lt HS.out hlt hlb h1)
          generalize a[k] = x at c1 h1
          generalize b[k] = y at c2 h1
          go_wp2
          go_quiet (fail)
          go_wp2
          go_ret
          exact ⟨ret_int E.out.symm, by first | exact ⟨_, rfl⟩ | exact drews2 _ _ _ | exact drews3 _ _ _ _⟩
        · by_cases h2 : b[k] < a[k]
          · have E := Lib.hid (Pl.cmp_gt HS.out hlt hlb h2)
            generalize a[k] = x at c1 h1 h2
            generalize b[k] = y at c2 h1 h2
            go_wp2
            go_quiet (fail)
            go_wp2
            go_quiet (fail)
            go_wp2
            go_ret
            exact ⟨ret_int E.out.symm, by first | exact ⟨_, rfl⟩ | exact drews2 _ _ _ | exact drews3 _ _ _ _⟩
          · have HN := Lib.hid (Pl.same_next HS.out hlt hlb (by omega))
            generalize a[k] = x at c1 h1 h2
            generalize b[k] = y at c2 h1 h2
            go_wp2
            go_quiet (fail)
            go_wp2
            go_quiet (fail)
            go_wp2
            go_roundw
            case rel => exact ⟨k + 1, by omega, by go_num, HN, by first | exact ⟨_, rfl⟩ | exact drews2 _ _ _ | exact drews3 _ _ _ _⟩
            case measure => simp [intOf]; omega
      · obtain rfl : k = b.length := by omega
        have E := Lib.hid (Pl.cmp_long HS.out hlt)
        have hkj : ¬ (b.length : Int) < (b.length : Int) := by omega
        have hkz : ¬ (a.length : Int) < (b.length : Int) := by omega
        go_wp2
        go_ret
        exact ⟨ret_int E.out.symm, by first | exact ⟨_, rfl⟩ | exact drews2 _ _ _ | exact drews3 _ _ _ _⟩
    · obtain rfl : k = a.length := by omega
      by_cases hlb : a.length < b.length
      · have E := Lib.hid (Pl.cmp_short HS.out hlb)
        have hli : (a.length : Int) < (b.length : Int) := by omega
        go_wp2
        go_ret
        exact ⟨ret_int E.out.symm, by first | exact ⟨_, rfl⟩ | exact drews2 _ _ _ | exact drews3 _ _ _ _⟩
      · have E := Lib.hid (Pl.cmp_same HS.out (by omega))
        have hli : ¬ (a.length : Int) < (b.length : Int) := by omega
        have hli2 : ¬ (b.length : Int) < (a.length : Int) := by omega
        go_wp2
        go_ret
        exact ⟨ret_int E.out.symm, by first | exact ⟨_, rfl⟩ | exact drews2 _ _ _ | exact drews3 _ _ _ _⟩

end Go.Proofs.YtdidgaibgkdjoaaGreatDoor

namespace Go.Proofs.YtdidgaibgkdjoaaGreatDoor
open Go.RowKit

theorem same_not {a b : List Int} {k : Nat} (ha : k < a.length) (hb : k < b.length) (h : a[k] ≠ b[k]) : (a == b) = false := by
  rw [beq_eq_false_iff_ne]
  intro he
  subst he
  exact h rfl
theorem same_lens {a b : List Int} (h : a.length ≠ b.length) : (a == b) = false := by
  rw [beq_eq_false_iff_ne]
  intro he
  subst he
  exact h rfl
theorem same_done {a b : List Int} (h : Pl.sameTo a b a.length) (hl : a.length = b.length) : (a == b) = true := by
  obtain ⟨_, _, h3⟩ := h
  rw [List.take_length, hl, List.take_length] at h3
  rw [beq_iff_eq]
  exact h3

set_option maxHeartbeats 1600000 in
theorem l1Same_any (v v' : Value) (a b : List Int) (w : World) (hr : Rows w v a.length 1 (ints a)) (hr' : Rows w v' b.length 1 (ints b)) (ha : a.length ≤ 1048576) :
    Calls Tryz.prog 147 #[v, v'] w fun e w' => e = .returned (.bool (a == b)) ∧ Drew w w' := by
  obtain ⟨a1, cap, rfl, _, _, _, _, hcells⟩ := hr
  obtain ⟨a2, cap', rfl, _, _, _, _, hcells'⟩ := hr'
  have HC := Lib.hid hcells; have HC' := Lib.hid hcells'
  clear hcells hcells'
  by_cases hn : a.length = b.length
  · rw [← hn]
    have HN := Lib.hid hn
    clear hn
    go_enter Tryz.func147, Tryz.ntmps147
    go_wp2
    go_loopw [5] (fun i wr => ∃ k : Nat, k ≤ a.length ∧ i = .int .i64 k ∧ Hid (Pl.sameTo a b k) ∧ ∃ n, wr = w.drewN n) (fun i _ => a.length - (intOf i).toNat)
    case atStart => exact ⟨0, Nat.zero_le _, rfl, Lib.hid (Pl.same_zero a b), 0, rfl⟩
    case round =>
      obtain ⟨k, hk, rfl, HS, n, rfl⟩ := hrel
      by_cases hlt : k < a.length
      · have hlb : k < b.length := by have := HN.out; omega
        obtain ⟨b1, off, rfl, c1⟩ := HC.out k _ (ints_at a k hlt)
        have hki : (k : Int) < (a.length : Int) := by omega
        obtain ⟨b2, off', rfl, c2⟩ := HC'.out k _ (ints_at b k hlb)
        by_cases h1 : a[k] = b[k]
        · have HS2 := Lib.hid (Pl.same_next HS.out hlt hlb h1)
          rw [← h1] at c2
          clear h1 hlb
          generalize a[k] = x at c1 c2
          go_wp2
          go_quiet (fail)
          go_wp2
          go_roundw
          case rel => exact ⟨k + 1, by omega, by go_num, HS2, by first | exact ⟨_, rfl⟩ | exact drews2 _ _ _ | exact drews3 _ _ _ _⟩
          case measure => simp [intOf]; omega
        · have E := Lib.hid (same_not hlt hlb h1)
          generalize a[k] = x at c1 h1
          generalize b[k] = y at c2 h1
          clear hlb
          go_wp2
          go_quiet (fail)
          go_wp2
          go_ret
          exact ⟨ret_bool E.out.symm, by first | exact ⟨_, rfl⟩ | exact drews2 _ _ _ | exact drews3 _ _ _ _⟩
      · obtain rfl : k = a.length := by omega
        have E := Lib.hid (same_done HS.out HN.out)
        go_wp2
        go_ret
        exact ⟨ret_bool E.out.symm, by first | exact ⟨_, rfl⟩ | exact drews2 _ _ _ | exact drews3 _ _ _ _⟩
  · have E := Lib.hid (same_lens hn)
    have hnn : ¬ (a.length : Int) = (b.length : Int) := by omega
    go_enter Tryz.func147, Tryz.ntmps147
    go_wp2
    go_ret
    exact ⟨ret_bool E.out.symm, 0, rfl⟩
set_option maxHeartbeats 1600000 in
theorem Equal_any (v v' : Value) (a b : List Int) (w : World) (hr : Rows w v a.length 1 (ints a)) (hr' : Rows w v' b.length 1 (ints b)) (ha : a.length ≤ 1048576) :
    Calls Tryz.prog 146 #[v, v'] w fun e w' => e = .returned (.bool (a == b)) ∧ Drew w w' := by
  obtain ⟨a1, cap, rfl, _, _, _, _, hcells⟩ := hr
  obtain ⟨a2, cap', rfl, _, _, _, _, hcells'⟩ := hr'
  have HC := Lib.hid hcells; have HC' := Lib.hid hcells'
  clear hcells hcells'
  by_cases hn : a.length = b.length
  · rw [← hn]
    have HN := Lib.hid hn
    clear hn
    go_enter Tryz.func146, Tryz.ntmps146
    go_wp2
    go_loopw [13] (fun i wr => ∃ k : Nat, k ≤ a.length ∧ i = .int .i64 k ∧ Hid (Pl.sameTo a b k) ∧ ∃ n, wr = w.drewN n) (fun i _ => a.length - (intOf i).toNat)
    case atStart => exact ⟨0, Nat.zero_le _, rfl, Lib.hid (Pl.same_zero a b), 0, rfl⟩
    case round =>
      obtain ⟨k, hk, rfl, HS, n, rfl⟩ := hrel
      by_cases hlt : k < a.length
      · have hlb : k < b.length := by have := HN.out; omega
        obtain ⟨b1, off, rfl, c1⟩ := HC.out k _ (ints_at a k hlt)
        have hki : (k : Int) < (a.length : Int) := by omega
        obtain ⟨b2, off', rfl, c2⟩ := HC'.out k _ (ints_at b k hlb)
        by_cases h1 : a[k] = b[k]
        · have HS2 := Lib.hid (Pl.same_next HS.out hlt hlb h1)
          rw [← h1] at c2
          clear h1 hlb
          generalize a[k] = x at c1 c2
          go_wp2
          go_quiet (fail)
          go_wp2
          go_roundw
          case rel => exact ⟨k + 1, by omega, by go_num, HS2, by first | exact ⟨_, rfl⟩ | exact drews2 _ _ _ | exact drews3 _ _ _ _⟩
          case measure => simp [intOf]; omega
        · have E := Lib.hid (same_not hlt hlb h1)
          generalize a[k] = x at c1 h1
          generalize b[k] = y at c2 h1
          clear hlb
          go_wp2
          go_quiet (fail)
          go_wp2
          go_ret
          exact ⟨ret_bool E.out.symm, by first | exact ⟨_, rfl⟩ | exact drews2 _ _ _ | exact drews3 _ _ _ _⟩
      · obtain rfl : k = a.length := by omega
        have E := Lib.hid (same_done HS.out HN.out)
        go_wp2
        go_ret
        exact ⟨ret_bool E.out.symm, by first | exact ⟨_, rfl⟩ | exact drews2 _ _ _ | exact drews3 _ _ _ _⟩
  · have E := Lib.hid (same_lens hn)
    have hnn : ¬ (a.length : Int) = (b.length : Int) := by omega
    go_enter Tryz.func146, Tryz.ntmps146
    go_wp2
    go_ret
    exact ⟨ret_bool E.out.symm, 0, rfl⟩

end Go.Proofs.YtdidgaibgkdjoaaGreatDoor

namespace Go.Proofs.YtdidgaibgkdjoaaGreatDoor
open Go.RowKit

/-- the cells of a list of folds -/
def folds : List (Int × ByteArray) → List Value
  | [] => []
  | p :: r => .int .i64 p.1 :: .string p.2 :: folds r
theorem folds_length (l : List (Int × ByteArray)) : (folds l).length = l.length * 2 := by
  induction l with
  | nil => rfl
  | cons p r ih => simp only [folds, List.length_cons, ih]; omega
theorem folds_at (l : List (Int × ByteArray)) : ∀ (k : Nat) (h : k < l.length), (folds l)[k * 2]? = some (.int .i64 l[k].1) ∧ (folds l)[k * 2 + 1]? = some (.string l[k].2) := by
  induction l with
  | nil => intro k h; simp at h
  | cons p r ih =>
    intro k h
    cases k with
    | zero => exact ⟨rfl, rfl⟩
    | succ k =>
      have hk : k < r.length := by simpa using h
      have := ih k hk
      rw [show (k + 1) * 2 = k * 2 + 1 + 1 by omega]
      simpa [folds] using this

theorem fold_cells {w : World} {a : Option Addr} {l : List (Int × ByteArray)} (hc : CellsAt w a (folds l)) (k : Nat) (h : k < l.length) :
    ∃ b off, a = some ⟨b, off, none⟩ ∧ w.cell? ⟨b, off + k * 2, none⟩ = some (.int .i64 l[k].1) ∧ w.cell? ⟨b, off + k * 2 + 1, none⟩ = some (.string l[k].2) := by
  obtain ⟨b, off, h1, h2⟩ := hc _ _ (folds_at l k h).1
  obtain ⟨b', off', h3, h4⟩ := hc _ _ (folds_at l k h).2
  rw [h1] at h3
  cases h3
  exact ⟨b, off, h1, h2, h4⟩
theorem keepc {w w' : World} (hb : Below w.heap.size w w') {b o : Nat} {u : Value} (h : w.cell? ⟨b, o, none⟩ = some u) : w'.cell? ⟨b, o, none⟩ = some u := by
  rw [hb.cell (World.block_lt_of_cell? _ _ h)]; exact h

/-- no text of a fold is long -/
def FoldsFit (l : List (Int × ByteArray)) : Prop := l.length ≤ 1048576 ∧ ∀ p ∈ l, p.2.size ≤ 1048576
theorem fits_at {l : List (Int × ByteArray)} (h : FoldsFit l) (k : Nat) (hk : k < l.length) : (l[k]).2.size ≤ 1048576 := h.2 _ (List.getElem_mem hk)

theorem take_next {α : Type} {Q : α → Prop} {l : List α} {k : Nat} (h : k < l.length) (ha : ∀ p ∈ l.take k, Q p) (hq : Q l[k]) : ∀ p ∈ l.take (k + 1), Q p := by
  intro p hp
  rw [List.take_add_one, List.getElem?_eq_getElem h, List.mem_append] at hp
  rcases hp with hp | hp
  · exact ha p hp
  · simp only [Option.toList_some, List.mem_singleton] at hp
    subst hp; exact hq

theorem Tryz.infoFold : (Tryz.prog.info? 64).map (fun i => (i.zero, i.size, i.bytes)) = some (some (.agg #[.int .i64 0, .string ⟨#[]⟩]), 2, 24) := by kernel_rfl

theorem half_set2 (l : List (Int × ByteArray)) (zs : List Value) (k : Nat) (h : (folds l).length = zs.length) (hk : k < l.length) :
    ((half (folds l) zs (k * 2)).set (k * 2) (.int .i64 l[k].1)).set (k * 2 + 1) (.string l[k].2) = half (folds l) zs ((k + 1) * 2) := by
  rw [half_set _ _ _ _ h (folds_at l k hk).1, half_set _ _ _ _ h (folds_at l k hk).2, show (k + 1) * 2 = k * 2 + 1 + 1 by omega]

theorem below_drew1 {B : Nat} {w w' : World} (h : Below B w w') : Below B w w'.drew := h.trans (Joins.below_draws _ _ 1)

end Go.Proofs.YtdidgaibgkdjoaaGreatDoor

namespace Go.Proofs.YtdidgaibgkdjoaaGreatDoor
open Go.RowKit

def strokesOk (l : List Int) : Bool := decide (l.length ≤ 60) && l.all Pl.strokeB
theorem strokes_bad {l : List Int} (h : l.all Pl.strokeB = false) : strokesOk l = false := by unfold strokesOk; rw [h, Bool.and_false]
theorem strokes_long {l : List Int} (h : ¬ l.length ≤ 60) : strokesOk l = false := by unfold strokesOk; rw [decide_eq_false h, Bool.false_and]
theorem strokes_good {l : List Int} (h : l.length ≤ 60) (ha : l.all Pl.strokeB = true) : strokesOk l = true := by unfold strokesOk; rw [decide_eq_true h, ha]; rfl

set_option maxHeartbeats 800000 in
theorem isStrokeList_any (v : Value) (l : List Int) (w : World) (hr : Rows w v l.length 1 (ints l)) (hl : l.length ≤ 1048576) :
    Calls Tryz.prog 130 #[v] w fun e w' => e = .returned (.bool (strokesOk l)) ∧ Below w.heap.size w w' := by
  have H := Lib.hid (allI_any Pl.strokeB 115 (enters_of Tryz.func115 (by kernel_rfl) rfl) v l w hr hl (fun W x => IsValidStroke_any x W))
  obtain ⟨a, cap, rfl, _⟩ := hr
  by_cases h60 : l.length ≤ 60
  · have h60' : (l.length : Int) ≤ 60 := by omega
    have E := Lib.hid (show strokesOk l = l.all Pl.strokeB by unfold strokesOk; rw [decide_eq_true h60, Bool.true_and])
    go_enter Tryz.func130, Tryz.ntmps130
    go_wp2_with (go_at_call 114; (with_reducible refine H.out.mono ?_); rintro e w1 ⟨rfl, hb1⟩)
    go_ret
    exact ⟨ret_bool E.out.symm, hb1⟩
  · have h60' : ¬ (l.length : Int) ≤ 60 := by omega
    have E := Lib.hid (strokes_long h60)
    go_enter Tryz.func130, Tryz.ntmps130
    go_wp2
    go_ret
    exact ⟨ret_bool E.out.symm, Below.refl _ _⟩

set_option maxHeartbeats 1600000 in
theorem l11Strokes_any (v : Value) (l : List Int) (w : World) (hr : Rows w v l.length 1 (ints l)) (hl : l.length ≤ 1048576) :
    Calls Tryz.prog 79 #[v] w fun e w' => e = .returned (.bool (strokesOk l)) ∧ w = w' := by
  obtain ⟨a, cap, rfl, _, _, _, _, hcells⟩ := hr
  have HC := Lib.hid hcells
  clear hcells
  go_enter Tryz.func79, Tryz.ntmps79
  go_wp2
  go_loop [3] (fun i => ∃ k : Nat, k ≤ l.length ∧ k ≤ 61 ∧ i = .int .i64 k ∧ Hid ((l.take k).all Pl.strokeB = true)) (fun i => l.length - (intOf i).toNat)
  case atStart => exact ⟨0, Nat.zero_le _, by omega, rfl, Lib.hid (by simp)⟩
  case round =>
    obtain ⟨k, hk, hk61, rfl, HA⟩ := hrel
    by_cases hlt : k < l.length
    · have hki : (k : Int) < (l.length : Int) := by omega
      by_cases h6 : k ≤ 60
      · have h6' : (k : Int) ≤ 60 := by omega
        obtain ⟨b, off, rfl, hsrc⟩ := HC.out k _ (ints_at l k hlt)
        generalize hy : l[k] = y at hsrc
        have HY := Lib.hid hy; clear hy
        cases hq : Pl.strokeB y
        · have HQ := Lib.hid (strokes_bad (all_take_no Pl.strokeB l k hlt y HY.out hq))
          clear HY HA
          go_wp2_with ((go_at_call 118; refine (l2Good_any _ _).mono ?_; rintro e w' ⟨rfl, rfl⟩))
          go_ret
          exact ⟨ret_bool HQ.out.symm, rfl⟩
        · have HQ := Lib.hid (all_take_next Pl.strokeB l k hlt y HY.out hq HA.out)
          clear HY HA
          go_wp2_with ((go_at_call 118; refine (l2Good_any _ _).mono ?_; rintro e w' ⟨rfl, rfl⟩))
          go_round
          case rel => exact ⟨k + 1, by omega, by omega, by go_num, HQ⟩
          case measure => simp [intOf]; omega
      · have h6' : ¬ (k : Int) ≤ 60 := by omega
        have E := Lib.hid (strokes_long (show ¬ l.length ≤ 60 by omega))
        have h7 : ¬ (l.length : Int) ≤ 60 := by omega
        go_wp2
        go_ret
        exact ⟨ret_bool E.out.symm, rfl⟩
    · have HQ := Lib.hid (all_take_all Pl.strokeB l k (by omega) HA.out)
      have hki : ¬ (k : Int) < (l.length : Int) := by omega
      by_cases h60 : l.length ≤ 60
      · have h60' : (l.length : Int) ≤ 60 := by omega
        have E := Lib.hid (strokes_good h60 HQ.out)
        go_wp2
        go_ret
        exact ⟨ret_bool E.out.symm, rfl⟩
      · have h60' : ¬ (l.length : Int) ≤ 60 := by omega
        have E := Lib.hid (strokes_long h60)
        go_wp2
        go_ret
        exact ⟨ret_bool E.out.symm, rfl⟩

end Go.Proofs.YtdidgaibgkdjoaaGreatDoor

namespace Go.Proofs.YtdidgaibgkdjoaaGreatDoor
open Go.RowKit

/-- the cells of a list of pieces -/
def pieces : List (Int × Int × ByteArray) → List Value
  | [] => []
  | p :: r => .int .i64 p.1 :: .int .i64 p.2.1 :: .string p.2.2 :: pieces r
theorem pieces_length (l : List (Int × Int × ByteArray)) : (pieces l).length = l.length * 3 := by
  induction l with
  | nil => rfl
  | cons p r ih => simp only [pieces, List.length_cons, ih]; omega
theorem pieces_at (l : List (Int × Int × ByteArray)) : ∀ (k : Nat) (h : k < l.length), (pieces l)[k * 3]? = some (.int .i64 l[k].1) ∧ (pieces l)[k * 3 + 1]? = some (.int .i64 l[k].2.1) ∧ (pieces l)[k * 3 + 2]? = some (.string l[k].2.2) := by
  induction l with
  | nil => intro k h; simp at h
  | cons p r ih =>
    intro k h
    cases k with
    | zero => exact ⟨rfl, rfl, rfl⟩
    | succ k =>
      have hk : k < r.length := by simpa using h
      have := ih k hk
      rw [show (k + 1) * 3 = k * 3 + 1 + 1 + 1 by omega]
      simpa [pieces] using this

theorem piece_cells {w : World} {a : Option Addr} {l : List (Int × Int × ByteArray)} (hc : CellsAt w a (pieces l)) (k : Nat) (h : k < l.length) :
    ∃ b off, a = some ⟨b, off, none⟩ ∧ w.cell? ⟨b, off + k * 3, none⟩ = some (.int .i64 l[k].1) ∧ w.cell? ⟨b, off + k * 3 + 1, none⟩ = some (.int .i64 l[k].2.1) ∧ w.cell? ⟨b, off + k * 3 + 2, none⟩ = some (.string l[k].2.2) := by
  obtain ⟨b, off, h1, h2⟩ := hc _ _ (pieces_at l k h).1
  obtain ⟨b', off', h3, h4⟩ := hc _ _ (pieces_at l k h).2.1
  obtain ⟨b2, off2, h5, h6⟩ := hc _ _ (pieces_at l k h).2.2
  rw [h1] at h3 h5
  cases h3
  cases h5
  exact ⟨b, off, h1, h2, h4, h6⟩

/-- no text of a piece is long -/
def PiecesFit (l : List (Int × Int × ByteArray)) : Prop := l.length ≤ 1048576 ∧ ∀ p ∈ l, p.2.2.size ≤ 1048576
theorem pfits_at {l : List (Int × Int × ByteArray)} (h : PiecesFit l) (k : Nat) (hk : k < l.length) : (l[k]).2.2.size ≤ 1048576 := h.2 _ (List.getElem_mem hk)

theorem Tryz.infoPiece : (Tryz.prog.info? 166).map (fun i => (i.zero, i.size, i.bytes)) = some (some (.agg #[.int .i64 0, .int .i64 0, .string ⟨#[]⟩]), 3, 32) := by kernel_rfl

theorem half_set3 (l : List (Int × Int × ByteArray)) (zs : List Value) (k : Nat) (h : (pieces l).length = zs.length) (hk : k < l.length) :
    (((half (pieces l) zs (k * 3)).set (k * 3) (.int .i64 l[k].1)).set (k * 3 + 1) (.int .i64 l[k].2.1)).set (k * 3 + 2) (.string l[k].2.2) = half (pieces l) zs ((k + 1) * 3) := by
  rw [half_set _ _ _ _ h (pieces_at l k hk).1, half_set _ _ _ _ h (pieces_at l k hk).2.1, half_set _ _ _ _ h (pieces_at l k hk).2.2, show (k + 1) * 3 = k * 3 + 2 + 1 by omega]

end Go.Proofs.YtdidgaibgkdjoaaGreatDoor

namespace Go.Proofs.YtdidgaibgkdjoaaGreatDoor
open Go.RowKit

/-- no outline and no text of an entry is long -/
def EntsFit (l : List Ent) : Prop := l.length ≤ 1048576 ∧ ∀ p ∈ l, p.1.length ≤ 1048576 ∧ p.2.size ≤ 1048576
theorem EntsFit.at {l : List Ent} (h : EntsFit l) (k : Nat) (hk : k < l.length) : (l[k]).1.length ≤ 1048576 ∧ (l[k]).2.size ≤ 1048576 := h.2 _ (List.getElem_mem hk)

set_option maxHeartbeats 400000 in
theorem szIntS_any (u : Value) (l : List Int) (n : Int) (w : World) (hr : Rows w u l.length 1 (ints l)) (h0 : 0 ≤ n) (h1 : n ≤ 1048576) :
    Calls Tryz.prog 86 #[u, .int .i64 n] w fun e w' => e = .returned (.int .i64 (if n < (l.length : Int) then -1 else n - l.length)) ∧ w = w' := by
  obtain ⟨a, cap, rfl, hnc, hcm, _, _, _⟩ := hr
  unfold maxLen at hcm
  by_cases h : n < (l.length : Int)
  · have E := Lib.hid (show (if n < (l.length : Int) then -1 else n - l.length) = -1 from if_pos h)
    go_enter Tryz.func86, Tryz.ntmps86
    go_wp2
    go_ret
    exact ⟨by first | rfl | exact ret_int E.out.symm, rfl⟩
  · have E := Lib.hid (show (if n < (l.length : Int) then -1 else n - l.length) = n - l.length from if_neg h)
    go_enter Tryz.func86, Tryz.ntmps86
    go_wp2
    go_ret
    exact ⟨by first | rfl | exact ret_int E.out.symm, rfl⟩

set_option maxHeartbeats 800000 in
theorem szEntry_any (u : Value) (l : List Int) (t : ByteArray) (n : Int) (w : World) (hr : Rows w u l.length 1 (ints l)) (ht : t.size ≤ maxLen) (h0 : 0 ≤ n) (h1 : n ≤ 1048576) :
    Calls Tryz.prog 123 #[.agg #[u, .string t], .int .i64 n] w fun e w' => e = .returned (.int .i64 (if n < (l.length : Int) + (t.size : Int) then -1 else n - l.length - t.size)) ∧ Below w.heap.size w w' := by
  have HB := Lib.hid (Joins.below_alloc1 w (.cells #[u, .string t] 154))
  have HR := Lib.hid (hr.keep HB.out)
  obtain ⟨a, cap, rfl, hnc, hcm, _, _, _⟩ := hr
  unfold maxLen at ht hcm
  by_cases h : n < (l.length : Int)
  · have E := Lib.hid (show (if n < (l.length : Int) + (t.size : Int) then -1 else n - l.length - t.size) = -1 from if_pos (by omega))
    go_enter Tryz.func123, Tryz.ntmps123
    go_wp2_with (go_at_call 86; refine (szIntS_any _ l _ _ HR.out h0 h1).mono ?_; rintro e w1 ⟨he, rfl⟩; rw [if_pos h] at he; subst he)
    go_ret
    exact ⟨by first | rfl | exact ret_int E.out.symm, HB.out⟩
  · by_cases h2 : n < (l.length : Int) + (t.size : Int)
    · have E := Lib.hid (show (if n < (l.length : Int) + (t.size : Int) then -1 else n - l.length - t.size) = -1 from if_pos h2)
      go_enter Tryz.func123, Tryz.ntmps123
      go_wp2_with (go_at_call 86; refine (szIntS_any _ l _ _ HR.out h0 h1).mono ?_; rintro e w1 ⟨he, rfl⟩; rw [if_neg h] at he; subst he)
      go_ret
      exact ⟨by first | rfl | exact ret_int E.out.symm, HB.out⟩
    · have E := Lib.hid (show (if n < (l.length : Int) + (t.size : Int) then -1 else n - l.length - t.size) = n - l.length - t.size from if_neg h2)
      go_enter Tryz.func123, Tryz.ntmps123
      go_wp2_with (go_at_call 86; refine (szIntS_any _ l _ _ HR.out h0 h1).mono ?_; rintro e w1 ⟨he, rfl⟩; rw [if_neg h] at he; subst he)
      go_ret
      exact ⟨by first | rfl | exact ret_int E.out.symm, HB.out⟩

/-- what is left behind a look at the entries' sizes -/
def SzLeft (n : Int) (P : Prop) (w : World) (e : Ending) (w' : World) : Prop := (∃ r : Int, e = .returned (.int .i64 r) ∧ -1 ≤ r ∧ r ≤ n ∧ (0 ≤ r → P)) ∧ Below w.heap.size w w'

set_option maxHeartbeats 1600000 in
theorem szEntryS_any (v : Value) (l : List Ent) (n : Int) (w : World) (hr : Ents w v l) (hsz : ∀ q ∈ l, (∀ x ∈ q.1, (Lit.int .i64 x).wf = true) ∧ q.2.size ≤ maxLen) (hn0 : 0 ≤ n) (hn1 : n ≤ 1048576) :
    Calls Tryz.prog 78 #[v, .int .i64 n] w (SzLeft n (EntsFit l) w) := by
  have HE := Lib.hid hr
  have HZ := Lib.hid hsz
  obtain ⟨a, cap, rfl, hnc, hcm⟩ := ent_form hr
  clear hsz hr
  unfold maxLen at hcm
  by_cases h0 : n < (l.length : Int)
  · go_enter Tryz.func78, Tryz.ntmps78
    go_wp2
    go_ret
    exact ⟨⟨-1, rfl, by omega, by omega, fun h => absurd h (by omega)⟩, Below.refl _ _⟩
  · go_enter Tryz.func78, Tryz.ntmps78
    go_wp2
    go_loopw [1, 5] (fun lf i wr => ∃ (k : Nat) (m : Int), k ≤ l.length ∧ i = .int .i64 k ∧ lf = .int .i64 m ∧ 0 ≤ m ∧ m ≤ n - l.length ∧ Hid (∀ p ∈ l.take k, p.1.length ≤ 1048576 ∧ p.2.size ≤ 1048576) ∧ Below w.heap.size w wr) (fun _ i _ => l.length - (intOf i).toNat)
    case atStart => exact ⟨0, _, Nat.zero_le _, rfl, rfl, by omega, by omega, Lib.hid (by simp), Below.refl _ _⟩
    case round =>
      obtain ⟨k, m, hk, rfl, rfl, hm0, hm1, HA, hb⟩ := hrel
      have HB := Lib.hid hb; clear hb
      by_cases hlt : k < l.length
      · obtain ⟨b, off, u, rfl, c1, c2, c3⟩ := ent_at (HE.out.keep HB.out) k hlt
        have hs := (HZ.out _ (List.getElem_mem hlt)).2
        have HN := Lib.hid (take_next (Q := fun p : Ent => p.1.length ≤ 1048576 ∧ p.2.size ≤ 1048576) hlt HA.out)
        have hki : (k : Int) < (l.length : Int) := by omega
        have HR := Lib.hid c3
        generalize l[k] = p at c1 c2 c3 hs HN HR
        obtain ⟨pl, pt⟩ := p
        replace hs : pt.size ≤ maxLen := hs
        obtain ⟨au, cu, rfl, hcu, hmu⟩ := rows_form c3
        clear HA c3
        replace HR : Hid (Rows wr (.slice au pl.length cu) pl.length 1 (ints pl)) := HR
        by_cases hn : m < (pl.length : Int) + (pt.size : Int)
        · go_wp2_with (go_at_call 123; refine (szEntry_any _ pl _ _ _ HR.out hs hm0 (by omega)).mono ?_; rintro e w1 ⟨he, hb1⟩; rw [if_pos hn] at he; subst he)
          go_ret
          exact ⟨⟨-1, rfl, by omega, by omega, fun h => absurd h (by omega)⟩, HB.out.trans (hb1.mono HB.out.size)⟩
        · have HN2 := Lib.hid (HN.out ⟨by show pl.length ≤ 1048576; omega, by show pt.size ≤ 1048576; omega⟩)
          clear HN
          go_wp2_with (go_at_call 123; refine (szEntry_any _ pl _ _ _ HR.out hs hm0 (by omega)).mono ?_; rintro e w1 ⟨he, hb1⟩; rw [if_neg hn] at he; subst he)
          go_roundw
          case rel => exact ⟨k + 1, m - pl.length - pt.size, by omega, by go_num, rfl, by omega, by omega, HN2, HB.out.trans (hb1.mono HB.out.size)⟩
          case measure => simp [intOf]; omega
      · obtain rfl : k = l.length := by omega
        have HF : Hid (EntsFit l) := Lib.hid ⟨by omega, by have := HA.out; rwa [List.take_of_length_le (Nat.le_refl _)] at this⟩
        clear HA
        go_wp2
        go_ret
        exact ⟨⟨m, rfl, by omega, by omega, fun _ => HF.out⟩, HB.out⟩

set_option maxHeartbeats 400000 in
theorem szDictionary_any (v : Value) (l : List Ent) (n : Int) (w : World) (hr : Ents w v l) (hsz : ∀ q ∈ l, (∀ x ∈ q.1, (Lit.int .i64 x).wf = true) ∧ q.2.size ≤ maxLen) (hn0 : 0 ≤ n) (hn1 : n ≤ 1048576) :
    Calls Tryz.prog 31 #[.agg #[v], .int .i64 n] w (SzLeft n (EntsFit l) w) := by
  have HB := Lib.hid (Joins.below_alloc1 w (.cells #[v] 68))
  have HS := Lib.hid (szEntryS_any v l n _ (hr.keep HB.out) hsz hn0 hn1)
  clear hsz hr
  go_enter Tryz.func31, Tryz.ntmps31
  go_upto_region 2 with (go_at_call 78; refine HS.out.mono ?_; rintro e w1 ⟨⟨r, rfl, h1, h2, h3⟩, hb1⟩; have HP := Lib.hid h3; have HB1 := Lib.hid (HB.out.trans (hb1.mono HB.out.size)); clear h3 hb1)
  by_cases hr0 : r < 0
  · go_wp2
    go_ret
    exact ⟨⟨-1, rfl, by omega, by omega, fun h => absurd h (by omega)⟩, HB1.out⟩
  · go_wp2
    go_ret
    exact ⟨⟨r, rfl, by omega, by omega, HP.out⟩, HB1.out⟩

end Go.Proofs.YtdidgaibgkdjoaaGreatDoor

namespace Go.Proofs.YtdidgaibgkdjoaaGreatDoor
open Go.RowKit

end Go.Proofs.YtdidgaibgkdjoaaGreatDoor

namespace Go.Proofs.YtdidgaibgkdjoaaGreatDoor
open Go.RowKit

theorem Tryz.infoEnt : (Tryz.prog.info? 39).map (fun i => (i.zero, i.size, i.bytes)) = some (some (.agg #[.slice none 0 0, .string ⟨#[]⟩]), 2, 40) := by kernel_rfl
theorem keepcE {w w' : World} (hb : Below w.heap.size w w') {b o : Nat} {u : Value} (h : w.cell? ⟨b, o, none⟩ = some u) : w'.cell? ⟨b, o, none⟩ = some u := by
  rw [hb.cell (World.block_lt_of_cell? _ _ h)]; exact h

theorem row_formD {w : World} {base size n : Nat} {e : TypeId} {v : Value} {xs : List Value} (h : w.ownsRow base e size v n xs) : ∃ ao co, v = .slice ao n co := by
  rcases Joins.ownsRow_forms h with ⟨h1, h2⟩ | ⟨g, c, h1⟩
  · exact ⟨none, 0, by rw [h1, h2]⟩
  · exact ⟨_, c, h1⟩
theorem grown_setE (w : World) (R i : Nat) (u : Value) : w.grownBy (w.setCell ⟨R, i, none⟩ u) (some R) := by
  refine ⟨rfl, rfl, rfl, by simp [World.setCell], fun k hk hne => ?_⟩
  have : R ≠ k := fun e => hne (by rw [e])
  simp [World.setCell, Array.getElem?_modify, this]
theorem own_set_low {w : World} {base R i : Nat} {E : TypeId} {size n : Nat} {v x : Value} {xs : List Value} (h : w.ownsRow base E size v n xs) (hR : R < base) : (w.setCell ⟨R, i, none⟩ x).ownsRow base E size v n xs :=
  h.kept (grown_setE w R i x) (by
    cases hv : v.ownBlock with
    | none => exact .inl rfl
    | some g =>
      right
      intro e
      have := (h.lt g hv).1
      cases e
      omega)
/-- an entry whose outline lies in memory of the call's own -/
def RetEnt (w : World) (l : List Int) (t : ByteArray) (e : Ending) (w' : World) : Prop :=
  ∃ u, e = .returned (.agg #[u, .string t]) ∧ w'.ownsRow w.heap.size 3 1 u l.length (ints l) ∧ Below w.heap.size w w'

set_option maxRecDepth 20000 in
set_option maxHeartbeats 1600000 in
theorem toEntry_any (u : Value) (l : List Int) (t : ByteArray) (w : World) (hr : Rows w u l.length 1 (ints l)) (hl : l.length ≤ 1048576) :
    Calls Tryz.prog 129 #[.agg #[u, .string t]] w (RetEnt w l t) := by
  obtain ⟨W, hW⟩ : ∃ W, W = ((w.alloc (.cells #[u, .string t] 154)).alloc (.cells #[.slice none 0 0, .string ⟨#[]⟩] 39)).alloc (.cells #[.slice none 0 0, .string ⟨#[]⟩] 39) := ⟨_, rfl⟩
  have hB : Below w.heap.size w W := by rw [hW]; exact (((Below.refl _ _).alloc (Nat.le_refl _) _).alloc (by rw [World.size_alloc]; omega) _).alloc (by rw [World.size_alloc, World.size_alloc]; omega) _
  have hz : W.heap.size = w.heap.size + 1 + 1 + 1 := by rw [hW, World.size_alloc, World.size_alloc, World.size_alloc]
  have HI := Lib.hid (toIntS_any u l W (hr.keep hB) hl)
  have c0 : W.cell? ⟨w.heap.size, 0, none⟩ = some u := by rw [hW]; simp [go_sem]
  have c1 : W.cell? ⟨w.heap.size, 1, none⟩ = some (.string t) := by rw [hW]; simp [go_sem]
  have d0 : W.cell? ⟨w.heap.size + 1, 0, none⟩ = some (.slice none 0 0) := by rw [hW]; simp [go_sem]
  have d1 : W.cell? ⟨w.heap.size + 1, 1, none⟩ = some (.string ⟨#[]⟩) := by rw [hW]; simp [go_sem]
  have e0 : W.cell? ⟨w.heap.size + 1 + 1, 0, none⟩ = some (.slice none 0 0) := by rw [hW]; simp [go_sem]
  have e1 : W.cell? ⟨w.heap.size + 1 + 1, 1, none⟩ = some (.string ⟨#[]⟩) := by rw [hW]; simp [go_sem]
  have fd : ∀ i, W.frozen? ⟨w.heap.size + 1, i, none⟩ = false := fun i => by rw [hW]; simp [go_sem]
  have fe : ∀ i, W.frozen? ⟨w.heap.size + 1 + 1, i, none⟩ = false := fun i => by rw [hW]; simp [go_sem]
  have C0 := Lib.hid c0; have C1 := Lib.hid c1; have D0 := Lib.hid d0; have D1 := Lib.hid d1; have E0 := Lib.hid e0; have E1 := Lib.hid e1; have FD := Lib.hid fd; have FE := Lib.hid fe
  have HB := Lib.hid hB
  have HW := Lib.hid hW
  have HZ := Lib.hid hz
  clear c0 c1 d0 d1 e0 e1 fd fe hB hW hr
  go_enter Tryz.func129, Tryz.ntmps129
  go_upto_region 2 with fail
  rw [← HW.out]
  have g0 := C0.out
  clear hz
  go_wp2_with (go_at_call 34; refine HI.out.mono ?_; rintro e w1 ⟨u1, rfl, hown, hb1⟩; obtain ⟨a1, k1, rfl⟩ := row_formD hown; have hlt : w.heap.size + 1 + 1 < w1.heap.size := (by have := hb1.size; rw [HZ.out] at this; omega); have c1 := keepcE hb1 C1.out; have d0 := keepcE hb1 D0.out; have d1 := keepcE hb1 D1.out; have e0 := keepcE hb1 E0.out; have e1 := keepcE hb1 E1.out; have fd0 := ((bcell hb1).2 _ 0 (by rw [HZ.out]; omega)).trans (FD.out 0); have fd1 := ((bcell hb1).2 _ 1 (by rw [HZ.out]; omega)).trans (FD.out 1); have fe0 := ((bcell hb1).2 _ 0 (by rw [HZ.out]; omega)).trans (FE.out 0); have fe1 := ((bcell hb1).2 _ 1 (by rw [HZ.out]; omega)).trans (FE.out 1); have HO := Lib.hid hown; have HB1 := Lib.hid (HB.out.trans (hb1.mono HB.out.size)); clear hown hb1)
  refine bodyPost_ret (v := .agg #[.slice a1 l.length k1, .string t]) (by simp [results, Tryz.results129, go_sem, *]) rfl ⟨_, rfl, ?_, ?_⟩
  · have h1 : w.heap.size + 1 < W.heap.size := by rw [HZ.out]; omega
    have h2 : w.heap.size + 1 + 1 < W.heap.size := by rw [HZ.out]; omega
    exact own_base (own_set_low (own_set_low (own_set_low (own_set_low HO.out h2) h2) h1) h1) (by rw [HZ.out]; omega)
  · have hB1 := HB1.out
    exact (by repeat (first | with_reducible exact Below.refl _ _ | with_reducible assumption | with_reducible refine Below.alloc ?_ ?_ _ | with_reducible refine Below.setCell ?_ ?_ _ | with_reducible refine Below.drew ?_ | with_reducible refine below_drewN ?_ _ | with_reducible refine Below.trans ?_ (Below.mono (by assumption) ?_) | omega | ((repeat (first | rw [World.size_alloc] | rw [size_setCell] | rw [size_drewN] | rw [size_drew])); omega) | exact Nat.le_refl _ | (dsimp only; omega) | (simp [World.setCell]; omega)))

/-- the first k entries as they were laid: each outline in an interval of blocks of its own -/
def EntTo (w : World) (c : Nat → Nat) (xs : List Value) (l : List Ent) (k : Nat) : Prop :=
  ∀ (j : Nat) (h : j < l.length), j < k → ∃ u, xs[j * 2]? = some u ∧ xs[j * 2 + 1]? = some (.string (l[j]).2) ∧ w.ownsRow (c j) 3 1 u (l[j]).1.length (ints (l[j]).1) ∧ (∀ b, u.ownBlock = some b → b < c (j + 1))
/-- entries in memory of the call's own, between two blocks -/
def OwnEnts (w : World) (lo : Nat) (v : Value) (l : List Ent) (hi : Nat) : Prop :=
  ∃ g xs c, v = .slice (some ⟨g, 0, none⟩) l.length l.length ∧ w.ownsRow lo 39 2 v l.length xs ∧ EntTo w c xs l l.length ∧ (∀ j, j < l.length → c j ≤ c (j + 1)) ∧ g < c 0 ∧ lo ≤ g ∧ c l.length ≤ hi ∧ hi ≤ w.heap.size
theorem OwnEnts.ents {w : World} {lo hi : Nat} {v : Value} {l : List Ent} (h : OwnEnts w lo v l hi) : Ents w v l := by
  obtain ⟨g, xs, c, rfl, h2, h3, _⟩ := h
  obtain ⟨a, cap, e, h4, h5, h6, h7, h8⟩ := Rows.of_own h2
  cases e
  refine ⟨_, _, rfl, h4, h5, h7, fun k hk => ?_⟩
  obtain ⟨u, e1, e2, e3, _⟩ := h3 k hk hk
  obtain ⟨b, off, e4, e5⟩ := h8 _ _ e1
  obtain ⟨b', off', e6, e7⟩ := h8 _ _ e2
  cases e4
  cases e6
  exact ⟨_, _, u, rfl, e5, e7, Rows.of_own e3⟩
theorem OwnEnts.keep {w w' : World} {lo hi : Nat} {v : Value} {l : List Ent} (h : OwnEnts w lo v l hi) (hb : Below w.heap.size w w') : OwnEnts w' lo v l hi := by
  obtain ⟨g, xs, c, h1, h2, h3, h4, h5, h6, h7, h8⟩ := h
  refine ⟨g, xs, c, h1, own_keep h2 hb, fun j hj hk => ?_, h4, h5, h6, h7, Nat.le_trans h8 hb.size⟩
  obtain ⟨u, e1, e2, e3, e4⟩ := h3 j hj hk
  exact ⟨u, e1, e2, own_keep e3 hb, e4⟩
theorem OwnEnts.base {w : World} {lo lo' hi : Nat} {v : Value} {l : List Ent} (h : OwnEnts w lo v l hi) (hl : lo' ≤ lo) : OwnEnts w lo' v l hi := by
  obtain ⟨g, xs, c, h1, h2, h3, h4, h5, h6, h7, h8⟩ := h
  exact ⟨g, xs, c, h1, own_base h2 hl, h3, h4, h5, Nat.le_trans hl h6, h7, h8⟩
theorem EntTo.keep {w w' : World} {c : Nat → Nat} {xs : List Value} {l : List Ent} {k : Nat} (h : EntTo w c xs l k) (hb : Below w.heap.size w w') : EntTo w' c xs l k := by
  intro j hj hk
  obtain ⟨u, e1, e2, e3, e4⟩ := h j hj hk
  exact ⟨u, e1, e2, own_keep e3 hb, e4⟩
/-- one entry more -/
theorem EntTo.next {w1 w2 : World} {c : Nat → Nat} {xs : List Value} {l : List Ent} {k base : Nat} {g : Nat} {u : Value} (h : EntTo w1 c xs l k) (hk : k < l.length) (hxl : xs.length = l.length * 2) (hc : ∀ j, j < k → c j ≤ c (j + 1)) (hg : g < c 0) (hck : c k ≤ base) (hb : base ≤ w1.heap.size)
    (hu : w1.ownsRow base 3 1 u (l[k]).1.length (ints (l[k]).1)) (hset : w2 = (w1.setCell ⟨g, k * 2, none⟩ u).setCell ⟨g, k * 2 + 1, none⟩ (.string (l[k]).2)) :
    ∃ c', EntTo w2 c' ((xs.set (k * 2) u).set (k * 2 + 1) (.string (l[k]).2)) l (k + 1) ∧ (∀ j, j < k + 1 → c' j ≤ c' (j + 1)) ∧ g < c' 0 ∧ c' (k + 1) = w1.heap.size := by
  have hmono : ∀ j, j ≤ k → c 0 ≤ c j := by
    intro j
    induction j with
    | zero => intro _; exact Nat.le_refl _
    | succ j ih => intro hj; exact Nat.le_trans (ih (by omega)) (hc j (by omega))
  subst hset
  refine ⟨fun j => if j ≤ k then c j else w1.heap.size, fun j hj hjk => ?_, fun j hjk => ?_, ?_, ?_⟩
  · by_cases he : j < k
    · obtain ⟨v, e1, e2, e3, e4⟩ := h j hj he
      have hgj : g < c j := Nat.lt_of_lt_of_le hg (hmono j (by omega))
      refine ⟨v, ?_, ?_, ?_, ?_⟩
      · rw [List.getElem?_set_ne (by omega), List.getElem?_set_ne (by omega)]; exact e1
      · rw [List.getElem?_set_ne (by omega), List.getElem?_set_ne (by omega)]; exact e2
      · dsimp only
        rw [if_pos (by omega)]
        exact own_set_low (own_set_low e3 hgj) hgj
      · intro b hv
        dsimp only
        rw [if_pos (by omega)]
        exact e4 b hv
    · obtain rfl : j = k := by omega
      have hgj : g < c j := Nat.lt_of_lt_of_le hg (hmono j (Nat.le_refl _))
      refine ⟨u, ?_, ?_, ?_, ?_⟩
      · rw [List.getElem?_set_ne (by omega), List.getElem?_set_self (by omega)]
      · rw [List.getElem?_set_self (by rw [List.length_set]; omega)]
      · dsimp only
        rw [if_pos (Nat.le_refl _)]
        exact own_base (own_set_low (own_set_low hu (by omega)) (by omega)) hck
      · intro b hv
        dsimp only
        rw [if_neg (by omega)]
        exact (hu.lt b hv).2
  · by_cases he : j < k
    · simp only [if_pos (show j ≤ k by omega), if_pos (show j + 1 ≤ k by omega)]
      exact hc j he
    · obtain rfl : j = k := by omega
      simp only [if_pos (Nat.le_refl j), if_neg (show ¬ j + 1 ≤ j by omega)]
      exact Nat.le_trans hck hb
  · simp only [if_pos (Nat.zero_le k)]; exact hg
  · simp only [if_neg (show ¬ k + 1 ≤ k by omega)]

/-- entries laid anew -/
def RetEnts (w : World) (l : List Ent) (e : Ending) (w' : World) : Prop := ∃ v, e = .returned v ∧ OwnEnts w' w.heap.size v l w'.heap.size ∧ Below w.heap.size w w'

set_option maxRecDepth 20000 in
set_option maxHeartbeats 1600000 in
theorem toEntryS_any (v : Value) (l : List Ent) (w : World) (hr : Ents w v l) (hf : EntsFit l) :
    Calls Tryz.prog 81 #[v] w (RetEnts w l) := by
  have hl := hf.1
  have HE := Lib.hid hr; have HF := Lib.hid hf
  obtain ⟨i0, hi, hz0, hz1, hz2⟩ := info_parts Tryz.infoEnt
  obtain ⟨a, cap, rfl, _, _⟩ := ent_form hr
  clear hr hf
  go_enter Tryz.func81, Tryz.ntmps81
  go_wp2_with (at_make; refine wpList_make_full _ rfl _ _ 24 rfl w.heap.size 39 i0 (.agg #[.slice none 0 0, .string ⟨#[]⟩]) 2 Tryz.underlying24 hi hz0 hz1 .i64 .i64 _ _ l.length rfl rfl rfl rfl ?c2 ?c3 (Nat.le_refl _) ?_)
  case c2 => rw [hz2]; omega
  case c3 => unfold maxLen; omega
  intro w1 hown1 hg1
  have hb0 : Below w.heap.size w w1 := (Below.refl _ _).grown hg1 (Nat.le_refl _) (fun k h => by cases h)
  obtain ⟨zs, hown1⟩ : ∃ zs, w1.ownsRow w.heap.size 39 2 (.slice (some ⟨w.heap.size, 0, none⟩) l.length l.length) l.length zs := ⟨_, hown1⟩
  have HO := Lib.hid hown1; have HB := Lib.hid hb0
  have hw1 : w.heap.size < w1.heap.size := by
    rcases Joins.ownsRow_forms hown1 with ⟨h1, _⟩ | ⟨g, c, h1⟩
    · cases h1
    · exact (hown1.lt w.heap.size rfl).2
  have HS := Lib.hid hw1
  clear hown1 hg1 hb0 hz0 hz1 hz2 hi hw1
  go_wp2
  go_loopw [4] (fun i wr => ∃ (k : Nat) (xs : List Value) (c : Nat → Nat), k ≤ l.length ∧ i = .int .i64 k ∧ Hid (wr.ownsRow w.heap.size 39 2 (.slice (some ⟨w.heap.size, 0, none⟩) l.length l.length) l.length xs) ∧ Hid (EntTo wr c xs l k) ∧ Hid (∀ j, j < k → c j ≤ c (j + 1)) ∧ Hid (w.heap.size < c 0) ∧ Hid (c k ≤ wr.heap.size) ∧ Below w.heap.size w wr) (fun i _ => l.length - (intOf i).toNat)
  case atStart => exact ⟨0, zs, fun _ => w1.heap.size, Nat.zero_le _, rfl, HO, Lib.hid (fun j hj hk => by omega), Lib.hid (fun j hj => by omega), HS, Lib.hid (Nat.le_refl _), HB.out⟩
  clear HO HB HS
  case round =>
    obtain ⟨k, xs, c, hk, rfl, HO, HT, HC, HG, HK, hb⟩ := hrel
    have HB := Lib.hid hb; clear hb
    by_cases hlt : k < l.length
    · obtain ⟨b, off, u, rfl, c1, c2, c3⟩ := ent_at (HE.out.keep HB.out) k hlt
      have hs := HF.out.at k hlt
      have hki : (k : Int) < (l.length : Int) := by omega
      have HX := Lib.hid (show xs.length = l.length * 2 from HO.out.1)
      obtain ⟨z1, d1⟩ : ∃ z, wr.cell? ⟨w.heap.size, k * 2, none⟩ = some z := by
        rw [HO.out.cellAt (k * 2) (by omega)]
        exact ⟨_, List.getElem?_eq_getElem (by rw [HX.out]; omega)⟩
      obtain ⟨z2, d2⟩ : ∃ z, wr.cell? ⟨w.heap.size, k * 2 + 1, none⟩ = some z := by
        rw [HO.out.cellAt (k * 2 + 1) (by omega)]
        exact ⟨_, List.getElem?_eq_getElem (by rw [HX.out]; omega)⟩
      have HE1 := Lib.hid (fun (W : World) (h : Rows W u (l[k]'hlt).1.length 1 (ints (l[k]'hlt).1)) => toEntry_any u (l[k]'hlt).1 (l[k]'hlt).2 W h hs.1)
      have HR := Lib.hid c3
      have HNX := Lib.hid (fun (w1 w2 : World) (u : Value) (h : EntTo w1 c xs l k) => EntTo.next (w2 := w2) (base := wr.heap.size) (u := u) h hlt HX.out HC.out HG.out HK.out)
      generalize l[k] = p at c1 c2 hs HE1 HR HNX
      obtain ⟨pl, pt⟩ := p
      obtain ⟨au, cu, rfl, _, _⟩ := rows_form c3
      clear c3 hs
      go_wp2_with (go_at_call 129; refine (HE1.out _ HR.out).mono ?_; rintro e w2 ⟨u2, rfl, ho2, hb2⟩; obtain ⟨a2, k2, rfl⟩ := row_formD ho2; have HO2 := Lib.hid (own_keep HO.out hb2); have f1 := keepcE hb2 d1; have f2 := keepcE hb2 d2; have g1 := HO2.out.frozenAt (k * 2); have g2 := HO2.out.frozenAt (k * 2 + 1); have HT2 := Lib.hid (HT.out.keep hb2); have HU2 := Lib.hid ho2; have HB2 := Lib.hid (HB.out.trans (hb2.mono HB.out.size)); have HZ2 := Lib.hid hb2.size; clear ho2 hb2)
      go_roundw
      case rel =>
        have h1 := (HO2.out.stored (k * 2) (.slice a2 pl.length k2)).1
        have h2 := (h1.stored (k * 2 + 1) (.string pt)).1
        obtain ⟨c', t1, t2, t3, t4⟩ := HNX.out w2 _ (.slice a2 pl.length k2) HT2.out HZ2.out HU2.out rfl
        exact ⟨k + 1, _, c', by omega, by go_num, Lib.hid h2, Lib.hid t1, Lib.hid t2, Lib.hid t3, Lib.hid (by rw [t4, size_setCell, size_setCell]; exact Nat.le_refl _), (HB2.out.setCell (Nat.le_refl _) _).setCell (Nat.le_refl _) _⟩
      case measure => simp [intOf]; omega
    · obtain rfl : k = l.length := by omega
      go_wp2
      go_ret
      exact ⟨_, rfl, ⟨w.heap.size, xs, c, rfl, HO.out, HT.out, HC.out, HG.out, Nat.le_refl _, HK.out, Nat.le_refl _⟩, HB.out⟩


/-- a dictionary laid anew -/
def RetDict (w : World) (l : List Ent) (e : Ending) (w' : World) : Prop := ∃ v, e = .returned (.agg #[v]) ∧ OwnEnts w' w.heap.size v l w'.heap.size ∧ Below w.heap.size w w'
theorem OwnEnts.setLow {w : World} {lo hi R i : Nat} {v x : Value} {l : List Ent} (h : OwnEnts w lo v l hi) (hR : R < lo) : OwnEnts (w.setCell ⟨R, i, none⟩ x) lo v l hi := by
  obtain ⟨g, xs, c, h1, h2, h3, h4, h5, h6, h7, h8⟩ := h
  have hmono : ∀ j, j ≤ l.length → c 0 ≤ c j := by
    intro j
    induction j with
    | zero => intro _; exact Nat.le_refl _
    | succ j ih => intro hj; exact Nat.le_trans (ih (by omega)) (h4 j (by omega))
  refine ⟨g, xs, c, h1, own_set_low h2 hR, fun j hj hk => ?_, h4, h5, h6, h7, by rw [size_setCell]; exact h8⟩
  obtain ⟨u, e1, e2, e3, e4⟩ := h3 j hj hk
  exact ⟨u, e1, e2, own_set_low e3 (by have := hmono j (by omega); omega), e4⟩
theorem OwnEnts.hi {w : World} {lo hi hi' : Nat} {v : Value} {l : List Ent} (h : OwnEnts w lo v l hi) (h' : hi ≤ hi') (h2' : hi' ≤ w.heap.size) : OwnEnts w lo v l hi' := by
  obtain ⟨g, xs, c, h1, h2, h3, h4, h5, h6, h7, h8⟩ := h
  exact ⟨g, xs, c, h1, h2, h3, h4, h5, h6, Nat.le_trans h7 h', h2'⟩

set_option maxRecDepth 20000 in
set_option maxHeartbeats 1600000 in
theorem toDictionary_any (v : Value) (l : List Ent) (w : World) (hr : Ents w v l) (hf : EntsFit l) :
    Calls Tryz.prog 33 #[.agg #[v]] w (RetDict w l) := by
  obtain ⟨W, hW⟩ : ∃ W, W = ((w.alloc (.cells #[v] 68)).alloc (.cells #[.slice none 0 0] 26)).alloc (.cells #[.slice none 0 0] 26) := ⟨_, rfl⟩
  have hB : Below w.heap.size w W := by rw [hW]; exact (((Below.refl _ _).alloc (Nat.le_refl _) _).alloc (by rw [World.size_alloc]; omega) _).alloc (by rw [World.size_alloc, World.size_alloc]; omega) _
  have hz : W.heap.size = w.heap.size + 1 + 1 + 1 := by rw [hW, World.size_alloc, World.size_alloc, World.size_alloc]
  have HI := Lib.hid (toEntryS_any v l W (hr.keep hB) hf)
  obtain ⟨av, cv, rfl, _, _⟩ := ent_form hr
  have c0 : W.cell? ⟨w.heap.size, 0, none⟩ = some (.slice av l.length cv) := by rw [hW]; simp [go_sem]
  have d0 : W.cell? ⟨w.heap.size + 1, 0, none⟩ = some (.slice none 0 0) := by rw [hW]; simp [go_sem]
  have e0 : W.cell? ⟨w.heap.size + 1 + 1, 0, none⟩ = some (.slice none 0 0) := by rw [hW]; simp [go_sem]
  have fd : ∀ i, W.frozen? ⟨w.heap.size + 1, i, none⟩ = false := fun i => by rw [hW]; simp [go_sem]
  have fe : ∀ i, W.frozen? ⟨w.heap.size + 1 + 1, i, none⟩ = false := fun i => by rw [hW]; simp [go_sem]
  have C0 := Lib.hid c0; have D0 := Lib.hid d0; have E0 := Lib.hid e0; have FD := Lib.hid fd; have FE := Lib.hid fe
  have HB := Lib.hid hB
  have HW := Lib.hid hW
  have HZ := Lib.hid hz
  clear c0 d0 e0 fd fe hB hW hr hf
  go_enter Tryz.func33, Tryz.ntmps33
  go_upto_region 2 with fail
  rw [← HW.out]
  have g0 := C0.out
  clear hz
  go_wp2_with (go_at_call 81; refine HI.out.mono ?_; rintro e w1 ⟨u1, rfl, hown, hb1⟩; obtain ⟨a1, k1, rfl, _, _⟩ := ent_form hown.ents; have hlt : w.heap.size + 1 + 1 < w1.heap.size := (by have := hb1.size; rw [HZ.out] at this; omega); have d0 := keepcE hb1 D0.out; have e0 := keepcE hb1 E0.out; have fd0 := ((bcell hb1).2 _ 0 (by rw [HZ.out]; omega)).trans (FD.out 0); have fe0 := ((bcell hb1).2 _ 0 (by rw [HZ.out]; omega)).trans (FE.out 0); have HO := Lib.hid hown; have HB1 := Lib.hid (HB.out.trans (hb1.mono HB.out.size)); clear hown hb1)
  refine bodyPost_ret (v := .agg #[.slice a1 l.length k1]) (by simp [results, Tryz.results33, go_sem, *]) rfl ⟨_, rfl, ?_, ?_⟩
  · have h1 : w.heap.size + 1 < W.heap.size := by rw [HZ.out]; omega
    have h2 : w.heap.size + 1 + 1 < W.heap.size := by rw [HZ.out]; omega
    exact (((HO.out.setLow h2).setLow h1).base (by rw [HZ.out]; omega)).hi (by rw [size_setCell, size_setCell]; exact Nat.le_refl _) (Nat.le_refl _)
  · have hB1 := HB1.out
    exact (by repeat (first | with_reducible exact Below.refl _ _ | with_reducible assumption | with_reducible refine Below.alloc ?_ ?_ _ | with_reducible refine Below.setCell ?_ ?_ _ | with_reducible refine Below.drew ?_ | with_reducible refine below_drewN ?_ _ | with_reducible refine Below.trans ?_ (Below.mono (by assumption) ?_) | omega | ((repeat (first | rw [World.size_alloc] | rw [size_setCell] | rw [size_drewN] | rw [size_drew])); omega) | exact Nat.le_refl _ | (dsimp only; omega) | (simp [World.setCell]; omega)))

set_option maxHeartbeats 800000 in
theorem eqEntry_same (u u' : Value) (l : List Int) (t : ByteArray) (w : World) (hr : Rows w u l.length 1 (ints l)) (hr' : Rows w u' l.length 1 (ints l)) (hl : l.length ≤ 1048576) :
    Calls Tryz.prog 135 #[.agg #[u, .string t], .agg #[u', .string t]] w fun e w' => e = .returned (.bool true) ∧ Below w.heap.size w w' := by
  have HB := Lib.hid (Joins.below_alloc2 w (.cells #[u, .string t] 39) (.cells #[u', .string t] 39))
  have HE := Lib.hid (eqIntS_same u u' l _ (hr.keep HB.out) (hr'.keep HB.out) hl)
  have HC := Lib.hid (show ((w.alloc (.cells #[u, .string t] 39)).alloc (.cells #[u', .string t] 39)).cell? ⟨w.heap.size, 1, none⟩ = some (.string t) by simp [go_sem])
  have HD := Lib.hid (show ((w.alloc (.cells #[u, .string t] 39)).alloc (.cells #[u', .string t] 39)).cell? ⟨w.heap.size + 1, 1, none⟩ = some (.string t) by simp [go_sem])
  obtain ⟨a, cap, rfl, _, _⟩ := rows_form hr
  obtain ⟨a', cap', rfl, _, _⟩ := rows_form hr'
  clear hr hr'
  go_enter Tryz.func135, Tryz.ntmps135
  go_wp2_with (go_at_call 37; refine HE.out.mono ?_; rintro e w1 ⟨rfl, hd⟩; have hb1 := hd.below; have c1 := keepcE hb1 HC.out; have c2 := keepcE hb1 HD.out; have HB1 := Lib.hid (HB.out.trans (hb1.mono HB.out.size)); clear hd hb1)
  go_ret
  exact ⟨rfl, HB1.out⟩

set_option maxRecDepth 20000 in
set_option maxHeartbeats 1600000 in
theorem eqEntryS_same (v v' : Value) (l : List Ent) (w : World) (hr : Ents w v l) (hr' : Ents w v' l) (hf : EntsFit l) :
    Calls Tryz.prog 85 #[v, v'] w fun e w' => e = .returned (.bool true) ∧ Below w.heap.size w w' := by
  have hl := hf.1
  have HE := Lib.hid hr; have HE' := Lib.hid hr'; have HF := Lib.hid hf
  obtain ⟨a, cap, rfl, _, _⟩ := ent_form hr
  obtain ⟨a', cap', rfl, _, _⟩ := ent_form hr'
  clear hr hr' hf
  go_enter Tryz.func85, Tryz.ntmps85
  go_wp2
  go_loopw [5] (fun i wr => ∃ k : Nat, k ≤ l.length ∧ i = .int .i64 k ∧ Below w.heap.size w wr) (fun i _ => l.length - (intOf i).toNat)
  case atStart => exact ⟨0, Nat.zero_le _, rfl, Below.refl _ _⟩
  case round =>
    obtain ⟨k, hk, rfl, hb⟩ := hrel
    have HB := Lib.hid hb; clear hb
    by_cases hlt : k < l.length
    · obtain ⟨b, off, u, rfl, c1, c2, c3⟩ := ent_at (HE.out.keep HB.out) k hlt
      obtain ⟨b', off', u', rfl, d1, d2, d3⟩ := ent_at (HE'.out.keep HB.out) k hlt
      have hs := (HF.out.at k hlt).1
      have hki : (k : Int) < (l.length : Int) := by omega
      have hk0 : (0 : Int) ≤ (k : Int) := by omega
      generalize l[k] = p at c1 c2 c3 d1 d2 d3 hs
      obtain ⟨pl, pt⟩ := p
      replace hs : pl.length ≤ 1048576 := hs
      have HR := Lib.hid (show Rows wr u pl.length 1 (ints pl) from c3)
      have HR' := Lib.hid (show Rows wr u' pl.length 1 (ints pl) from d3)
      obtain ⟨au, cu, rfl, _, _⟩ := rows_form c3
      obtain ⟨au', cu', rfl, _, _⟩ := rows_form d3
      clear c3 d3
      replace HR : Hid (Rows wr (.slice au pl.length cu) pl.length 1 (ints pl)) := HR
      replace HR' : Hid (Rows wr (.slice au' pl.length cu') pl.length 1 (ints pl)) := HR'
      go_upto_region 6 with fail
      go_region_held3 (fun w' => w'.cell? ⟨b, off + k * 2, none⟩ = some (.slice au pl.length cu) ∧ w'.cell? ⟨b, off + k * 2 + 1, none⟩ = some (.string pt) ∧ w'.cell? ⟨b', off' + k * 2, none⟩ = some (.slice au' pl.length cu') ∧ w'.cell? ⟨b', off' + k * 2 + 1, none⟩ = some (.string pt)) (first | exact ⟨e1, e2, e3, e4⟩ | exact ⟨c1, c2, d1, d2⟩) (first
        | (go_at_call 135; refine (eqEntry_same _ _ pl _ _ (Rows.drew HR.out 1) (Rows.drew HR'.out 1) hs).mono ?_; rintro e w1 ⟨rfl, hb1⟩; have e1 := keepcE hb1 c1; have e2 := keepcE hb1 c2; have e3 := keepcE hb1 d1; have e4 := keepcE hb1 d2))
      go_wp2
      go_roundw
      case rel => exact ⟨k + 1, by omega, by go_num, (below_drew1 HB.out).trans (hb1.mono HB.out.size)⟩
      case measure => simp [intOf]; omega
    · go_wp2
      go_ret
      exact ⟨rfl, HB.out⟩

set_option maxHeartbeats 800000 in
theorem eqDictionary_same (v v' : Value) (l : List Ent) (w : World) (hr : Ents w v l) (hr' : Ents w v' l) (hf : EntsFit l) :
    Calls Tryz.prog 36 #[.agg #[v], .agg #[v']] w fun e w' => e = .returned (.bool true) ∧ Below w.heap.size w w' := by
  have HB := Lib.hid (Joins.below_alloc2 w (.cells #[v] 26) (.cells #[v'] 26))
  have HE := Lib.hid (eqEntryS_same v v' l _ (hr.keep HB.out) (hr'.keep HB.out) hf)
  obtain ⟨a, cap, rfl, _, _⟩ := ent_form hr
  obtain ⟨a', cap', rfl, _, _⟩ := ent_form hr'
  clear hr hr' hf
  go_enter Tryz.func36, Tryz.ntmps36
  go_wp2_with (go_at_call 85; refine HE.out.mono ?_; rintro e w1 ⟨rfl, hb1⟩; have HB1 := Lib.hid (HB.out.trans (hb1.mono HB.out.size)); clear hb1)
  go_ret
  exact ⟨rfl, HB1.out⟩

end Go.Proofs.YtdidgaibgkdjoaaGreatDoor

namespace Go.Proofs.YtdidgaibgkdjoaaGreatDoor
open Go.RowKit

set_option maxHeartbeats 800000 in
theorem l10Fold_any (k : Int) (t : ByteArray) (w : World) (ht : t.size ≤ maxLen) :
    Calls Tryz.prog 116 #[.agg #[.int .i64 k, .string t]] w fun e w' => e = .returned (.bool (Pl.foldB k t)) ∧ Below w.heap.size w w' := by
  have E : Hid (Pl.foldB k t = (Pl.inB k 13 22 && Pl.inB t.size 1 8 && Pl.allIn 97 122 t.data.toList)) := Lib.hid rfl
  have HB := Lib.hid (Joins.below_alloc1 w (.cells #[.int .i64 k, .string t] 64))
  unfold maxLen at ht
  go_enter Tryz.func116, Tryz.ntmps116
  go_wp2
  go_loop [3] (fun i => ∃ n : Nat, n ≤ t.size ∧ i = .int .i64 n ∧ Pl.allIn 97 122 (t.data.toList.take n) = true) (fun i => t.size - (intOf i).toNat)
  case atStart => exact ⟨0, Nat.zero_le _, rfl, rfl⟩
  case round =>
    obtain ⟨n, hn, rfl, hall⟩ := hrel
    have HA := Lib.hid hall; clear hall
    by_cases hlt : n < t.size
    · by_cases h1 : t[n].toNat < 97 ∨ 122 < t[n].toNat
      · have HV := Lib.hid (Pl.allIn_of_bad 97 122 t n hlt h1)
        go_wp2
        all_goals go_ret
        all_goals exact ⟨ret_bool (by rw [E.out, HV.out, Bool.and_false]), HB.out⟩
      · have HT := Lib.hid (Pl.allIn_take_ok 97 122 t n hlt HA.out (by omega) (by omega))
        go_wp2
        go_round
        case rel => exact ⟨n + 1, by omega, by go_num, HT.out⟩
        case measure => simp [intOf]; omega
    · have HT := Lib.hid (Pl.allIn_take_all 97 122 t n (by omega) HA.out)
      cases h1 : Pl.inB k 13 22
      · rw [h1, Bool.false_and, Bool.false_and] at E
        go_wp2_with ((go_at_call 117; refine (l1In_any _ _ _ _).mono ?_; rintro e w' ⟨rfl, rfl⟩))
        all_goals go_ret
        all_goals exact ⟨ret_bool E.out.symm, HB.out⟩
      · rw [h1, Bool.true_and, HT.out, Bool.and_true] at E
        cases h2 : Pl.inB t.size 1 8
        · rw [h2] at E
          go_wp2_with ((go_at_call 117; refine (l1In_any _ _ _ _).mono ?_; rintro e w' ⟨rfl, rfl⟩))
          all_goals go_ret
          all_goals exact ⟨ret_bool E.out.symm, HB.out⟩
        · rw [h2] at E
          go_wp2_with ((go_at_call 117; refine (l1In_any _ _ _ _).mono ?_; rintro e w' ⟨rfl, rfl⟩))
          all_goals go_ret
          all_goals exact ⟨ret_bool E.out.symm, HB.out⟩

theorem below_pastF {W w' : World} {o : Obj} (h1 : Below (W.alloc o).heap.size (W.alloc o) w') : Below W.heap.size W w' :=
  (Joins.below_alloc1 W o).trans (h1.mono (Joins.below_alloc1 W o).size)
theorem wrap_pow {j : Nat} (h : j ≤ 22) : wrap64 ((2 : Int) ^ j) = ((2 ^ j : Nat) : Int) := by
  have hk : 2 ^ j ≤ 2 ^ 22 := Nat.pow_le_pow_right (by omega) h
  rw [show ((2 : Int) ^ j) = ((2 ^ j : Nat) : Int) by simp]
  generalize 2 ^ j = x at hk ⊢
  exact IntWalk.wrap64_in _ ⟨by omega, by omega⟩

set_option maxRecDepth 20000 in
set_option maxHeartbeats 1600000 in
theorem IsValidFolds_any (v : Value) (l : List (Int × ByteArray)) (w : World) (hr : Rows w v l.length 2 (folds l)) (hf : FoldsFit l) :
    Calls Tryz.prog 67 #[v] w fun e w' => e = .returned (.bool (Pl.foldsOk l)) ∧ Below w.heap.size w w' := by
  have hl : l.length ≤ 1048576 := hf.1
  have HF := Lib.hid hf; clear hf
  obtain ⟨a, cap, rfl, _, _, _, _, hcells⟩ := hr
  have HC := Lib.hid hcells; clear hcells
  go_enter Tryz.func67, Tryz.ntmps67
  go_wp2
  go_loopw [3, 5, 8] (fun ks _ i wr => ∃ k : Nat, k ≤ l.length ∧ i = .int .i64 k ∧ ks = .int .i64 (Pl.keysTo l k : Nat) ∧ Hid (Pl.goodTo l k = true) ∧ Below w.heap.size w wr) (fun _ _ i _ => l.length - (intOf i).toNat)
  case atStart => exact ⟨0, Nat.zero_le _, rfl, rfl, Lib.hid rfl, Below.refl _ _⟩
  case round =>
    obtain ⟨k, hk, rfl, rfl, HA, hb⟩ := hrel
    have HB := Lib.hid hb; clear hb
    have hkb := Pl.keysTo_bit k hk HA.out
    have HK := Lib.hid hkb.2
    have hk1 := hkb.1
    clear hkb
    have HN : Hid (Pl.keysTo l (k + 1) = Pl.keysTo l k ||| 2 ^ ((l.getD k (0, ⟨#[]⟩)).1).toNat) := Lib.hid rfl
    generalize Pl.keysTo l k = ks at hk1 HK HN ⊢
    by_cases hlt : k < l.length
    · obtain ⟨b, off, rfl, c1, c2⟩ := fold_cells (HC.out.keep HB.out) k hlt
      have hs := fits_at HF.out k hlt
      have hki : (k : Int) < (l.length : Int) := by omega
      have hgd : l.getD k (0, ⟨#[]⟩) = l[k] := by rw [List.getD_eq_getElem?_getD, List.getElem?_eq_getElem hlt]; rfl
      rw [hgd] at HN
      clear hgd
      generalize hp : l[k] = p at c1 c2 hs HN
      have HE := Lib.hid (Pl.foldAt_eq hlt hp)
      clear hp
      obtain ⟨pk, pt⟩ := p
      have hs2 : pt.size ≤ 1048576 := hs
      have hs' : pt.size ≤ maxLen := by unfold maxLen; omega
      cases h2 : Pl.foldB pk pt
      · have HV := Lib.hid (Pl.foldsOk_no hlt (by rw [HE.out]; show (Pl.foldB pk pt && _) = false; rw [h2]; rfl))
        clear HE HN HK
        go_wp2_with (go_at_call 75; refine (isFold_any _ _ _ hs').mono ?_; rintro e w1 ⟨rfl, hb1⟩)
        all_goals go_ret
        all_goals exact ⟨ret_bool HV.out.symm, HB.out.trans ((below_pastF hb1).mono HB.out.size)⟩
      · obtain ⟨j, rfl, hj1, hj2⟩ := Pl.fold_key h2
        have hjb := HK.out j
        cases hq : ks.testBit j
        · have q1 : (bits .and .i64 ((ks : Int) / 2 ^ j) 1 == 1) = false := by rw [Pl.shr_key ks j hk1, hq]; rfl
          go_wp2_with (go_at_call 75; refine (isFold_any _ _ _ hs').mono ?_; rintro e w1 ⟨rfl, hb1⟩; have da := keepc hb1 (b := wr.heap.size) (o := 0) (u := .int .i64 (j : Int)) (by simp); have db := keepc hb1 (b := wr.heap.size) (o := 1) (u := .string pt) (by simp))
          go_roundw
          case rel =>
            have hj3 : 2 ^ j ≤ 2 ^ 22 := Nat.pow_le_pow_right (by omega) hj2
            refine ⟨k + 1, by omega, by go_num, ?_, Lib.hid ?_, HB.out.trans ((below_pastF hb1).mono HB.out.size)⟩
            · rw [wrap_pow hj2, Pl.bits_or _ _ (by omega) (by omega), HN.out]; rfl
            · show (Pl.goodTo l k && Pl.foldAt l k) = true
              rw [HA.out, HE.out]
              show (true && (Pl.foldB (j : Int) pt && !((l.take k).any fun q => q.1 == (j : Int)))) = true
              rw [h2, ← hjb, hq]; rfl
          case measure => simp [intOf]; omega
        · have q1 : (bits .and .i64 ((ks : Int) / 2 ^ j) 1 == 1) = true := by rw [Pl.shr_key ks j hk1, hq]; rfl
          rw [hq] at hjb
          have HV := Lib.hid (Pl.foldsOk_no hlt (by rw [HE.out]; show (Pl.foldB (j : Int) pt && !((l.take k).any fun q => q.1 == (j : Int))) = false; rw [← hjb]; simp))
          clear HE HN HK hjb
          go_wp2_with (go_at_call 75; refine (isFold_any _ _ _ hs').mono ?_; rintro e w1 ⟨rfl, hb1⟩; have da := keepc hb1 (b := wr.heap.size) (o := 0) (u := .int .i64 (j : Int)) (by simp); have db := keepc hb1 (b := wr.heap.size) (o := 1) (u := .string pt) (by simp))
          all_goals go_ret
          all_goals exact ⟨ret_bool HV.out.symm, HB.out.trans ((below_pastF hb1).mono HB.out.size)⟩
    · obtain rfl : k = l.length := by omega
      have HE : Hid (Pl.foldsOk l = decide (l.length ≤ 6)) := Lib.hid (by unfold Pl.foldsOk; rw [HA.out, Bool.and_true])
      clear HA HK HN
      go_wp2
      go_ret
      exact ⟨ret_bool (by rw [HE.out]; apply Bool.eq_iff_iff.2; simp only [decide_eq_true_eq]; omega), HB.out⟩

theorem any_take_step {l : List (Int × ByteArray)} {x : Int} (m : Nat) (h : m < l.length) (hp : (l[m].1 == x) = false) (ha : ((l.take m).any fun q => q.1 == x) = false) : ((l.take (m + 1)).any fun q => q.1 == x) = false := by
  rw [List.take_add_one, List.getElem?_eq_getElem h, List.any_append, ha]
  simpa using hp
theorem any_take_found {l : List (Int × ByteArray)} {x : Int} (m k : Nat) (h : m < l.length) (hm : m < k) (hp : (l[m].1 == x) = true) : ((l.take k).any fun q => q.1 == x) = true :=
  List.any_eq_true.2 ⟨l[m], List.mem_take_iff_getElem.2 ⟨m, by omega, rfl⟩, hp⟩

set_option maxRecDepth 20000 in
set_option maxHeartbeats 1600000 in
theorem specIsValidFolds_any (v : Value) (l : List (Int × ByteArray)) (w : World) (hr : Rows w v l.length 2 (folds l)) (hf : FoldsFit l) :
    Calls Tryz.prog 70 #[v] w fun e w' => e = .returned (.bool (Pl.foldsOk l)) ∧ Below w.heap.size w w' := by
  have hl : l.length ≤ 1048576 := hf.1
  have HF := Lib.hid hf; clear hf
  obtain ⟨a, cap, rfl, _, _, _, _, hcells⟩ := hr
  have HC := Lib.hid hcells; clear hcells
  by_cases h6 : 6 < l.length
  · have HE : Hid (Pl.foldsOk l = false) := Lib.hid (by unfold Pl.foldsOk; rw [decide_eq_false (by omega), Bool.false_and])
    go_enter Tryz.func70, Tryz.ntmps70
    go_wp2
    go_ret
    exact ⟨ret_bool HE.out.symm, Below.refl _ _⟩
  · go_enter Tryz.func70, Tryz.ntmps70
    go_wp2
    go_loopw [3, 4] (fun i _ wr => ∃ k : Nat, k ≤ l.length ∧ i = .int .i64 k ∧ Hid (Pl.goodTo l k = true) ∧ Below w.heap.size w wr) (fun i _ _ => l.length - (intOf i).toNat)
    case atStart => exact ⟨0, Nat.zero_le _, rfl, Lib.hid rfl, Below.refl _ _⟩
    case round =>
      obtain ⟨k, hk, rfl, HA, hb⟩ := hrel
      have HB := Lib.hid hb; clear hb
      by_cases hlt : k < l.length
      · obtain ⟨b, off, rfl, c1, c2⟩ := fold_cells (HC.out.keep HB.out) k hlt
        have hs := fits_at HF.out k hlt
        have hki : (k : Int) < (l.length : Int) := by omega
        have hk0 : (0 : Int) ≤ (k : Int) := by omega
        generalize hp : l[k] = p at c1 c2 hs
        have HE := Lib.hid (Pl.foldAt_eq hlt hp)
        clear hp
        obtain ⟨pk, pt⟩ := p
        have hs2 : pt.size ≤ 1048576 := hs
        have hs' : pt.size ≤ maxLen := by unfold maxLen; omega
        cases h2 : Pl.foldB pk pt
        · have HV := Lib.hid (Pl.foldsOk_no hlt (by rw [HE.out]; show (Pl.foldB pk pt && _) = false; rw [h2]; rfl))
          clear HE
          go_wp2_with (go_at_call 116; refine (l10Fold_any _ _ _ hs').mono ?_; rintro e w1 ⟨rfl, hb1⟩)
          all_goals go_ret
          all_goals exact ⟨ret_bool HV.out.symm, HB.out.trans (hb1.mono HB.out.size)⟩
        · go_wp2_with (go_at_call 116; refine (l10Fold_any _ _ _ hs').mono ?_; rintro e w1 ⟨rfl, hb1⟩; have c3 := keepc hb1 c1)
          have HB1 := Lib.hid (HB.out.trans (hb1.mono HB.out.size))
          clear HB hb1
          go_loopw [4] (fun j w2 => ∃ m : Nat, m ≤ k ∧ j = .int .i64 m ∧ Hid (((l.take m).any fun q => q.1 == pk) = false) ∧ ∃ n, w2 = w1.drewN n) (fun j _ => k - (intOf j).toNat)
          case atStart => exact ⟨0, Nat.zero_le _, rfl, Lib.hid (by simp), 0, rfl⟩
          case round =>
            obtain ⟨m, hm, rfl, HM, n, rfl⟩ := hrel
            by_cases hmk : m < k
            · have hml : m < l.length := by omega
              obtain ⟨b', off', he, d1, -⟩ := fold_cells (HC.out.keep HB1.out) m hml
              cases he
              have hmi : (m : Int) < (l.length : Int) := by omega
              have hm0 : (0 : Int) ≤ (m : Int) := by omega
              have HS := Lib.hid (fun h => any_take_step (x := pk) m hml h HM.out)
              have HT := Lib.hid (any_take_found (x := pk) m k hml hmk)
              generalize l[m] = q at d1 HS HT
              obtain ⟨qk, qt⟩ := q
              cases hq : (qk == pk)
              · have hq2 := bF hq
                have HS2 := Lib.hid (HS.out hq)
                clear HS HT
                go_wp2
                go_quiet (fail)
                go_wp2
                go_roundw
                case rel => exact ⟨m + 1, by omega, by go_num, HS2, _, rfl⟩
                case measure => simp [intOf]; omega
              · have hq2 := bT hq
                have HV := Lib.hid (Pl.foldsOk_no hlt (by rw [HE.out]; show (Pl.foldB pk pt && !((l.take k).any fun q => q.1 == pk)) = false; rw [HT.out hq]; simp))
                clear HS HT
                go_wp2
                go_quiet (fail)
                go_wp2
                go_ret
                exact ⟨ret_bool HV.out.symm, (HB1.out.trans (Joins.below_draws _ _ n)).trans (Joins.below_draws _ _ _)⟩
            · obtain rfl : m = k := by omega
              have HG : Hid (Pl.goodTo l (m + 1) = true) := Lib.hid (by
                show (Pl.goodTo l m && Pl.foldAt l m) = true
                rw [HA.out, HE.out]
                show (true && (Pl.foldB pk pt && !((l.take m).any fun q => q.1 == pk))) = true
                rw [h2, HM.out]; rfl)
              clear HM HE HA
              go_wp2
              go_roundw
              case rel => exact ⟨m + 1, by omega, by go_num, HG, HB1.out.trans (Joins.below_draws _ _ _)⟩
              case measure => simp [intOf]; omega
      · obtain rfl : k = l.length := by omega
        have HE : Hid (Pl.foldsOk l = true) := Lib.hid (by unfold Pl.foldsOk; rw [HA.out, Bool.and_true]; exact decide_eq_true (by omega))
        clear HA
        go_wp2
        go_ret
        exact ⟨ret_bool HE.out.symm, HB.out⟩

end Go.Proofs.YtdidgaibgkdjoaaGreatDoor

namespace Go.Proofs.YtdidgaibgkdjoaaGreatDoor
open Go.RowKit

theorem CellsAt.news {w : World} {b off : Nat} {xs : List Value} (h : CellsAt w (some ⟨b, off, none⟩) xs) : ∀ j u, xs[j]? = some u → w.cell? ((⟨b, off, none⟩ : Addr).add j) = some u := by
  intro j u hj
  obtain ⟨b', off', h1, h2⟩ := h j u hj
  cases h1
  rw [Addr.add_lit]; exact h2
theorem CellsAt.pre {w : World} {a : Option Addr} {xs : List Value} (h : CellsAt w a xs) (n : Nat) : CellsAt w a (xs.take n) := fun j u hj => h j u (by
  rw [List.getElem?_take] at hj
  split at hj
  · exact hj
  · cases hj)
theorem ints_one (l : List Int) : ∀ u ∈ ints l, u.oneCell' = true := by
  intro u hu
  simp only [ints, List.mem_map] at hu
  obtain ⟨n, _, rfl⟩ := hu
  rfl

theorem one_news (w : World) (x : Int) : ∀ j u, (ints [x])[j]? = some u → (w.alloc (.cells #[.int .i64 x] 3)).cell? ((⟨w.heap.size, 0, none⟩ : Addr).add j) = some u := by
  intro j u hj
  rw [Addr.add_lit, Nat.zero_add, World.cell?_alloc_mark]
  simpa [ints] using hj
theorem ints_snoc (l : List Int) (x : Int) : ints (l ++ [x]) = ints l ++ ints [x] := by simp [ints]

/-- an append of integers to a row of the call's own -/
theorem app_int {ops : Array Oper} {rest : List Oper} {o : Oper} {a : Act} {w : World} {Q : Exit → Act → World → Prop} (hgd : o.guard = none) (s x : Operand)
    (ho : o.op = .call { callee := .builtin .append, args := #[s, x], argTypes := #[36, 36] })
    (base : Nat) (v : Value) (n : Nat) (xs : List Value) (hs : a.eval s = v) (hown : w.ownsRow base 3 1 v n xs)
    (ad : Addr) (m c : Nat) (l : List Int) (hx : a.eval x = .slice (some ad) m c) (hl : l.length = m) (hnews : ∀ j u, (ints l)[j]? = some u → w.cell? (ad.add j) = some u)
    (hnm : n + m ≤ 4194304) (hbase : base ≤ w.heap.size)
    (h : ∀ v' w', w'.ownsRow base 3 1 v' (n + m) (xs ++ ints l) → w.grownBy w' v.ownBlock → wpList Tryz.prog ops Q rest (a.put o.dst v') w') : wpList Tryz.prog ops Q (o :: rest) a w := by
  obtain ⟨i0, hi, hz0, hz1, hz2⟩ := info_parts Tryz.infoInt
  exact wpList_append_own w hgd s x 36 ho base 3 i0 (.int .i64 0) 1 8 Tryz.underlying36 hi hz0 hz1 hz2 rfl (by decide) v n xs hs hown ad m c (ints l) hx (by rw [ints_length, hl, Nat.mul_one]) hnews (ints_one l)
    (by unfold maxLen; omega) (by omega) hbase (fun v' w' h1 h2 _ => h v' w' h1 h2)

set_option maxHeartbeats 400000 in
theorem copyOf_any (b off n c : Nat) (l : List Int) (w : World) (hn : l.length = n) (hc : CellsAt w (some ⟨b, off, none⟩) (ints l)) (hl : n ≤ 1048576) :
    Calls Tryz.prog 48 #[.slice (some ⟨b, off, none⟩) n c] w (RetRow 3 1 w.heap.size w n (ints l)) := by
  have HC := Lib.hid ((hc.keep (Joins.below_alloc1 w (.cells #[] 3))).news)
  have HO := Lib.hid (World.ownsRow_made (base := w.heap.size) (e := 3) (size := 1) w #[] 0 (Nat.le_refl _) (by unfold maxLen; omega) rfl)
  have HB := Lib.hid (Joins.below_alloc1 w (.cells #[] 3))
  clear hc
  go_enter Tryz.func48, Tryz.ntmps48
  go_wp2_with (at_builtin; refine app_int rfl _ _ rfl w.heap.size _ 0 [] rfl HO.out ⟨b, off, none⟩ n c l rfl hn HC.out (by omega) (by simp) ?_; intro v1 w1 hown1 hg1)
  have hb1 := HB.out.grown hg1 (by simp) (fun k hk => by cases hk; exact Nat.le_refl _)
  have HO1 := Lib.hid hown1; have HB1 := Lib.hid hb1
  clear HO HB HC hown1 hg1 hb1
  go_wp2
  go_ret
  exact ⟨_, rfl, by have := HO1.out; simpa using this, HB1.out⟩

set_option maxHeartbeats 400000 in
theorem withLast_any (b off c : Nat) (l : List Int) (x : Int) (w : World) (hc : CellsAt w (some ⟨b, off, none⟩) (ints l)) (hcap : l.length ≤ c) (hl : l.length ≤ 1048576) (h1 : 1 ≤ l.length) :
    Calls Tryz.prog 121 #[.slice (some ⟨b, off, none⟩) l.length c, .int .i64 x] w (RetRow 3 1 w.heap.size w l.length (ints (Pl.withLast l x))) := by
  have HK := Lib.hid (copyOf_any b off (l.length - 1) c (l.take (l.length - 1)) w (by simp) (by have := hc.pre (l.length - 1); rwa [ints, ← List.map_take] at this) (by omega))
  clear hc
  go_enter Tryz.func121, Tryz.ntmps121
  go_wp2_with (first
    | (at_builtin; have HO2 := HO; refine app_int rfl _ _ rfl w.heap.size _ (l.length - 1) (ints (l.take (l.length - 1))) rfl (HO2.out.alloc _) ⟨_, 0, none⟩ 1 1 [x] rfl rfl (one_news _ x) (by omega) (by have := HB.out.size; simp; omega) ?_; intro v2 w2 hown2 hg2)
    | (go_at_call 48; refine HK.out.mono ?_; rintro e w1 ⟨v1, rfl, hown1, hb1⟩; have HO := Lib.hid hown1; have HB := Lib.hid hb1; clear hown1 hb1))
  have HB2 := Lib.hid (((HB.out.alloc HB.out.size (.cells #[.int .i64 x] 3))).grown hg2 (by have := HB.out.size; simp; omega) (fun k hk => (HO.out.lt k hk).1))
  have HO2 := Lib.hid hown2
  clear HB HO hown2 hg2
  go_ret
  refine ⟨_, rfl, ?_, HB2.out⟩
  have h := HO2.out
  rw [← ints_snoc, show l.length - 1 + 1 = l.length by omega] at h
  exact h

end Go.Proofs.YtdidgaibgkdjoaaGreatDoor

namespace Go.Proofs.YtdidgaibgkdjoaaGreatDoor
open Go.RowKit

theorem last_cell {w : World} {a : Option Addr} {l : List Int} (hc : CellsAt w a (ints l)) (h : 1 ≤ l.length) : ∃ b off, a = some ⟨b, off, none⟩ ∧ w.cell? ⟨b, off + (l.length - 1), none⟩ = some (.int .i64 (Pl.lastI l)) := by
  obtain ⟨b, off, h1, h2⟩ := hc (l.length - 1) (.int .i64 (Pl.lastI l)) (by
    rw [ints_at l (l.length - 1) (by omega)]
    unfold Pl.lastI
    rw [List.getD_eq_getElem?_getD, List.getElem?_eq_getElem (by omega)]
    rfl)
  exact ⟨b, off, h1, h2⟩
theorem pow_bd {j : Nat} (h : j ≤ 22) : (1 : Int) ≤ (2 : Int) ^ j ∧ (2 : Int) ^ j ≤ 4194304 := by
  have hk : 2 ^ j ≤ 2 ^ 22 := Nat.pow_le_pow_right (by omega) h
  have hp : 0 < 2 ^ j := Nat.two_pow_pos _
  have e : (2 : Int) ^ j = ((2 ^ j : Nat) : Int) := by simp
  rw [e]
  generalize 2 ^ j = x at hk hp
  omega
theorem wrap_powI {j : Nat} (h : j ≤ 22) : wrap64 ((2 : Int) ^ j) = (2 : Int) ^ j := IntWalk.wrap64_in _ ⟨by have := pow_bd h; omega, by have := pow_bd h; omega⟩
theorem un_no {l : List Int} {k : Int} (h : Pl.unOk l k = false) : Pl.un l k = [] := by simp [Pl.un, h]
theorem un_yes {l : List Int} {k : Int} (h : Pl.unOk l k = true) : Pl.un l k = Pl.withLast l (Pl.lastI l - 2 ^ k.toNat) := by simp [Pl.un, h]

set_option maxRecDepth 20000 in
set_option maxHeartbeats 1600000 in
theorem unfold_any (b off cap : Nat) (l : List Int) (k : Int) (t : ByteArray) (w : World) (hc : CellsAt w (some ⟨b, off, none⟩) (ints l)) (hcap : l.length ≤ cap) (h1 : Pl.outlineB l = true) (h2 : Pl.foldB k t = true) :
    Calls Tryz.prog 76 #[.agg #[.int .i64 k, .string t], .slice (some ⟨b, off, none⟩) l.length cap] w (RetRowB 3 1 w.heap.size w (Pl.un l k).length (ints (Pl.un l k)) (Pl.unOk l k)) := by
  have z1 := Pl.outline_len h1
  obtain ⟨n, hn, hn1, hn2⟩ := Pl.stroke_nat (Pl.outline_last h1)
  obtain ⟨j, rfl, hj1, hj2⟩ := Pl.fold_key h2
  have HB := Lib.hid (Joins.below_alloc1 w (.cells #[.int .i64 (j : Int), .string t] 64))
  have HC := Lib.hid (hc.keep HB.out)
  obtain ⟨b', off', he, hlast⟩ := last_cell HC.out z1.1
  cases he
  rw [hn] at hlast
  have hw := wrap_powI hj2
  have hp := pow_bd hj2
  have hp1 := hp.1; have hp2 := hp.2
  clear hc h1 h2 hp
  have hsh := Pl.shr_key n j hn2
  cases hq : n.testBit j
  · have q1 : (bits .and .i64 ((n : Int) / 2 ^ j) 1 == 0) = true := by rw [hsh, hq]; rfl
    have E := Lib.hid (show Pl.unOk l j = false by simp [Pl.unOk, Pl.keyOn, hn, hq])
    rw [un_no E.out, E.out]
    clear hsh E
    go_enter Tryz.func76, Tryz.ntmps76
    go_wp2
    go_ret2
    exact ⟨_, rfl, World.ownsRow_nil _ _ _ _, HB.out⟩
  · have q1 : (bits .and .i64 ((n : Int) / 2 ^ j) 1 == 0) = false := by rw [hsh, hq]; rfl
    clear hsh
    cases hq2 : ((n : Int) == 2 ^ j)
    · have p2 := bF hq2
      have E := Lib.hid (show Pl.unOk l j = true by simp only [Pl.unOk, Pl.keyOn, hn, Int.toNat_natCast, hq, hq2]; rfl)
      have F := Lib.hid (show Pl.lastI l - 2 ^ ((j : Int)).toNat = (n : Int) - 2 ^ j by rw [hn]; rfl)
      rw [un_yes E.out, E.out, F.out, Pl.withLast_length _ _ z1.1]
      clear E F
      go_enter Tryz.func76, Tryz.ntmps76
      go_wp2_with (go_at_call 121; refine (withLast_any b off cap l _ _ HC.out hcap (by omega) z1.1).mono ?_; rintro e w3 ⟨v3, rfl, hown3, hb3⟩)
      go_ret2
      exact ⟨_, rfl, own_base hown3 HB.out.size, HB.out.trans (hb3.mono HB.out.size)⟩
    · have p2 := bT hq2
      have E := Lib.hid (show Pl.unOk l j = false by simp only [Pl.unOk, Pl.keyOn, hn, Int.toNat_natCast, hq, hq2]; rfl)
      rw [un_no E.out, E.out]
      clear E
      go_enter Tryz.func76, Tryz.ntmps76
      go_wp2
      all_goals go_ret2
      all_goals exact ⟨_, rfl, World.ownsRow_nil _ _ _ _, HB.out⟩

theorem unfold_bad {l : List Int} {k : Int} {t : ByteArray} (h : (Pl.outlineB l && Pl.foldB k t) = false) : Pl.unfoldOut l k t = [] ∧ Pl.unfoldOk l k t = false := by
  have h2 : Pl.unfoldOk l k t = false := by unfold Pl.unfoldOk; rw [h, Bool.false_and]
  exact ⟨by simp [Pl.unfoldOut, h2], h2⟩
theorem unfold_good {l : List Int} {k : Int} {t : ByteArray} (h1 : Pl.outlineB l = true) (h2 : Pl.foldB k t = true) : Pl.unfoldOut l k t = Pl.un l k ∧ Pl.unfoldOk l k t = Pl.unOk l k := by
  have h3 : Pl.unfoldOk l k t = Pl.unOk l k := by unfold Pl.unfoldOk; rw [h1, h2]; rfl
  exact ⟨by unfold Pl.unfoldOut Pl.un; rw [h3], h3⟩

set_option maxRecDepth 20000 in
set_option maxHeartbeats 1600000 in
theorem Unfold_any (v : Value) (l : List Int) (k : Int) (t : ByteArray) (w : World) (hr : Rows w v l.length 1 (ints l)) (hl : l.length ≤ 1048576) (ht : t.size ≤ maxLen) :
    Calls Tryz.prog 29 #[v, .agg #[.int .i64 k, .string t]] w (RetRowB 3 1 w.heap.size w (Pl.unfoldOut l k t).length (ints (Pl.unfoldOut l k t)) (Pl.unfoldOk l k t)) := by
  have HB := Lib.hid (Joins.below_alloc1 w (.cells #[.int .i64 k, .string t] 64))
  have HR := Lib.hid (hr.keep HB.out)
  have ca : (w.alloc (.cells #[.int .i64 k, .string t] 64)).cell? ⟨w.heap.size, 0, none⟩ = some (.int .i64 k) := by simp
  have cb : (w.alloc (.cells #[.int .i64 k, .string t] 64)).cell? ⟨w.heap.size, 1, none⟩ = some (.string t) := by simp
  clear hr
  cases h1 : Pl.outlineB l
  · have E := Lib.hid (unfold_bad (k := k) (t := t) (by rw [h1]; rfl))
    rw [E.out.1, E.out.2]
    clear E
    go_enter Tryz.func29, Tryz.ntmps29
    go_wp2_with (go_at_call 68; refine (IsValidOutline_any _ l _ HR.out hl).mono ?_; rintro e w1 ⟨he, hb1⟩; rw [h1] at he; subst he)
    go_ret2
    exact ⟨_, rfl, World.ownsRow_nil _ _ _ _, HB.out.trans (hb1.mono HB.out.size)⟩
  · cases h2 : Pl.foldB k t
    · have E := Lib.hid (unfold_bad (l := l) (k := k) (t := t) (by rw [h1, h2]; rfl))
      rw [E.out.1, E.out.2]
      clear E
      go_enter Tryz.func29, Tryz.ntmps29
      go_wp2_with (first
        | (go_at_call 68; refine (IsValidOutline_any _ l _ HR.out hl).mono ?_; rintro e w1 ⟨he, hb1⟩; rw [h1] at he; subst he; have ca1 := keepc hb1 ca; have cb1 := keepc hb1 cb)
        | (go_at_call 75; refine (isFold_any _ _ _ ht).mono ?_; rintro e w2 ⟨he, hb2⟩; rw [h2] at he; subst he))
      go_ret2
      exact ⟨_, rfl, World.ownsRow_nil _ _ _ _, (HB.out.trans (hb1.mono HB.out.size)).trans (hb2.mono (Nat.le_trans HB.out.size hb1.size))⟩
    · have E := Lib.hid (unfold_good h1 h2)
      rw [E.out.1, E.out.2]
      clear E
      have z1 := Pl.outline_len h1
      have HR2 := HR.out
      obtain ⟨a, cap, rfl, hcap, _, _, _, hcells⟩ := HR2
      obtain ⟨b, off, rfl, -⟩ := last_cell hcells z1.1
      have HC := Lib.hid hcells
      clear hcells
      go_enter Tryz.func29, Tryz.ntmps29
      go_wp2_with (first
        | (go_at_call 76; refine (unfold_any b off cap l k t _ (HC2.out) hcap h1 h2).mono ?_; rintro e w3 ⟨v3, rfl, hown3, hb3⟩)
        | (go_at_call 68; refine (IsValidOutline_any _ l _ HR.out hl).mono ?_; rintro e w1 ⟨he, hb1⟩; rw [h1] at he; subst he; have ca1 := keepc hb1 ca; have cb1 := keepc hb1 cb)
        | (go_at_call 75; refine (isFold_any _ _ _ ht).mono ?_; rintro e w2 ⟨he, hb2⟩; rw [h2] at he; subst he; have ca2 := keepc hb2 ca1; have cb2 := keepc hb2 cb1; have HC2 := Lib.hid ((HC.out.keep hb1).keep hb2); have HB2 := Lib.hid ((HB.out.trans (hb1.mono HB.out.size)).trans (hb2.mono (Nat.le_trans HB.out.size hb1.size)))))
      go_ret2
      exact ⟨_, rfl, own_base hown3 HB2.out.size, HB2.out.trans (hb3.mono HB2.out.size)⟩

end Go.Proofs.YtdidgaibgkdjoaaGreatDoor
