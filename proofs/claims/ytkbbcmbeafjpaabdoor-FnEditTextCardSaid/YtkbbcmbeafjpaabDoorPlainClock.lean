/-
  PLAIN LAWS: decimal numerals, times of day. No program is in sight here.
-/
import Derived.Test.YtkbbcmbeafjpaabDoorPlainNum
import Derived.Lib.ItoaNum
import Derived.Lib.ItoaMem
namespace Go.Proofs.YtkbbcmbeafjpaabDoor.Pl
open Go.RowKit

/-- the decimal numeral of n -/
def num (n : Int) : ByteArray := ⟨(Lib.itoa n).toArray⟩
theorem decDigits_len (u : Nat) : (Lib.decDigits u).length ≤ u + 1 := by
  induction u using Nat.strongRecOn with
  | _ u ih =>
    rw [Lib.decDigits]
    split
    · simp
    · have := ih (u / 10) (by omega)
      simp only [List.length_append, List.length_singleton]; omega
theorem num_nat (u : Nat) : num (u : Int) = ⟨(Lib.decDigits u).toArray⟩ := by rw [num, Lib.itoa_nonneg]
theorem num_size (u : Nat) : (num (u : Int)).size ≤ u + 1 := by
  rw [ba_size, num_nat]; simpa using decDigits_len u
theorem num_size_int {n : Int} (h : 0 ≤ n) : (num n).size ≤ n.toNat + 1 := by
  obtain ⟨u, rfl⟩ := Int.eq_ofNat_of_zero_le h
  rw [Int.toNat_natCast]; exact num_size u
theorem digit_piece (u : Nat) (h : u < 10) : (⟨#[48, 49, 50, 51, 52, 53, 54, 55, 56, 57]⟩ : ByteArray).extract u (u + 1) = ⟨#[UInt8.ofNat (48 + u)]⟩ := by
  have key : ∀ i, i < 10 → ((⟨#[48, 49, 50, 51, 52, 53, 54, 55, 56, 57]⟩ : ByteArray).extract i (i + 1)).data.toList = [UInt8.ofNat (48 + i)] := by
    intro i hi
    rw [ba_extract]
    have : ∀ j, j < 10 → (List.drop j [(48 : UInt8), 49, 50, 51, 52, 53, 54, 55, 56, 57]).take (j + 1 - j) = [UInt8.ofNat (48 + j)] := by decide +kernel
    exact this i hi
  exact ba_ext (key u h)
theorem num_small (u : Nat) (h : u < 10) : num (u : Int) = (⟨#[48, 49, 50, 51, 52, 53, 54, 55, 56, 57]⟩ : ByteArray).extract u (u + 1) := by
  rw [digit_piece u h, num_nat, Lib.decDigits_one h]
theorem num_big (u : Nat) (h : 10 ≤ u) : num (u : Int) = num ((u / 10 : Nat) : Int) ++ (⟨#[48, 49, 50, 51, 52, 53, 54, 55, 56, 57]⟩ : ByteArray).extract (u % 10) (u % 10 + 1) := by
  rw [digit_piece _ (by omega), num_nat, num_nat]
  refine ba_ext ?_
  rw [ba_append]
  conv => lhs; rw [Lib.decDigits, dif_neg (by omega)]
theorem num_neg (u : Nat) (h : 1 ≤ u) : num (-(u : Int)) = ⟨#[45]⟩ ++ num (u : Int) := by
  refine ba_ext ?_
  rw [ba_append, num, Lib.itoa_neg u h, num_nat]
  simp

theorem num_big' (u : Nat) (h : 10 ≤ u) : num (u : Int) = num ((u : Int) / 10) ++ (⟨#[48, 49, 50, 51, 52, 53, 54, 55, 56, 57]⟩ : ByteArray).extract (u % 10) (u % 10 + 1) := by
  rw [show ((u : Int) / 10) = ((u / 10 : Nat) : Int) by omega]; exact num_big u h
theorem num_size' (u : Nat) : (num ((u : Int) / 10)).size ≤ u / 10 + 1 := by
  rw [show ((u : Int) / 10) = ((u / 10 : Nat) : Int) by omega]; exact num_size _

/-- the number that k digits from place a on make -/
def numFrom (s : ByteArray) (a : Nat) : Nat → Int
  | 0 => 0
  | k + 1 => 10 * numFrom s a k + (byteAt s (a + k) - 48)
def hourOf (s : ByteArray) : Int := numFrom s 0 (s.size - 2)
def minOf (s : ByteArray) : Int := numFrom s (s.size - 2) 2
def clockOk (s : ByteArray) : Bool := digitsOk s && inB s.size 3 4 && decide (hourOf s ≤ 23) && decide (minOf s ≤ 59)
def clockOut (s : ByteArray) : ByteArray := if clockOk s = true then num (hourOf s) ++ ⟨#[58]⟩ ++ s.extract (s.size - 2) s.size else ⟨#[]⟩

theorem digit_form {c : UInt8} (h0 : 48 ≤ c.toNat) (h1 : c.toNat ≤ 57) : ∃ i, i < 10 ∧ c = UInt8.ofNat (48 + i) := by
  refine ⟨c.toNat - 48, by omega, ?_⟩
  rw [show 48 + (c.toNat - 48) = c.toNat by omega, UInt8.ofNat_toNat]
theorem over23 : ∀ i, i < 10 → ∀ j, j < 10 → (!Op.bytesLess [UInt8.ofNat (48 + i), UInt8.ofNat (48 + j)] [50, 51] && !([UInt8.ofNat (48 + i), UInt8.ofNat (48 + j)] == [50, 51])) = decide (23 < 10 * i + j) := by decide +kernel
theorem over59 : ∀ i, i < 10 → ∀ j, j < 10 → (!Op.bytesLess [UInt8.ofNat (48 + i), UInt8.ofNat (48 + j)] [53, 57] && !([UInt8.ofNat (48 + i), UInt8.ofNat (48 + j)] == [53, 57])) = decide (59 < 10 * i + j) := by decide +kernel
theorem byteAt_digit {i : Nat} (h : i < 10) : (((UInt8.ofNat (48 + i)).toNat : Nat) : Int) = 48 + i := by
  have : (UInt8.ofNat (48 + i)).toNat = 48 + i := by simp; omega
  omega
theorem list_of_size4 {s : ByteArray} (h : s.size = 4) : ∃ a b c d, s = ⟨#[a, b, c, d]⟩ := by
  have hs := ba_size s
  match hl : s.data.toList with
  | [a, b, c, d] => exact ⟨a, b, c, d, ba_ext (by rw [hl])⟩
  | [] | [_] | [_, _] | [_, _, _] => rw [hl] at hs; simp only [List.length_nil, List.length_cons] at hs; omega
  | _ :: _ :: _ :: _ :: _ :: r => rw [hl] at hs; simp only [List.length_cons] at hs; omega
theorem list_of_size3 {s : ByteArray} (h : s.size = 3) : ∃ a b c, s = ⟨#[a, b, c]⟩ := by
  have hs := ba_size s
  match hl : s.data.toList with
  | [a, b, c] => exact ⟨a, b, c, ba_ext (by rw [hl])⟩
  | [] | [_] | [_, _] => rw [hl] at hs; simp only [List.length_nil, List.length_cons] at hs; omega
  | _ :: _ :: _ :: _ :: r => rw [hl] at hs; simp only [List.length_cons] at hs; omega
theorem clock4 {s : ByteArray} (hd : digitsOk s = true) (h : s.size = 4) :
    clockOk s = !((!Op.bytesLess (s.extract 0 2).toList [50, 51] && !((s.extract 0 2).toList == [50, 51])) || (!Op.bytesLess (s.extract 2 4).toList [53, 57] && !((s.extract 2 4).toList == [53, 57]))) ∧
    num (hourOf s) = (if byteAt (s.extract 0 2) 0 = 48 then (s.extract 0 2).extract 1 2 else s.extract 0 2) ∧ 0 ≤ hourOf s ∧ hourOf s ≤ 99 := by
  have ha := digitsOk_all hd
  obtain ⟨a, b, c, d, rfl⟩ := list_of_size4 h
  simp only [allIn, List.all_cons, List.all_nil, Bool.and_eq_true, decide_eq_true_iff] at ha
  obtain ⟨i, hi, rfl⟩ := digit_form ha.1.1 ha.1.2
  obtain ⟨j, hj, rfl⟩ := digit_form ha.2.1.1 ha.2.1.2
  obtain ⟨k, hk, rfl⟩ := digit_form ha.2.2.1.1 ha.2.2.1.2
  obtain ⟨l, hl, rfl⟩ := digit_form ha.2.2.2.1.1 ha.2.2.2.1.2
  have e1 : ((⟨#[UInt8.ofNat (48 + i), UInt8.ofNat (48 + j), UInt8.ofNat (48 + k), UInt8.ofNat (48 + l)]⟩ : ByteArray).extract 0 2).toList = [UInt8.ofNat (48 + i), UInt8.ofNat (48 + j)] := by rw [ba_toList, ba_extract]; rfl
  have e2 : ((⟨#[UInt8.ofNat (48 + i), UInt8.ofNat (48 + j), UInt8.ofNat (48 + k), UInt8.ofNat (48 + l)]⟩ : ByteArray).extract 2 4).toList = [UInt8.ofNat (48 + k), UInt8.ofNat (48 + l)] := by rw [ba_toList, ba_extract]; rfl
  have bi := byteAt_digit hi
  have bj := byteAt_digit hj
  have bk := byteAt_digit hk
  have bl := byteAt_digit hl
  have hh : hourOf ⟨#[UInt8.ofNat (48 + i), UInt8.ofNat (48 + j), UInt8.ofNat (48 + k), UInt8.ofNat (48 + l)]⟩ = ((10 * i + j : Nat) : Int) := by
    show 10 * (10 * 0 + ((((UInt8.ofNat (48 + i)).toNat : Nat) : Int) - 48)) + ((((UInt8.ofNat (48 + j)).toNat : Nat) : Int) - 48) = _
    omega
  have hm : minOf ⟨#[UInt8.ofNat (48 + i), UInt8.ofNat (48 + j), UInt8.ofNat (48 + k), UInt8.ofNat (48 + l)]⟩ = ((10 * k + l : Nat) : Int) := by
    show 10 * (10 * 0 + ((((UInt8.ofNat (48 + k)).toNat : Nat) : Int) - 48)) + ((((UInt8.ofNat (48 + l)).toNat : Nat) : Int) - 48) = _
    omega
  refine ⟨?_, ?_, by rw [hh]; omega, by rw [hh]; omega⟩
  · rw [e1, e2, over23 i hi j hj, over59 k hk l hl, clockOk, hd, hh, hm]
    simp only [inB, h]
    rw [Bool.eq_iff_iff]
    simp
    omega
  · rw [hh, num_nat]
    have hb : byteAt ((⟨#[UInt8.ofNat (48 + i), UInt8.ofNat (48 + j), UInt8.ofNat (48 + k), UInt8.ofNat (48 + l)]⟩ : ByteArray).extract 0 2) 0 = 48 + i := by
      unfold byteAt; rw [ba_extract]; exact bi
    rw [hb]
    refine ba_ext ?_
    by_cases h0 : i = 0
    · subst h0
      rw [if_pos (by omega), ba_extract, ba_extract]
      rw [show 10 * 0 + j = j by omega, Lib.decDigits_one hj]; rfl
    · rw [if_neg (by omega), ba_extract]
      rw [Lib.decDigits_two (by omega) (by omega), show (10 * i + j) / 10 = i by omega, show (10 * i + j) % 10 = j by omega]; rfl
theorem clock3 {s : ByteArray} (hd : digitsOk s = true) (h : s.size = 3) :
    clockOk s = !(!Op.bytesLess (s.extract 1 3).toList [53, 57] && !((s.extract 1 3).toList == [53, 57])) ∧
    num (hourOf s) = s.extract 0 1 ∧ 0 ≤ hourOf s ∧ hourOf s ≤ 99 := by
  have ha := digitsOk_all hd
  obtain ⟨a, b, c, rfl⟩ := list_of_size3 h
  simp only [allIn, List.all_cons, List.all_nil, Bool.and_eq_true, decide_eq_true_iff] at ha
  obtain ⟨i, hi, rfl⟩ := digit_form ha.1.1 ha.1.2
  obtain ⟨k, hk, rfl⟩ := digit_form ha.2.1.1 ha.2.1.2
  obtain ⟨l, hl, rfl⟩ := digit_form ha.2.2.1.1 ha.2.2.1.2
  have e2 : ((⟨#[UInt8.ofNat (48 + i), UInt8.ofNat (48 + k), UInt8.ofNat (48 + l)]⟩ : ByteArray).extract 1 3).toList = [UInt8.ofNat (48 + k), UInt8.ofNat (48 + l)] := by rw [ba_toList, ba_extract]; rfl
  have bi := byteAt_digit hi
  have bk := byteAt_digit hk
  have bl := byteAt_digit hl
  have hh : hourOf ⟨#[UInt8.ofNat (48 + i), UInt8.ofNat (48 + k), UInt8.ofNat (48 + l)]⟩ = ((i : Nat) : Int) := by
    show 10 * 0 + ((((UInt8.ofNat (48 + i)).toNat : Nat) : Int) - 48) = _
    omega
  have hm : minOf ⟨#[UInt8.ofNat (48 + i), UInt8.ofNat (48 + k), UInt8.ofNat (48 + l)]⟩ = ((10 * k + l : Nat) : Int) := by
    show 10 * (10 * 0 + ((((UInt8.ofNat (48 + k)).toNat : Nat) : Int) - 48)) + ((((UInt8.ofNat (48 + l)).toNat : Nat) : Int) - 48) = _
    omega
  refine ⟨?_, ?_, by rw [hh]; omega, by rw [hh]; omega⟩
  · rw [e2, over59 k hk l hl, clockOk, hd, hh, hm]
    simp only [inB, h]
    rw [Bool.eq_iff_iff]
    simp
    omega
  · rw [hh, num_nat]
    refine ba_ext ?_
    rw [ba_extract, Lib.decDigits_one hi]; rfl
theorem numFrom_bd {s : ByteArray} (hd : digitsOk s = true) {a k : Nat} (hk : k ≤ 2) (ha : a + k ≤ s.size) : 0 ≤ numFrom s a k ∧ numFrom s a k ≤ 99 ∧ (k ≤ 1 → numFrom s a k ≤ 9) := by
  have hall := digitsOk_all hd
  match k, hk with
  | 0, _ => simp [numFrom]
  | 1, _ =>
    have h1 := byteAt_of_allIn hall (show a + 0 < s.size by omega)
    simp only [numFrom]; omega
  | 2, _ =>
    have h1 := byteAt_of_allIn hall (show a + 0 < s.size by omega)
    have h2 := byteAt_of_allIn hall (show a + 1 < s.size by omega)
    simp only [numFrom]; omega
theorem clockOk_over {s : ByteArray} (h : 23 < hourOf s ∨ 59 < minOf s) : clockOk s = false := by
  rw [clockOk]
  rcases h with h | h
  · rw [show decide (hourOf s ≤ 23) = false by simp; omega]; simp
  · rw [show decide (minOf s ≤ 59) = false by simp; omega]; simp
theorem clockOk_within {s : ByteArray} (hd : digitsOk s = true) (hi : inB s.size 3 4 = true) (h : hourOf s ≤ 23) (k : minOf s ≤ 59) : clockOk s = true := by
  rw [clockOk, hd, hi]; simp [h, k]
theorem clock_no {s : ByteArray} (h : digitsOk s = false ∨ inB s.size 3 4 = false) : clockOk s = false ∧ clockOut s = ⟨#[]⟩ := by
  have : clockOk s = false := by rcases h with h | h <;> simp [clockOk, h]
  exact ⟨this, by simp [clockOut, this]⟩

end Go.Proofs.YtkbbcmbeafjpaabDoor.Pl
