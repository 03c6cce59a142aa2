/-
  PLAIN LAWS: bit operations on int, the keys of number strokes. No program is in sight here.
-/
import Derived.Test.YtibchndfndgdeaaPlainNum
namespace Go.Proofs.Ytibchndfndgdeaa.Pl
open Go.RowKit

/-! ### int's bit operations at natural numbers -/
theorem ofInt_nat (a : Nat) : BitVec.ofInt 64 (a : Int) = BitVec.ofNat 64 a := by
  apply BitVec.eq_of_toNat_eq; simp
theorem wrap_nat (n : Nat) (h : n < 9223372036854775808) : IntKind.i64.wrap (n : Int) = n := by
  simp [IntKind.wrap, IntKind.bits, IntKind.signed]; omega
theorem bits_and (a b : Nat) (ha : a < 9223372036854775808) (hb : b < 9223372036854775808) : bits .and .i64 (a : Int) (b : Int) = ((a &&& b : Nat) : Int) := by
  have h : a &&& b < 9223372036854775808 := Nat.lt_of_le_of_lt Nat.and_le_left ha
  show IntKind.i64.wrap (((BitVec.ofInt 64 (a : Int) &&& BitVec.ofInt 64 (b : Int)).toNat : Nat) : Int) = _
  rw [ofInt_nat, ofInt_nat, BitVec.toNat_and, BitVec.toNat_ofNat, BitVec.toNat_ofNat, Nat.mod_eq_of_lt (by omega), Nat.mod_eq_of_lt (by omega), wrap_nat _ h]
theorem bits_or (a b : Nat) (ha : a < 4611686018427387904) (hb : b < 4611686018427387904) : bits .or .i64 (a : Int) (b : Int) = ((a ||| b : Nat) : Int) := by
  have h : a ||| b < 2 ^ 62 := Nat.or_lt_two_pow (by omega) (by omega)
  show IntKind.i64.wrap (((BitVec.ofInt 64 (a : Int) ||| BitVec.ofInt 64 (b : Int)).toNat : Nat) : Int) = _
  rw [ofInt_nat, ofInt_nat, BitVec.toNat_or, BitVec.toNat_ofNat, BitVec.toNat_ofNat, Nat.mod_eq_of_lt (by omega), Nat.mod_eq_of_lt (by omega), wrap_nat _ (by omega)]
/-- a without the bits of b -/
def andNot (a b : Nat) : Nat := a ^^^ (a &&& b)
theorem testBit_andNot (a b j : Nat) : (andNot a b).testBit j = (a.testBit j && !b.testBit j) := by
  unfold andNot
  rw [Nat.testBit_xor, Nat.testBit_and]
  cases a.testBit j <;> cases b.testBit j <;> rfl
theorem andNot_le (a b : Nat) : andNot a b ≤ a := by
  have : andNot a b = a &&& andNot a b := by
    apply Nat.eq_of_testBit_eq; intro j
    rw [Nat.testBit_and, testBit_andNot]; cases a.testBit j <;> simp
  rw [this]; exact Nat.and_le_left
theorem bits_andNot (a b : Nat) (ha : a < 9223372036854775808) (hb : b < 9223372036854775808) : bits .andNot .i64 (a : Int) (b : Int) = ((andNot a b : Nat) : Int) := by
  have h := andNot_le a b
  show IntKind.i64.wrap (((BitVec.ofInt 64 (a : Int) &&& ~~~ BitVec.ofInt 64 (b : Int)).toNat : Nat) : Int) = _
  have e : BitVec.ofInt 64 (a : Int) &&& ~~~ BitVec.ofInt 64 (b : Int) = BitVec.ofNat 64 a ^^^ (BitVec.ofNat 64 a &&& BitVec.ofNat 64 b) := by
    rw [ofInt_nat, ofInt_nat]
    apply BitVec.eq_of_getLsbD_eq
    intro i hi
    simp only [BitVec.getLsbD_and, BitVec.getLsbD_not, BitVec.getLsbD_xor, hi, decide_true, Bool.true_and]
    cases (BitVec.ofNat 64 a).getLsbD i <;> cases (BitVec.ofNat 64 b).getLsbD i <;> rfl
  rw [e, BitVec.toNat_xor, BitVec.toNat_and, BitVec.toNat_ofNat, BitVec.toNat_ofNat, Nat.mod_eq_of_lt (by omega), Nat.mod_eq_of_lt (by omega), ← andNot, wrap_nat _ (by omega)]

/-! ### the keys of digits -/
def keyOf (i : Nat) : Nat := [1, 2, 4, 6, 8, 9, 13, 15, 17, 19].getD i 0
/-- is digit key i pressed? as the program asks it -/
def kbit (s : Int) (i : Nat) : Bool := bits .and .i64 (s / 2 ^ keyOf i) 1 == 1
def digitOf (i : Nat) : UInt8 := [49, 50, 51, 52, 53, 48, 54, 55, 56, 57].getD i 0
def digitsTo (s : Int) : Nat → List UInt8
  | 0 => []
  | i + 1 => digitsTo s i ++ (if kbit s i = true then [digitOf i] else [])
def restTo (s : Int) : Nat → Int
  | 0 => bits .andNot .i64 s 2103297
  | i + 1 => if kbit s i = true then bits .andNot .i64 (restTo s i) (2 ^ keyOf i) else restTo s i
theorem digitsTo_length (s : Int) (i : Nat) : (digitsTo s i).length ≤ i := by
  induction i with
  | zero => simp [digitsTo]
  | succ i ih => unfold digitsTo; split <;> simp <;> omega

theorem and_one_testBit (n k : Nat) : (n / 2 ^ k) &&& 1 = (n.testBit k).toNat := by
  rw [Nat.and_one_is_mod, Nat.testBit_eq_decide_div_mod_eq]
  have : n / 2 ^ k % 2 < 2 := Nat.mod_lt _ (by omega)
  by_cases h : n / 2 ^ k % 2 = 1
  · simp [h]
  · have h0 : n / 2 ^ k % 2 = 0 := by omega
    simp [h0]
theorem kbit_nat (n i : Nat) (h : n < 8388608) : kbit (n : Int) i = n.testBit (keyOf i) := by
  have hd : (n : Int) / 2 ^ keyOf i = ((n / 2 ^ keyOf i : Nat) : Int) := by
    rw [show ((2 : Int) ^ keyOf i) = ((2 ^ keyOf i : Nat) : Int) by simp]; omega
  have hl : n / 2 ^ keyOf i ≤ n := Nat.div_le_self _ _
  unfold kbit
  rw [hd, show (1 : Int) = ((1 : Nat) : Int) from rfl, bits_and _ _ (by omega) (by omega), and_one_testBit]
  cases n.testBit (keyOf i) <;> rfl
theorem and_key (n i : Nat) (h : n < 8388608) : (bits .and .i64 (n : Int) ((2 ^ keyOf i : Nat) : Int) == 0) = !n.testBit (keyOf i) := by
  have hk : 2 ^ keyOf i ≤ 2 ^ 19 := Nat.pow_le_pow_right (by omega) (by
    unfold keyOf
    match i with
    | 0 | 1 | 2 | 3 | 4 | 5 | 6 | 7 | 8 | 9 => decide
    | i + 10 => simp)
  rw [bits_and _ _ (by omega) (by omega)]
  have hp : 0 < 2 ^ keyOf i := Nat.two_pow_pos _
  rw [nat_bit, Nat.testBit_eq_decide_div_mod_eq]
  have h2 : n / 2 ^ keyOf i % 2 = 0 ∨ n / 2 ^ keyOf i % 2 = 1 := by omega
  rcases h2 with h2 | h2
  · rw [h2]; simp
  · rw [h2, Nat.one_mul]
    have : ¬ ((2 ^ keyOf i : Nat) : Int) = 0 := by omega
    simp only [decide_true, Bool.not_true, beq_eq_false_iff_ne, ne_eq]
    exact this

/-- which keys are digit keys, up to the i-th -/
def maskTo : Nat → Nat
  | 0 => 0
  | i + 1 => maskTo i ||| 2 ^ keyOf i
theorem andNot_or (n a b : Nat) : andNot (andNot n a) b = andNot n (a ||| b) := by
  apply Nat.eq_of_testBit_eq; intro j
  simp only [testBit_andNot, Nat.testBit_or]
  cases n.testBit j <;> cases a.testBit j <;> cases b.testBit j <;> rfl
theorem andNot_unset (n a k : Nat) (h : n.testBit k = false) : andNot n (a ||| 2 ^ k) = andNot n a := by
  apply Nat.eq_of_testBit_eq; intro j
  simp only [testBit_andNot, Nat.testBit_or, Nat.testBit_two_pow]
  by_cases hj : k = j
  · subst hj; simp [h]
  · simp [hj]
theorem keyOf_le (i : Nat) : keyOf i ≤ 19 := by
  unfold keyOf
  match i with
  | 0 | 1 | 2 | 3 | 4 | 5 | 6 | 7 | 8 | 9 => decide
  | i + 10 => simp
theorem restTo_nat (n i : Nat) (h : n < 8388608) : restTo (n : Int) i = ((andNot n (2103297 ||| maskTo i) : Nat) : Int) := by
  induction i with
  | zero =>
    show bits .andNot .i64 (n : Int) ((2103297 : Nat) : Int) = _
    rw [bits_andNot _ _ (by omega) (by omega)]; simp [maskTo]
  | succ i ih =>
    have hk : 2 ^ keyOf i ≤ 2 ^ 19 := Nat.pow_le_pow_right (by omega) (keyOf_le i)
    unfold restTo
    rw [ih, kbit_nat n i h, maskTo, ← Nat.or_assoc]
    cases ht : n.testBit (keyOf i)
    · simp [andNot_unset n _ _ ht]
    · have hl := andNot_le n (2103297 ||| maskTo i)
      rw [if_pos rfl, show ((2 : Int) ^ keyOf i) = ((2 ^ keyOf i : Nat) : Int) by simp, bits_andNot _ _ (by omega) (by omega), andNot_or]
theorem maskTo_ten : maskTo 10 = 697174 := by decide +kernel
theorem digitsTo_nil (n i : Nat) (h : n < 8388608) : digitsTo (n : Int) i = [] ↔ n &&& maskTo i = 0 := by
  induction i with
  | zero => simp [digitsTo, maskTo]
  | succ i ih =>
    unfold digitsTo
    rw [kbit_nat n i h, maskTo, Nat.and_or_distrib_left]
    have hz : n &&& maskTo i ||| n &&& 2 ^ keyOf i = 0 ↔ (n &&& maskTo i = 0 ∧ n &&& 2 ^ keyOf i = 0) := Nat.or_eq_zero_iff
    rw [hz, List.append_eq_nil_iff, ih]
    have hk := and_key n i h
    rw [bits_and _ _ (by omega) (by have := Nat.pow_le_pow_right (n := 2) (by omega) (keyOf_le i); omega)] at hk
    cases ht : n.testBit (keyOf i)
    · rw [ht] at hk
      simp only [Bool.not_false, beq_iff_eq] at hk
      simp; intro _; omega
    · rw [ht] at hk
      simp only [Bool.not_true, beq_eq_false_iff_ne, ne_eq] at hk
      simp; intro _; omega

/-- a stroke -/
def strokeB (s : Int) : Bool := inB s 1 8388607
/-- the digits of a number stroke: as the reference asks -/
def isNum (s : Int) : Bool := strokeB s && !(bits .and .i64 s 1 == 0) && !(bits .and .i64 s 697174 == 0) && (bits .andNot .i64 s 2800471 == 0) && (bits .and .i64 s 6144 == 0 || bits .and .i64 s 6144 == 6144)
/-- what the program asks before it writes -/
def canWrite (s : Int) : Bool := strokeB s && !(bits .and .i64 s 1 == 0) && (restTo s 10 == 0) && (bits .and .i64 s 6144 == 0 || bits .and .i64 s 6144 == 6144)
theorem isNum_eq (s : Int) : isNum s = (canWrite s && !(digitsTo s 10).isEmpty) := by
  unfold isNum canWrite
  cases hv : strokeB s
  · rfl
  · simp only [strokeB, inB, Bool.and_eq_true, decide_eq_true_iff] at hv
    obtain ⟨n, rfl⟩ := Int.eq_ofNat_of_zero_le (show 0 ≤ s by omega)
    have h : n < 8388608 := by omega
    have e1 : restTo (n : Int) 10 = bits .andNot .i64 (n : Int) 2800471 := by
      rw [restTo_nat n 10 h, maskTo_ten, show (2800471 : Int) = ((2800471 : Nat) : Int) from rfl, bits_andNot _ _ (by omega) (by omega)]; rfl
    have e2 : (bits .and .i64 (n : Int) 697174 == 0) = (digitsTo (n : Int) 10).isEmpty := by
      have hd := digitsTo_nil n 10 h
      rw [maskTo_ten] at hd
      rw [show (697174 : Int) = ((697174 : Nat) : Int) from rfl, bits_and _ _ (by omega) (by omega), Bool.eq_iff_iff, beq_iff_eq, List.isEmpty_iff, hd]
      omega
    rw [e1, e2]
    cases (bits .and .i64 (n : Int) 1 == 0) <;> cases (digitsTo (n : Int) 10).isEmpty <;> simp

/-! ### digits doubled, and what is written -/
def dup (l : List UInt8) : List UInt8 := l.flatMap fun c => [c, c]
theorem dup_append (a b : List UInt8) : dup (a ++ b) = dup a ++ dup b := by simp [dup]
theorem dup_length (l : List UInt8) : (dup l).length = 2 * l.length := by
  induction l with
  | nil => rfl
  | cons c l ih => unfold dup at *; simp [List.flatMap_cons, ih]; omega
theorem dup_step (s : ByteArray) (k : Nat) (h : k < s.size) : dup (s.data.toList.take (k + 1)) = dup (s.data.toList.take k) ++ ((s.extract k (k + 1)).data.toList ++ (s.extract k (k + 1)).data.toList) := by
  have hk : k < s.data.toList.length := by simpa using h
  obtain ⟨c, h1, h2⟩ := byte_extract s k h
  have hc : s.data.toList.take (k + 1) = s.data.toList.take k ++ [c] := by
    rw [List.take_add_one]
    have : s.data.toList[k]? = some c := by
      have := congrArg (fun l : List UInt8 => l[0]?) h2
      simpa [List.getElem?_drop] using this
    rw [this]; rfl
  rw [hc, dup_append, h1]; rfl
/-- the text k bytes in -/
def dupTo (s : ByteArray) (k : Nat) : ByteArray := ⟨(dup (s.data.toList.take k)).toArray⟩
theorem dupTo_zero (s : ByteArray) : dupTo s 0 = ⟨#[]⟩ := rfl
theorem dupTo_size (s : ByteArray) (k : Nat) : (dupTo s k).size ≤ 2 * k := by
  rw [ba_size]; simp only [dupTo]; rw [dup_length, List.length_take]; omega
theorem dupTo_succ (s : ByteArray) (k : Nat) (h : k < s.size) : dupTo s k ++ (s.extract k (k + 1) ++ s.extract k (k + 1)) = dupTo s (k + 1) := by
  apply ba_ext
  rw [ba_append, ba_append]
  simp only [dupTo]
  rw [dup_step s k h]
def dbl (s : ByteArray) : ByteArray := ⟨(dup s.data.toList).toArray⟩
theorem dupTo_all (s : ByteArray) (k : Nat) (h : s.size ≤ k) : dupTo s k = dbl s := by
  unfold dupTo dbl; rw [List.take_of_length_le (by simpa using h)]

def textTo (s : Int) (i : Nat) : ByteArray := ⟨(digitsTo s i).toArray⟩
theorem textTo_size (s : Int) (i : Nat) : (textTo s i).size ≤ i := by
  rw [ba_size]; simpa [textTo] using digitsTo_length s i
theorem textTo_off {s : Int} {i : Nat} (h : kbit s i = false) : textTo s (i + 1) = textTo s i := by
  unfold textTo; rw [digitsTo, h]; simp
theorem textTo_on {s : Int} {i : Nat} (h : kbit s i = true) (hi : i < 10) : textTo s i ++ (⟨#[49, 50, 51, 52, 53, 48, 54, 55, 56, 57]⟩ : ByteArray).extract i (i + 1) = textTo s (i + 1) := by
  apply ba_ext
  rw [ba_append]
  unfold textTo; rw [digitsTo, h]
  simp only [ba_extract, if_true]
  have : i = 0 ∨ i = 1 ∨ i = 2 ∨ i = 3 ∨ i = 4 ∨ i = 5 ∨ i = 6 ∨ i = 7 ∨ i = 8 ∨ i = 9 := by omega
  rcases this with rfl | rfl | rfl | rfl | rfl | rfl | rfl | rfl | rfl | rfl <;> rfl
theorem restTo_off {s : Int} {i : Nat} (h : kbit s i = false) : restTo s (i + 1) = restTo s i := by
  rw [restTo, h]; simp
theorem restTo_on {s : Int} {i : Nat} (h : kbit s i = true) : bits .andNot .i64 (restTo s i) (2 ^ keyOf i) = restTo s (i + 1) := by
  conv => rhs; rw [restTo, h]
  rfl

def turnedText (s : Int) (o : ByteArray) : ByteArray := if (bits .and .i64 s 6144 == 0) = true then o else ⟨o.data.reverse⟩
def doubledText (s : Int) (o : ByteArray) : ByteArray := if (bits .and .i64 s 2097152 == 0) = true then o else dbl o
/-- what a stroke writes -/
def written (s : Int) : ByteArray := if canWrite s = true then doubledText s (turnedText s (textTo s 10)) else ⟨#[]⟩

theorem dup_nil {l : List UInt8} : (dup l).isEmpty = l.isEmpty := by cases l <;> simp [dup]
theorem turned_empty (s : Int) (o : ByteArray) : (turnedText s o).data.toList.isEmpty = o.data.toList.isEmpty := by
  unfold turnedText; split
  · rfl
  · simp
theorem doubled_empty (s : Int) (o : ByteArray) : (doubledText s o).data.toList.isEmpty = o.data.toList.isEmpty := by
  unfold doubledText; split
  · rfl
  · simp only [dbl]; exact dup_nil
theorem written_isNum (s : Int) : ((written s).toList != []) = isNum s := by
  rw [isNum_eq, ba_toList]
  have h : ∀ l : List UInt8, (l != []) = !l.isEmpty := by intro l; cases l <;> rfl
  rw [h]
  unfold written
  cases hc : canWrite s
  · rfl
  · rw [if_pos rfl, doubled_empty, turned_empty]; rfl

theorem maskTo_lt (i : Nat) : maskTo i < 2 ^ 20 := by
  induction i with
  | zero => decide
  | succ i ih => exact Nat.or_lt_two_pow ih (Nat.pow_lt_pow_right (by omega) (by have := keyOf_le i; omega))
theorem or_step (i : Nat) : bits .or .i64 ((maskTo i : Nat) : Int) ((2 ^ keyOf i : Nat) : Int) = ((maskTo (i + 1) : Nat) : Int) := by
  have h1 := maskTo_lt i
  have h2 : 2 ^ keyOf i ≤ 2 ^ 19 := Nat.pow_le_pow_right (by omega) (keyOf_le i)
  rw [bits_or _ _ (by omega) (by omega)]; rfl

/-! ### digits as the reference writes them -/
def specTo (t d : Bool) (s : Int) : Nat → List UInt8
  | 0 => []
  | i + 1 => if kbit s i = true then (if t = true then (if d = true then [digitOf i, digitOf i] else [digitOf i]) ++ specTo t d s i else specTo t d s i ++ (if d = true then [digitOf i, digitOf i] else [digitOf i])) else specTo t d s i
theorem specTo_eq (t d : Bool) (s : Int) (i : Nat) : specTo t d s i = (if d = true then dup (if t = true then (digitsTo s i).reverse else digitsTo s i) else (if t = true then (digitsTo s i).reverse else digitsTo s i)) := by
  induction i with
  | zero => cases t <;> cases d <;> rfl
  | succ i ih =>
    unfold specTo digitsTo
    rw [ih]
    cases kbit s i <;> cases t <;> cases d <;> simp [dup]
def specText (t d : Bool) (s : Int) (i : Nat) : ByteArray := ⟨(specTo t d s i).toArray⟩
theorem specTo_length (t d : Bool) (s : Int) (i : Nat) : (specTo t d s i).length ≤ 2 * i := by
  rw [specTo_eq]
  have := digitsTo_length s i
  cases t <;> cases d <;> simp [dup_length] <;> omega
theorem specText_size (t d : Bool) (s : Int) (i : Nat) : (specText t d s i).size ≤ 2 * i := by
  rw [ba_size]; simpa [specText] using specTo_length t d s i
theorem specText_off {s : Int} {i : Nat} (t d : Bool) (h : kbit s i = false) : specText t d s (i + 1) = specText t d s i := by
  unfold specText; rw [specTo, h]; simp
theorem digit_piece (i : Nat) (hi : i < 10) : ((⟨#[49, 50, 51, 52, 53, 48, 54, 55, 56, 57]⟩ : ByteArray).extract i (i + 1)).data.toList = [digitOf i] := by
  have : i = 0 ∨ i = 1 ∨ i = 2 ∨ i = 3 ∨ i = 4 ∨ i = 5 ∨ i = 6 ∨ i = 7 ∨ i = 8 ∨ i = 9 := by omega
  rcases this with rfl | rfl | rfl | rfl | rfl | rfl | rfl | rfl | rfl | rfl <;> rfl
theorem specText_on {s : Int} {i : Nat} (t d : Bool) (h : kbit s i = true) (hi : i < 10) {x y : ByteArray} (hx : x = if d = true then (⟨#[49, 50, 51, 52, 53, 48, 54, 55, 56, 57]⟩ : ByteArray).extract i (i + 1) ++ (⟨#[49, 50, 51, 52, 53, 48, 54, 55, 56, 57]⟩ : ByteArray).extract i (i + 1) else (⟨#[49, 50, 51, 52, 53, 48, 54, 55, 56, 57]⟩ : ByteArray).extract i (i + 1)) (hy : y = if t = true then x ++ specText t d s i else specText t d s i ++ x) : y = specText t d s (i + 1) := by
  apply ba_ext
  subst hx hy
  have hp := digit_piece i hi
  have hs : (specText t d s (i + 1)).data.toList = specTo t d s (i + 1) := rfl
  have hs2 : (specText t d s i).data.toList = specTo t d s i := rfl
  rw [hs, specTo, h]
  cases t <;> cases d <;> simp only [if_true, Bool.false_eq_true, if_false, ba_append, hp, hs2] <;> rfl
theorem specText_ten (s : Int) : specText (!(bits .and .i64 s 6144 == 0)) (!(bits .and .i64 s 2097152 == 0)) s 10 = doubledText s (turnedText s (textTo s 10)) := by
  apply ba_ext
  show specTo _ _ s 10 = _
  rw [specTo_eq]
  unfold doubledText turnedText
  cases (bits .and .i64 s 6144 == 0) <;> cases (bits .and .i64 s 2097152 == 0) <;> simp [dbl, textTo]

end Go.Proofs.Ytibchndfndgdeaa.Pl
