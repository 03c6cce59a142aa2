/-
  PLAIN LAWS on digit strings: numbers, groups of three digits, ordinals. No program is in sight here.
-/
import Derived.Test.YtibchndfndgdeaaPlain
namespace Go.Proofs.Ytibchndfndgdeaa.Pl
open Go.RowKit

theorem ba_ext {a b : ByteArray} (h : a.data.toList = b.data.toList) : a = b := by
  cases a with | mk x => cases b with | mk y => simp at h; rw [h]
theorem ba_append (a b : ByteArray) : (a ++ b).data.toList = a.data.toList ++ b.data.toList := by simp
theorem ba_extract (a : ByteArray) (i j : Nat) : (a.extract i j).data.toList = (a.data.toList.drop i).take (j - i) := by simp [ByteArray.data_extract, List.extract_eq_take_drop]
theorem ba_toList (a : ByteArray) : a.toList = a.data.toList := ByteArray.toList_eq a
theorem ba_size (a : ByteArray) : a.size = a.data.toList.length := by simp

/-- the number of a byte, 0 behind the end -/
def byteAt (s : ByteArray) (i : Nat) : Int := ((s.data.toList.getD i 0).toNat : Int)
theorem byteAt_eq (s : ByteArray) (i : Nat) (h : i < s.size) : (s[i].toNat : Int) = byteAt s i := by
  have h' : i < s.data.toList.length := by simpa using h
  unfold byteAt
  rw [List.getD_eq_getElem?_getD, List.getElem?_eq_getElem h']
  rfl
theorem byteAt_bd (s : ByteArray) (i : Nat) : 0 ≤ byteAt s i ∧ byteAt s i < 256 := by
  unfold byteAt
  have := (s.data.toList.getD i 0).toNat_lt
  omega
theorem byteAt_of_allIn {a b : Nat} {s : ByteArray} {i : Nat} (hd : allIn a b s.data.toList = true) (h : i < s.size) : (a : Int) ≤ byteAt s i ∧ byteAt s i ≤ (b : Int) := by
  have h' : i < s.data.toList.length := by simpa using h
  rw [allIn, List.all_eq_true] at hd
  have := hd _ (List.getElem_mem h')
  unfold byteAt
  rw [List.getD_eq_getElem?_getD, List.getElem?_eq_getElem h']
  simp at this ⊢
  omega

def digitsOk (s : ByteArray) : Bool := allIn 48 57 s.data.toList && inB s.size 1 30
theorem digitsOk_pos {s : ByteArray} (h : digitsOk s = true) : 0 < s.size := by simp [digitsOk, inB] at h; omega
theorem digitsOk_le {s : ByteArray} (h : digitsOk s = true) : s.size ≤ 30 := by simp [digitsOk, inB] at h; omega
theorem digitsOk_all {s : ByteArray} (h : digitsOk s = true) : allIn 48 57 s.data.toList = true := by simp [digitsOk] at h; exact h.1

def isNumber (s : ByteArray) : Bool := digitsOk s && (decide ((s.size : Int) = 1) || !(byteAt s 0 == 48))
theorem isNumber_digits {s : ByteArray} (h : isNumber s = true) : digitsOk s = true := by simp [isNumber] at h; exact h.1
theorem isNumber_no {s : ByteArray} (h : digitsOk s = false) : isNumber s = false := by simp [isNumber, h]
theorem isNumber_impl {s : ByteArray} (h : digitsOk s = true) : isNumber s = ((s.toList == [48]) || (byteAt s 0 != 48)) := by
  have hp := digitsOk_pos h
  unfold isNumber
  rw [h, ba_toList]
  unfold byteAt
  have hs := ba_size s
  match hl : s.data.toList with
  | [] => rw [hl] at hs; simp only [List.length_nil] at hs; omega
  | [c] =>
    rw [hl] at hs
    simp only [List.length_singleton] at hs
    simp [hs]
    by_cases e : c = 48
    · simp [e]
    · right; intro h'; exact e (UInt8.toNat.inj (by simpa using (by omega : c.toNat = 48)))
  | c :: d :: r =>
    rw [hl] at hs
    simp only [List.length_cons] at hs
    have : ¬ (s.size : Int) = 1 := by omega
    simp [this, bne]
theorem isNumber_spec {s : ByteArray} (h : digitsOk s = true) : isNumber s = (((s.size : Int) == 1) || (byteAt s 0 != 48)) := by
  unfold isNumber
  rw [h]
  simp [bne, Bool.beq_eq_decide_eq]

/-! ### groups of three -/
def grpR : List UInt8 → List UInt8
  | [] => []
  | c :: r => if (r.length + 1) % 3 = 0 then 44 :: c :: grpR r else c :: grpR r
def grpL : List UInt8 → List UInt8
  | [] => []
  | c :: r => c :: grpR r
theorem grpR_length (l : List UInt8) : (grpR l).length ≤ 2 * l.length := by
  induction l with
  | nil => simp [grpR]
  | cons c r ih => unfold grpR; split <;> simp <;> omega
theorem grpL_length (l : List UInt8) : (grpL l).length ≤ 2 * l.length := by
  cases l with
  | nil => simp [grpL]
  | cons c r => have := grpR_length r; simp [grpL]; omega
theorem grpR_append (x b : List UInt8) (hb : b.length = 3) : grpR (x ++ b) = grpR x ++ 44 :: b := by
  induction x with
  | nil =>
    match b, hb with
    | [p, q, r], _ => simp [grpR]
  | cons c x ih =>
    simp only [List.cons_append, grpR, ih, List.length_append, hb]
    have : (x.length + 3 + 1) % 3 = (x.length + 1) % 3 := by omega
    rw [this]
    split <;> simp
theorem grpL_small (l : List UInt8) (h : l.length ≤ 3) : grpL l = l := by
  match l, h with
  | [], _ => rfl
  | [a], _ => rfl
  | [a, b], _ => simp [grpL, grpR]
  | [a, b, c], _ => simp [grpL, grpR]
theorem grpL_append (x b : List UInt8) (hx : 0 < x.length) (hb : b.length = 3) : grpL (x ++ b) = grpL x ++ 44 :: b := by
  match x, hx with
  | c :: x, _ => simp [grpL, grpR_append x b hb]

def grouped (s : ByteArray) : ByteArray := ⟨(grpL s.data.toList).toArray⟩
theorem grouped_size (s : ByteArray) : (grouped s).size ≤ 2 * s.size := by
  have := grpL_length s.data.toList
  rw [ba_size, ba_size s]; simpa [grouped] using this
theorem grouped_small (s : ByteArray) (h : s.size ≤ 3) : grouped s = s := ba_ext (by simpa [grouped] using grpL_small s.data.toList (by simpa using h))
theorem grouped_step (s : ByteArray) (h : 3 < s.size) : grouped s = (grouped (s.extract 0 (s.size - 3)) ++ ⟨#[44]⟩) ++ s.extract (s.size - 3) s.size := by
  have hs := ba_size s
  refine ba_ext ?_
  rw [ba_append, ba_append]
  simp only [grouped, ba_extract, Nat.sub_zero, List.drop_zero]
  have e : s.data.toList = s.data.toList.take (s.size - 3) ++ s.data.toList.drop (s.size - 3) := (List.take_append_drop _ _).symm
  have hl : (s.data.toList.drop (s.size - 3)).length = 3 := by rw [List.length_drop]; omega
  have e2 : (s.data.toList.drop (s.size - 3)).take (s.size - (s.size - 3)) = s.data.toList.drop (s.size - 3) := List.take_of_length_le (by omega)
  rw [e2]
  conv => lhs; rw [e]
  rw [grpL_append _ _ (by rw [List.length_take]; omega) hl]
  simp

def grpInv (s : ByteArray) (k : Nat) (o : ByteArray) : Prop := o.data.toList ++ (if k = 0 then grpL s.data.toList else grpR (s.data.toList.drop k)) = grpL s.data.toList
theorem grpInv_zero (s : ByteArray) : grpInv s 0 ⟨#[]⟩ := by simp [grpInv]
theorem byte_extract (s : ByteArray) (k : Nat) (h : k < s.size) : ∃ c, (s.extract k (k + 1)).data.toList = [c] ∧ s.data.toList.drop k = c :: s.data.toList.drop (k + 1) := by
  have h' : k < s.data.toList.length := by simpa using h
  refine ⟨s.data.toList[k]'h', ?_, List.drop_eq_getElem_cons h'⟩
  rw [ba_extract, List.drop_eq_getElem_cons h']
  simp [show k + 1 - k = 1 by omega]
theorem grpInv_first (s : ByteArray) (o : ByteArray) (h : 0 < s.size) (hi : grpInv s 0 o) : grpInv s 1 (o ++ s.extract 0 1) := by
  obtain ⟨c, h1, h2⟩ := byte_extract s 0 h
  simp only [Nat.zero_add, List.drop_zero] at h1 h2
  have e : s.data.toList = c :: s.data.toList.drop 1 := h2
  unfold grpInv at hi ⊢
  rw [if_pos rfl] at hi
  rw [if_neg (by omega), ba_append, h1]
  have e3 : grpL s.data.toList = c :: grpR (s.data.toList.drop 1) := by rw [e]; rfl
  rw [e3] at hi ⊢
  simpa using hi
theorem grpInv_sep (s : ByteArray) (k : Nat) (o : ByteArray) (h : k < s.size) (hk : 0 < k) (hm : (s.size - k) % 3 = 0) (hi : grpInv s k o) : grpInv s (k + 1) ((o ++ ⟨#[44]⟩) ++ s.extract k (k + 1)) := by
  obtain ⟨c, h1, h2⟩ := byte_extract s k h
  have hs := ba_size s
  unfold grpInv at hi ⊢
  rw [if_neg (by omega)] at hi
  rw [if_neg (by omega), ba_append, ba_append, h1]
  rw [h2, grpR, if_pos (by rw [List.length_drop]; omega)] at hi
  simpa using hi
theorem grpInv_no (s : ByteArray) (k : Nat) (o : ByteArray) (h : k < s.size) (hk : 0 < k) (hm : ¬ (s.size - k) % 3 = 0) (hi : grpInv s k o) : grpInv s (k + 1) (o ++ s.extract k (k + 1)) := by
  obtain ⟨c, h1, h2⟩ := byte_extract s k h
  have hs := ba_size s
  unfold grpInv at hi ⊢
  rw [if_neg (by omega)] at hi
  rw [if_neg (by omega), ba_append, h1]
  rw [h2, grpR, if_neg (by rw [List.length_drop]; omega)] at hi
  simpa using hi
theorem grpInv_end (s : ByteArray) (k : Nat) (o : ByteArray) (h : s.size ≤ k) (hi : grpInv s k o) : o = grouped s := by
  have hs := ba_size s
  refine ba_ext ?_
  unfold grpInv at hi
  by_cases h0 : k = 0
  · have : s.data.toList = [] := List.length_eq_zero_iff.1 (by omega)
    rw [if_pos h0, this] at hi
    have hi2 : o.data.toList = [] := by simpa [grpL] using hi
    rw [hi2]; simp [grouped, this, grpL]
  · rw [if_neg h0, List.drop_eq_nil_of_le (by omega)] at hi
    simpa [grouped, grpR] using hi

def groupDigits (s : ByteArray) : ByteArray := if isNumber s = true then grouped s else ⟨#[]⟩

/-! ### ordinals -/
def ordinal (s : ByteArray) : ByteArray :=
  if isNumber s = true then
    if (2 : Int) ≤ s.size ∧ byteAt s (s.size - 2) = 49 then s ++ ⟨#[116, 104]⟩
    else if byteAt s (s.size - 1) = 49 then s ++ ⟨#[115, 116]⟩ else if byteAt s (s.size - 1) = 50 then s ++ ⟨#[110, 100]⟩ else if byteAt s (s.size - 1) = 51 then s ++ ⟨#[114, 100]⟩ else s ++ ⟨#[116, 104]⟩
  else ⟨#[]⟩

/-! ### dollars -/
def pad1 (s : ByteArray) : ByteArray := if s.size < 3 then ⟨#[48]⟩ ++ s else s
def pad3 (s : ByteArray) : ByteArray := pad1 (pad1 (pad1 s))
theorem pad1_big {s : ByteArray} (h : 3 ≤ s.size) : pad1 s = s := by rw [pad1, if_neg (by omega)]
theorem pad1_size (s : ByteArray) : (pad1 s).size = if s.size < 3 then s.size + 1 else s.size := by
  unfold pad1; split
  · rw [ByteArray.size_append, show (⟨#[48]⟩ : ByteArray).size = 1 from rfl]; omega
  · rfl
theorem pad3_big {s : ByteArray} (h : 3 ≤ s.size) : pad3 s = s := by unfold pad3; rw [pad1_big h, pad1_big h, pad1_big h]
theorem pad3_step {s : ByteArray} (h0 : 0 < s.size) (h : s.size < 3) : pad3 (⟨#[48]⟩ ++ s) = pad3 s := by
  have e : pad1 s = ⟨#[48]⟩ ++ s := by rw [pad1, if_pos h]
  have hz := pad1_size s
  rw [if_pos h] at hz
  unfold pad3
  rw [← e]
  have hz2 := pad1_size (pad1 s)
  have h3 : 3 ≤ (pad1 (pad1 s)).size := by rw [hz2, hz]; split <;> omega
  rw [pad1_big h3, pad1_big h3]
theorem pad3_size (s : ByteArray) : 3 ≤ (pad3 s).size ∧ (pad3 s).size ≤ s.size + 3 := by
  have a := pad1_size s
  have b := pad1_size (pad1 s)
  have c := pad1_size (pad1 (pad1 s))
  unfold pad3
  rw [c, b, a]
  constructor <;> (repeat' split) <;> omega
def dollars (s : ByteArray) (cents : Bool) : ByteArray :=
  if cents = true then ⟨#[36]⟩ ++ grouped ((pad3 s).extract 0 ((pad3 s).size - 2)) ++ ⟨#[46]⟩ ++ (pad3 s).extract ((pad3 s).size - 2) (pad3 s).size else ⟨#[36]⟩ ++ grouped s
def dollarsOut (s : ByteArray) (cents : Bool) : ByteArray := if isNumber s = true then dollars s cents else ⟨#[]⟩

end Go.Proofs.Ytibchndfndgdeaa.Pl
