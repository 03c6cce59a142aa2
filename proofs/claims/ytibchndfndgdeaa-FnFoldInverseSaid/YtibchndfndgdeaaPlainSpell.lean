/-
  PLAIN: the spelling rules, with no program in sight.
-/
import Derived.Test.YtibchndfndgdeaaPlainVow
import Derived.Lib.Strings
namespace Go.Proofs.Ytibchndfndgdeaa
namespace Pl

/-- a text ends with another one -/
def endsB (s e : ByteArray) : Bool := Lib.hasSuffix s.data.toList e.data.toList
def endsAny (s : ByteArray) (l : List ByteArray) : Bool := l.any (endsB s)

def consY (s : ByteArray) : Bool := decide (2 ≤ s.size) && byteAt s (s.size - 1) == 121 && !isVowel (byteAt s (s.size - 2))
def closedB (s : ByteArray) : Bool := decide (3 ≤ s.size) && !isVowel (byteAt s (s.size - 3)) && isVowel (byteAt s (s.size - 2)) && !isVowel (byteAt s (s.size - 1)) && !endsAny s [⟨#[119]⟩, ⟨#[120]⟩, ⟨#[121]⟩]

def t1 (s t : ByteArray) : Bool := t.toList == [115] && consY s
def t2 (s t : ByteArray) : Bool := t.toList == [115] && endsAny s [⟨#[115]⟩, ⟨#[120]⟩, ⟨#[122]⟩, ⟨#[99, 104]⟩, ⟨#[115, 104]⟩]
def t3 (s t : ByteArray) : Bool := t.toList == [105, 110, 103] && endsAny s [⟨#[105, 101]⟩]
def t4 (s t : ByteArray) : Bool := consY s && byteAt t 0 != 105
def t5 (s t : ByteArray) : Bool := decide (2 ≤ s.size) && endsAny s [⟨#[101]⟩] && !endsAny s [⟨#[101, 101]⟩, ⟨#[111, 101]⟩, ⟨#[121, 101]⟩] && isVowel (byteAt t 0)
def t6 (s t : ByteArray) : Bool := vowelGroups s == 1 && closedB s && isVowel (byteAt t 0)
def rule (s t : ByteArray) : Int :=
  if t1 s t = true then 1 else if t2 s t = true then 2 else if t3 s t = true then 3 else if t4 s t = true then 4 else if t5 s t = true then 5 else if t6 s t = true then 6 else 0

theorem rule1 {s t : ByteArray} (h1 : t1 s t = true) : rule s t = 1 := by simp [rule, h1]
theorem rule2 {s t : ByteArray} (h1 : t1 s t = false) (h2 : t2 s t = true) : rule s t = 2 := by simp [rule, h1, h2]
theorem rule3 {s t : ByteArray} (h1 : t1 s t = false) (h2 : t2 s t = false) (h3 : t3 s t = true) : rule s t = 3 := by simp [rule, h1, h2, h3]
theorem rule4 {s t : ByteArray} (h1 : t1 s t = false) (h2 : t2 s t = false) (h3 : t3 s t = false) (h4 : t4 s t = true) : rule s t = 4 := by simp [rule, h1, h2, h3, h4]
theorem rule5 {s t : ByteArray} (h1 : t1 s t = false) (h2 : t2 s t = false) (h3 : t3 s t = false) (h4 : t4 s t = false) (h5 : t5 s t = true) : rule s t = 5 := by simp [rule, h1, h2, h3, h4, h5]
theorem rule6 {s t : ByteArray} (h1 : t1 s t = false) (h2 : t2 s t = false) (h3 : t3 s t = false) (h4 : t4 s t = false) (h5 : t5 s t = false) (h6 : t6 s t = true) : rule s t = 6 := by simp [rule, h1, h2, h3, h4, h5, h6]
theorem rule0 {s t : ByteArray} (h1 : t1 s t = false) (h2 : t2 s t = false) (h3 : t3 s t = false) (h4 : t4 s t = false) (h5 : t5 s t = false) (h6 : t6 s t = false) : rule s t = 0 := by simp [rule, h1, h2, h3, h4, h5, h6]

theorem endsB_iff (s e : ByteArray) : endsB s e = (decide (e.size ≤ s.size) && ((s.extract (s.size - e.size) s.size).toList == e.toList)) := (Lib.hasSuffix_raw s e).symm

theorem suffix_one (l : List UInt8) (x c : UInt8) : Lib.hasSuffix (l ++ [x]) [c] = (x == c) := by
  unfold Lib.hasSuffix
  simp only [List.isSuffixOf, List.reverse_append, List.reverse_cons, List.reverse_nil, List.nil_append, List.cons_append, List.isPrefixOf, Bool.and_true]
  exact Bool.eq_iff_iff.2 (by simp only [beq_iff_eq]; exact eq_comm)
theorem endsB_one (s : ByteArray) (c : UInt8) (h : 1 ≤ s.size) : endsB s ⟨#[c]⟩ = (byteAt s (s.size - 1) == (c.toNat : Int)) := by
  have hl : s.data.toList.length = s.size := Array.length_toList
  have hne : s.data.toList ≠ [] := by intro h0; rw [h0] at hl; simp at hl; omega
  have e1 := List.dropLast_concat_getLast hne
  have e2 : byteAt s (s.size - 1) = ((s.data.toList.getLast hne).toNat : Int) := by
    unfold byteAt
    rw [← hl, List.getD_eq_getElem?_getD, List.getLast_eq_getElem, List.getElem?_eq_getElem (by omega)]
    rfl
  rw [e2]
  show Lib.hasSuffix s.data.toList [c] = _
  conv => lhs; rw [← e1]
  rw [suffix_one]
  apply Bool.eq_iff_iff.2
  simp only [beq_iff_eq]
  constructor
  · intro hx; rw [hx]
  · intro hx; exact UInt8.toNat_inj.1 (by omega)
theorem doubles_eq (s : ByteArray) : (vowelGroups s == 1 && closedB s) = (decide (3 ≤ s.size) && (vowelGroups s == 1) && !isVowel (byteAt s (s.size - 3)) && isVowel (byteAt s (s.size - 2)) && !isVowel (byteAt s (s.size - 1)) && (byteAt s (s.size - 1) != 119) && (byteAt s (s.size - 1) != 120) && (byteAt s (s.size - 1) != 121)) := by
  unfold closedB endsAny
  by_cases h : 3 ≤ s.size
  · have a1 := endsB_one s 119 (by omega)
    have a2 := endsB_one s 120 (by omega)
    have a3 := endsB_one s 121 (by omega)
    simp only [List.any_cons, List.any_nil, a1, a2, a3, Bool.or_false]
    have b1 : ((119 : UInt8).toNat : Int) = 119 := rfl
    have b2 : ((120 : UInt8).toNat : Int) = 120 := rfl
    have b3 : ((121 : UInt8).toNat : Int) = 121 := rfl
    rw [b1, b2, b3]
    simp only [bne, Bool.not_or]
    cases decide (3 ≤ s.size) <;> cases (vowelGroups s == 1) <;> simp [Bool.and_assoc]
  · simp [h]

def ruleOut (s t : ByteArray) : Int := if (isWord s && isWord t) = true then rule s t else 0
def ruleOk (s t : ByteArray) : Bool := isWord s && isWord t
theorem isWord_size {s : ByteArray} (h : isWord s = true) : 1 ≤ s.size ∧ s.size ≤ 24 := by
  simp [isWord, inB] at h; omega

end Pl
end Go.Proofs.Ytibchndfndgdeaa
