/-
  PLAIN: how two words are joined, with no program in sight.
-/
import Derived.Test.YtibchndfndgdeaaPlainSpell
namespace Go.Proofs.Ytibchndfndgdeaa
namespace Pl

def join (s t : ByteArray) : ByteArray :=
  if rule s t = 1 then s.extract 0 (s.size - 1) ++ ⟨#[105, 101, 115]⟩
  else if rule s t = 2 then s ++ ⟨#[101, 115]⟩
  else if rule s t = 3 then s.extract 0 (s.size - 2) ++ ⟨#[121, 105, 110, 103]⟩
  else if rule s t = 4 then s.extract 0 (s.size - 1) ++ ⟨#[105]⟩ ++ t
  else if rule s t = 5 then s.extract 0 (s.size - 1) ++ t
  else if rule s t = 6 then s ++ s.extract (s.size - 1) s.size ++ t
  else s ++ t
theorem join0 {s t : ByteArray} (h : rule s t = 0) : join s t = s ++ t := by simp [join, h]
theorem join1 {s t : ByteArray} (h : rule s t = 1) : join s t = s.extract 0 (s.size - 1) ++ ⟨#[105, 101, 115]⟩ := by simp [join, h]
theorem join2 {s t : ByteArray} (h : rule s t = 2) : join s t = s ++ ⟨#[101, 115]⟩ := by simp [join, h]
theorem join3 {s t : ByteArray} (h : rule s t = 3) : join s t = s.extract 0 (s.size - 2) ++ ⟨#[121, 105, 110, 103]⟩ := by simp [join, h]
theorem join4 {s t : ByteArray} (h : rule s t = 4) : join s t = s.extract 0 (s.size - 1) ++ ⟨#[105]⟩ ++ t := by simp [join, h]
theorem join5 {s t : ByteArray} (h : rule s t = 5) : join s t = s.extract 0 (s.size - 1) ++ t := by simp [join, h]
theorem join6 {s t : ByteArray} (h : rule s t = 6) : join s t = s ++ s.extract (s.size - 1) s.size ++ t := by simp [join, h]
theorem rule_cases (s t : ByteArray) : rule s t = 0 ∨ rule s t = 1 ∨ rule s t = 2 ∨ rule s t = 3 ∨ rule s t = 4 ∨ rule s t = 5 ∨ rule s t = 6 := by
  unfold rule
  repeat' split
  all_goals simp
theorem rule3_size {s t : ByteArray} (h : rule s t = 3) : 2 ≤ s.size := by
  have h3 : t3 s t = true := by
    unfold rule at h
    repeat' split at h
    all_goals first | omega | assumption
  unfold t3 endsAny at h3
  simp only [Bool.and_eq_true, List.any_cons, List.any_nil, Bool.or_false] at h3
  have h4 := h3.2
  rw [endsB_iff] at h4
  simp only [Bool.and_eq_true, decide_eq_true_iff] at h4
  exact h4.1
def joinOk (s t : ByteArray) : Bool := isWord s && isWord t && decide ((join s t).size ≤ 24)
def joinOut (s t : ByteArray) : ByteArray := if joinOk s t = true then join s t else ⟨#[]⟩
theorem join_yes {s t x : ByteArray} (h1 : isWord s = true) (h2 : isWord t = true) (hj : join s t = x) (hz : x.size ≤ 24) : joinOut s t = x ∧ joinOk s t = true := by
  have h : joinOk s t = true := by simp [joinOk, h1, h2, hj, hz]
  exact ⟨by simp [joinOut, h, hj], h⟩
theorem join_no {s t x : ByteArray} (hj : join s t = x) (hz : ¬ x.size ≤ 24) : joinOut s t = ⟨#[]⟩ ∧ joinOk s t = false := by
  have h : joinOk s t = false := by simp only [joinOk, hj, decide_eq_false hz, Bool.and_false]
  exact ⟨by simp [joinOut, h], h⟩
theorem join_bad {s t : ByteArray} (h : (isWord s && isWord t) = false) : joinOut s t = ⟨#[]⟩ ∧ joinOk s t = false := by
  have h : joinOk s t = false := by simp only [joinOk, h, Bool.false_and]
  exact ⟨by simp [joinOut, h], h⟩

end Pl
end Go.Proofs.Ytibchndfndgdeaa
