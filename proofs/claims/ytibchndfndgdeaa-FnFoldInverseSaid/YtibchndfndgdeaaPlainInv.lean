/-
  PLAIN: Unfold undoes FoldInto, FoldInto undoes Unfold, and never do both succeed.
-/
import Derived.Test.YtibchndfndgdeaaPlainFold
namespace Go.Proofs.Ytibchndfndgdeaa
namespace Pl

theorem last_with (l : List Int) (x : Int) : lastI (withLast l x) = x := by
  unfold lastI withLast
  rw [List.length_append]
  simp
theorem with_with (l : List Int) (x y : Int) (h : 1 ≤ l.length) : withLast (withLast l x) y = withLast l y := by
  unfold withLast
  rw [List.length_append, List.length_take, Nat.min_eq_left (by omega)]
  congr 1
  show List.take (l.length - 1 + 1 - 1) _ = _
  rw [Nat.add_sub_cancel, List.take_append_of_le_length (by rw [List.length_take]; omega), List.take_take, Nat.min_self]
theorem with_last (l : List Int) (h : 1 ≤ l.length) : withLast l (lastI l) = l := by
  unfold withLast lastI
  rw [List.getD_eq_getElem?_getD, List.getElem?_eq_getElem (by omega), Option.getD_some]
  have := List.take_append_getElem (l := l) (i := l.length - 1) (by omega)
  rw [this, List.take_of_length_le (by omega)]
theorem outline_with (l : List Int) (x : Int) (h : outlineB l = true) (hx : strokeB x = true) : outlineB (withLast l x) = true := by
  have hl := outline_len h
  have h2 := withLast_length l x hl.1
  simp only [outlineB, Bool.and_eq_true] at h ⊢
  refine ⟨by rw [h2]; exact h.1, ?_⟩
  rw [List.all_eq_true] at h ⊢
  intro y hy
  unfold withLast at hy
  rw [List.mem_append] at hy
  rcases hy with hy | hy
  · exact h.2 y (List.mem_of_mem_take hy)
  · simp at hy; subst hy; exact hx
theorem stroke_of (n : Nat) (h1 : 1 ≤ n) (h2 : n < 8388608) : strokeB (n : Int) = true := by
  simp only [strokeB, inB, Bool.and_eq_true, decide_eq_true_iff]; omega
theorem add_key (n j : Nat) (h : n < 8388608) (hj : j ≤ 22) (hb : n.testBit j = false) : n + 2 ^ j < 8388608 ∧ (n + 2 ^ j).testBit j = true := by
  have hk : 2 ^ j ≤ 2 ^ 22 := Nat.pow_le_pow_right (by omega) hj
  have e := or_bit n j h hj hb
  rw [bits_or _ _ (by omega) (by omega)] at e
  have e2 : n ||| 2 ^ j = n + 2 ^ j := by omega
  refine ⟨?_, by rw [Nat.add_comm, Nat.testBit_two_pow_add_eq, hb]; rfl⟩
  rw [← e2]
  exact Nat.or_lt_two_pow (n := 23) h (by omega)
theorem sub_key (n j : Nat) (hb : n.testBit j = true) (hn : n ≠ 2 ^ j) : 2 ^ j ≤ n ∧ 1 ≤ n - 2 ^ j ∧ (n - 2 ^ j).testBit j = false := by
  have hge : 2 ^ j ≤ n := Nat.ge_two_pow_of_testBit hb
  refine ⟨hge, by omega, ?_⟩
  have e : n = 2 ^ j + (n - 2 ^ j) := by omega
  rw [e, Nat.testBit_two_pow_add_eq] at hb
  simpa using hb
theorem pow_int (j : Nat) : (2 : Int) ^ ((j : Int).toNat) = ((2 ^ j : Nat) : Int) := by simp

theorem inv_never (l : List Int) (k : Int) (t : ByteArray) : (intoOk l k t && unfoldOk l k t) = false := by
  unfold intoOk unfoldOk unOk
  cases keyOn (lastI l) k <;> simp
theorem inv_into (l : List Int) (k : Int) (t : ByteArray) (h : intoOk l k t = true) : unfoldOk (intoOut l k t) k t = true ∧ unfoldOut (intoOut l k t) k t = l := by
  have h0 := h
  simp only [intoOk, Bool.and_eq_true] at h
  obtain ⟨⟨h1, h2⟩, h3⟩ := h
  obtain ⟨n, hn, n1, n2⟩ := stroke_nat (outline_last h1)
  obtain ⟨j, rfl, j1, j2⟩ := fold_key h2
  have h4 : n.testBit j = false := by rw [hn] at h3; simpa [keyOn] using h3
  obtain ⟨a1, a2⟩ := add_key n j n2 j2 h4
  have hp : 1 ≤ 2 ^ j := Nat.one_le_two_pow
  have hl := (outline_len h1).1
  have e1 : intoOut l (j : Int) t = withLast l ((n + 2 ^ j : Nat) : Int) := by
    unfold intoOut
    rw [if_pos h0, hn, pow_int]; rfl
  have g1 := outline_with l _ h1 (stroke_of (n + 2 ^ j) (by omega) a1)
  have g3 : unOk (withLast l ((n + 2 ^ j : Nat) : Int)) (j : Int) = true := by
    unfold unOk
    rw [last_with, pow_int]
    simp only [keyOn, Bool.and_eq_true, Bool.not_eq_true', beq_eq_false_iff_ne, ne_eq]
    exact ⟨a2, by omega⟩
  have g4 : unfoldOk (withLast l ((n + 2 ^ j : Nat) : Int)) (j : Int) t = true := by
    unfold unfoldOk
    rw [g1, h2, g3]; rfl
  rw [e1]
  refine ⟨g4, ?_⟩
  unfold unfoldOut
  rw [if_pos g4, last_with, pow_int, with_with _ _ _ hl, show ((n + 2 ^ j : Nat) : Int) - ((2 ^ j : Nat) : Int) = (n : Int) by omega, ← hn, with_last _ hl]
theorem inv_un (l : List Int) (k : Int) (t : ByteArray) (h : unfoldOk l k t = true) : intoOk (unfoldOut l k t) k t = true ∧ intoOut (unfoldOut l k t) k t = l := by
  have h0 := h
  simp only [unfoldOk, Bool.and_eq_true] at h
  obtain ⟨⟨h1, h2⟩, h3⟩ := h
  obtain ⟨n, hn, n1, n2⟩ := stroke_nat (outline_last h1)
  obtain ⟨j, rfl, j1, j2⟩ := fold_key h2
  unfold unOk at h3
  rw [hn, pow_int] at h3
  simp only [keyOn, Bool.and_eq_true, Bool.not_eq_true', beq_eq_false_iff_ne, ne_eq] at h3
  obtain ⟨a0, a1, a2⟩ := sub_key n j h3.1 (by omega)
  have hl := (outline_len h1).1
  have e1 : unfoldOut l (j : Int) t = withLast l ((n - 2 ^ j : Nat) : Int) := by
    unfold unfoldOut
    rw [if_pos h0, hn, pow_int]
    congr 1
    omega
  have g1 := outline_with l _ h1 (stroke_of (n - 2 ^ j) a1 (Nat.lt_of_le_of_lt (Nat.sub_le _ _) n2))
  have g4 : intoOk (withLast l ((n - 2 ^ j : Nat) : Int)) (j : Int) t = true := by
    unfold intoOk
    rw [g1, h2, last_with]
    simp only [keyOn, Bool.true_and, Bool.not_eq_true']
    exact a2
  rw [e1]
  refine ⟨g4, ?_⟩
  unfold intoOut
  rw [if_pos g4, last_with, pow_int, with_with _ _ _ hl, show ((n - 2 ^ j : Nat) : Int) + ((2 ^ j : Nat) : Int) = (n : Int) by omega, ← hn, with_last _ hl]

end Pl
end Go.Proofs.Ytibchndfndgdeaa
