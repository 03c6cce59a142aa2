/-
  PLAIN: folds, with no program in sight.
-/
import Derived.Test.YtibchndfndgdeaaSl
import Derived.Test.YtibchndfndgdeaaPlainBits
namespace Go.Proofs.Ytibchndfndgdeaa
namespace Pl

def outlineB (l : List Int) : Bool := inB l.length 1 6 && l.all strokeB
def foldB (k : Int) (t : ByteArray) : Bool := inB k 13 22 && inB t.size 1 8 && allIn 97 122 t.data.toList
/-- the last stroke -/
def lastI (l : List Int) : Int := l.getD (l.length - 1) 0
/-- is the key of the fold pressed? -/
def keyOn (x k : Int) : Bool := x.toNat.testBit k.toNat
/-- an outline with another last stroke -/
def withLast (l : List Int) (x : Int) : List Int := l.take (l.length - 1) ++ [x]

theorem shr_key (n j : Nat) (h : n < 8388608) : bits .and .i64 ((n : Int) / 2 ^ j) 1 = ((n.testBit j).toNat : Int) := by
  have hd : (n : Int) / 2 ^ j = ((n / 2 ^ j : Nat) : Int) := by
    rw [show ((2 : Int) ^ j) = ((2 ^ j : Nat) : Int) by simp]; omega
  have hl : n / 2 ^ j ≤ n := Nat.div_le_self _ _
  rw [hd, show (1 : Int) = ((1 : Nat) : Int) from rfl, bits_and _ _ (by omega) (by omega), and_one_testBit]
theorem and_bit (n j : Nat) (h : n < 8388608) (hj : j ≤ 22) : bits .and .i64 (n : Int) ((2 ^ j : Nat) : Int) = if n.testBit j = true then ((2 ^ j : Nat) : Int) else 0 := by
  have hk : 2 ^ j ≤ 2 ^ 22 := Nat.pow_le_pow_right (by omega) hj
  rw [bits_and _ _ (by omega) (by omega)]
  have : n &&& 2 ^ j = if n.testBit j = true then 2 ^ j else 0 := by
    apply Nat.eq_of_testBit_eq; intro i
    rw [Nat.testBit_and, Nat.testBit_two_pow]
    by_cases hij : j = i
    · subst hij; cases n.testBit j <;> simp
    · cases n.testBit j <;> simp [hij]
  rw [this]; split <;> rfl
theorem or_bit (n j : Nat) (h : n < 8388608) (hj : j ≤ 22) (hb : n.testBit j = false) : bits .or .i64 (n : Int) ((2 ^ j : Nat) : Int) = (n : Int) + ((2 ^ j : Nat) : Int) := by
  have hk : 2 ^ j ≤ 2 ^ 22 := Nat.pow_le_pow_right (by omega) hj
  rw [bits_or _ _ (by omega) (by omega)]
  have : n ||| 2 ^ j = n + 2 ^ j := by
    have e0 : n &&& 2 ^ j = 0 := by
      apply Nat.eq_of_testBit_eq; intro i
      rw [Nat.testBit_and, Nat.testBit_two_pow]
      by_cases hij : j = i
      · subst hij; simp [hb]
      · simp [hij]
    have e := BitVec.add_eq_or_of_and_eq_zero (BitVec.ofNat 64 n) (BitVec.ofNat 64 (2 ^ j)) (by
      apply BitVec.eq_of_toNat_eq
      rw [BitVec.toNat_and, BitVec.toNat_ofNat, BitVec.toNat_ofNat, Nat.mod_eq_of_lt (by omega), Nat.mod_eq_of_lt (by omega), e0]; rfl)
    have e2 := congrArg BitVec.toNat e
    rw [BitVec.toNat_add, BitVec.toNat_or, BitVec.toNat_ofNat, BitVec.toNat_ofNat, Nat.mod_eq_of_lt (show n < 2 ^ 64 by omega), Nat.mod_eq_of_lt (show 2 ^ j < 2 ^ 64 by omega), Nat.mod_eq_of_lt (by omega)] at e2
    exact e2.symm
  rw [this]; omega

theorem stroke_nat {x : Int} (h : strokeB x = true) : ∃ n : Nat, x = n ∧ 1 ≤ n ∧ n < 8388608 := by
  simp only [strokeB, inB, Bool.and_eq_true, decide_eq_true_iff] at h
  exact ⟨x.toNat, by omega, by omega, by omega⟩
theorem outline_len {l : List Int} (h : outlineB l = true) : 1 ≤ l.length ∧ l.length ≤ 6 := by
  simp only [outlineB, inB, Bool.and_eq_true, decide_eq_true_iff] at h
  omega
theorem outline_last {l : List Int} (h : outlineB l = true) : strokeB (lastI l) = true := by
  have hl := outline_len h
  simp only [outlineB, Bool.and_eq_true] at h
  unfold lastI
  rw [List.getD_eq_getElem?_getD, List.getElem?_eq_getElem (by omega)]
  exact (List.all_eq_true.1 h.2) _ (List.getElem_mem _)
theorem fold_key {k : Int} {t : ByteArray} (h : foldB k t = true) : ∃ j : Nat, k = j ∧ 13 ≤ j ∧ j ≤ 22 := by
  simp only [foldB, inB, Bool.and_eq_true, decide_eq_true_iff] at h
  exact ⟨k.toNat, by omega, by omega, by omega⟩

/-- FoldInto: whether, and what -/
def intoOk (l : List Int) (k : Int) (t : ByteArray) : Bool := outlineB l && foldB k t && !keyOn (lastI l) k
def intoOut (l : List Int) (k : Int) (t : ByteArray) : List Int := if intoOk l k t = true then withLast l (lastI l + 2 ^ k.toNat) else []
/-- Unfold: whether, and what -/
def unOk (l : List Int) (k : Int) : Bool := keyOn (lastI l) k && !(lastI l == 2 ^ k.toNat)
def un (l : List Int) (k : Int) : List Int := if unOk l k = true then withLast l (lastI l - 2 ^ k.toNat) else []
def unfoldOk (l : List Int) (k : Int) (t : ByteArray) : Bool := outlineB l && foldB k t && unOk l k
def unfoldOut (l : List Int) (k : Int) (t : ByteArray) : List Int := if unfoldOk l k t = true then withLast l (lastI l - 2 ^ k.toNat) else []
theorem withLast_length (l : List Int) (x : Int) (h : 1 ≤ l.length) : (withLast l x).length = l.length := by
  simp [withLast]; omega

end Pl
end Go.Proofs.Ytibchndfndgdeaa
