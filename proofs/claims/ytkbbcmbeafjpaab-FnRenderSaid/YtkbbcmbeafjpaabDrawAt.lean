/-
  CONTRACTS: vAt, a byte of a law's code; and a row of atoms in two parts.
-/
import Derived.Test.YtkbbcmbeafjpaabDrawApply
import Derived.Test.YtkbbcmbeafjpaabPlainForm
namespace Go.Proofs.Ytkbbcmbeafjpaab
open Go.RowKit

theorem folds_take (l : List (Int × ByteArray)) : ∀ k, folds (l.take k) = (folds l).take (k * 2) := by
  induction l with
  | nil => intro k; simp [folds]
  | cons p r ih =>
    intro k
    cases k with
    | zero => simp [folds]
    | succ k => rw [show (k + 1) * 2 = k * 2 + 1 + 1 by omega]; simp [folds, ih k]
theorem folds_drop (l : List (Int × ByteArray)) : ∀ k, folds (l.drop k) = (folds l).drop (k * 2) := by
  induction l with
  | nil => intro k; simp [folds]
  | cons p r ih =>
    intro k
    cases k with
    | zero => simp [folds]
    | succ k => rw [show (k + 1) * 2 = k * 2 + 1 + 1 by omega]; simp [folds, ih k]

theorem rows_front {w : World} {a : Option Addr} {cap : Nat} {la : List (Int × ByteArray)} (h : Rows w (.slice a la.length cap) la.length 2 (folds la)) (k : Nat) (hk2 : k ≤ la.length) :
    Rows w (.slice a k cap) (la.take k).length 2 (folds (la.take k)) := by
  obtain ⟨a', cap', e, h2, h3, h4, h5, h6⟩ := h
  injection e with e1 _ e2
  subst e1; subst e2
  have hl : (la.take k).length = k := by rw [List.length_take]; omega
  refine ⟨a, cap, by rw [hl], by omega, h3, folds_length _, fun hn => ⟨by have := (h5 hn).1; omega, (h5 hn).2⟩, ?_⟩
  rw [folds_take]
  exact fun j u hj => h6 j u (by
    rw [List.getElem?_take] at hj
    split at hj
    · exact hj
    · cases hj)
theorem rows_back {w : World} {b off : Nat} {cap : Nat} {la : List (Int × ByteArray)} (h : Rows w (.slice (some ⟨b, off, none⟩) la.length cap) la.length 2 (folds la)) (k : Nat) (hk : k ≤ la.length) :
    Rows w (.slice (some ⟨b, off + k * 2, none⟩) (la.length - k) (cap - k)) (la.drop k).length 2 (folds (la.drop k)) := by
  obtain ⟨a', cap', e, h2, h3, h4, h5, h6⟩ := h
  injection e with e1 _ e2
  subst e1; subst e2
  have hl : (la.drop k).length = la.length - k := by rw [List.length_drop]
  refine ⟨some ⟨b, off + k * 2, none⟩, cap - k, by rw [hl], by omega, by omega, folds_length _, (fun h => nomatch h), fun j u hj => ?_⟩
  rw [folds_drop, List.getElem?_drop] at hj
  obtain ⟨b', off', e1, e2⟩ := h6 _ _ hj
  cases e1
  exact ⟨_, _, rfl, by rw [Nat.add_assoc]; exact e2⟩
theorem rows_slice {w : World} {v : Value} {la : List (Int × ByteArray)} (h : Rows w v la.length 2 (folds la)) (hn : 0 < la.length) :
    ∃ b off cap, v = .slice (some ⟨b, off, none⟩) la.length cap ∧ la.length ≤ cap ∧ cap ≤ maxLen := by
  obtain ⟨a', cap', e, h2, h3, h4, h5, h6⟩ := h
  obtain ⟨b, off, e1, _⟩ := h6 0 _ (by have := (folds_at la 0 hn).1; simpa using this)
  exact ⟨b, off, cap', by rw [e, e1], h2, h3⟩

end Go.Proofs.Ytkbbcmbeafjpaab
