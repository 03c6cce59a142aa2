/-
  CONTRACTS: the laws' own functions over slices of slices of integers: eqIntSS, markIntSS, heldIntSS.
-/
import Derived.Test.YtdidgaibgkdjoaaGreatDoorGrD
namespace Go.Proofs.YtdidgaibgkdjoaaGreatDoor
open Go.RowKit

/-- the first k rows are marked -/
def halfII (k0 : Int) (L : List (List Int)) (k : Nat) : List (List Int) := (marksII k0 L).take k ++ L.drop k
theorem halfII_len (k0 : Int) (L : List (List Int)) (k : Nat) (h : k ≤ L.length) : (halfII k0 L k).length = L.length := by
  unfold halfII; rw [List.length_append, List.length_take, List.length_drop, marksII_len]; omega
theorem halfII_lo (k0 : Int) (L : List (List Int)) (k j : Nat) (hk : k ≤ L.length) (h : j < k) : (halfII k0 L k)[j]'(by rw [halfII_len _ _ _ hk]; omega) = (marksII k0 L)[j]'(by rw [marksII_len]; omega) := by
  unfold halfII
  rw [List.getElem_append_left (by rw [List.length_take, marksII_len]; omega), List.getElem_take]
theorem halfII_hi (k0 : Int) (L : List (List Int)) (k j : Nat) (hk : k ≤ j) (h : j < L.length) : (halfII k0 L k)[j]'(by rw [halfII_len _ _ _ (by omega)]; omega) = L[j] := by
  unfold halfII
  have hl : ((marksII k0 L).take k).length = k := by rw [List.length_take, marksII_len]; omega
  rw [List.getElem_append_right (by rw [hl]; exact hk), List.getElem_drop]
  congr 1
  omega
theorem halfII_next (k0 : Int) (L : List (List Int)) (k : Nat) (h : k < L.length) : ∀ j (hj : j < L.length), j ≠ k → (halfII k0 L (k + 1))[j]'(by rw [halfII_len _ _ _ (by omega)]; exact hj) = (halfII k0 L k)[j]'(by rw [halfII_len _ _ _ (by omega)]; exact hj) := by
  intro j hj hne
  rcases Nat.lt_or_ge j k with h' | h'
  · rw [halfII_lo k0 L (k + 1) j (by omega) (by omega), halfII_lo k0 L k j (by omega) h']
  · rw [halfII_hi k0 L (k + 1) j (by omega) hj, halfII_hi k0 L k j h' hj]
theorem halfII_all (k0 : Int) (L : List (List Int)) : halfII k0 L L.length = marksII k0 L := by
  unfold halfII
  rw [List.drop_eq_nil_of_le (Nat.le_refl _), List.append_nil, List.take_of_length_le (by rw [marksII_len]; exact Nat.le_refl _)]
theorem halfII_zero (k0 : Int) (L : List (List Int)) : halfII k0 L 0 = L := by simp [halfII]

end Go.Proofs.YtdidgaibgkdjoaaGreatDoor
