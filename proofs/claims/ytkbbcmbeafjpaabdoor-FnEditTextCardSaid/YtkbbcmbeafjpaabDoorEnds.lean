/-
  CONTRACTS: the search of a slice by a predicate (slices.IndexFunc, slices.ContainsFunc) at strings and at integers; endsWith; all.
-/
import Derived.Test.YtkbbcmbeafjpaabDoorSl
import Derived.Test.YtkbbcmbeafjpaabDoorVowel
import Derived.Test.YtkbbcmbeafjpaabDoorPlainSpell
import Derived.Deep.QuietTactic
import Derived.BigQuiet
import Derived.Lib.SmallJoins
namespace Go.Proofs.YtkbbcmbeafjpaabDoor
open Go.RowKit

/-- the cells of a list of strings -/
def strs (l : List ByteArray) : List Value := l.map Value.string
theorem strs_length (l : List ByteArray) : (strs l).length = l.length := by simp [strs]
theorem strs_at (l : List ByteArray) (k : Nat) (h : k < l.length) : (strs l)[k]? = some (.string l[k]) := by
  simp [strs, List.getElem?_map, List.getElem?_eq_getElem h]

theorem any_take_hit {α : Type} (p : α → Bool) (l : List α) (k : Nat) (h : k < l.length) (y : α) (hy : l[k] = y) (hp : p y = true) : l.any p = true := by
  subst hy
  exact List.any_eq_true.2 ⟨_, List.getElem_mem h, hp⟩
theorem any_take_next {α : Type} (p : α → Bool) (l : List α) (k : Nat) (h : k < l.length) (y : α) (hy : l[k] = y) (hp : p y = false) (ha : (l.take k).any p = false) : (l.take (k + 1)).any p = false := by
  subst hy
  rw [List.take_add_one, List.getElem?_eq_getElem h, List.any_append, ha]
  simp [hp]
theorem any_take_all {α : Type} (p : α → Bool) (l : List α) (k : Nat) (h : k = l.length) (ha : (l.take k).any p = false) : l.any p = false := by
  subst h
  rwa [List.take_of_length_le (Nat.le_refl _)] at ha

end Go.Proofs.YtkbbcmbeafjpaabDoor
