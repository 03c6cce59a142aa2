/-
  CONTRACTS: the draws of words: plainWord, ending, anyWord, DrawIsWord, DrawVowelGroups, DrawSuffixRule. What is drawn is told by a bound on its size.
-/
import Derived.Test.YtdidgaibgkdjoaaGreatDoorDraw
namespace Go.Proofs.YtdidgaibgkdjoaaGreatDoor
open Go.RowKit

/-- a text of at most hi bytes, made in new memory -/
def MadeS (w : World) (hi : Nat) (e : Ending) (w' : World) : Prop := ∃ s : ByteArray, e = .returned (.string s) ∧ s.size ≤ hi ∧ Below w.heap.size w w'
def MadeSS (w : World) (hi : Nat) (e : Ending) (w' : World) : Prop := ∃ s t : ByteArray, e = .returned (.tuple #[.string s, .string t]) ∧ s.size ≤ hi ∧ t.size ≤ hi ∧ Below w.heap.size w w'
/-- nothing of the old world was written -/
theorem Read.made {v : Value} {m B : Nat} {w w' : World} {o : Obj} (h : Read v m w.heap.size B (w.alloc o) w') : Below w.heap.size w w' :=
  Below.trans ((Below.refl _ _).alloc (Nat.le_refl _) o) (h.below w.heap.size (Nat.le_refl _) (by rw [World.size_alloc]; omega))

end Go.Proofs.YtdidgaibgkdjoaaGreatDoor
