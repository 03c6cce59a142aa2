/-
  PLAIN: an outline looked up in a stack of layers.
-/
import Derived.Test.YtdidgaibgkdjoaaGreatDoorBasA
namespace Go.Proofs.YtdidgaibgkdjoaaGreatDoor
open Go.RowKit

/-- the layer is on and has the outline -/
def layHit (o : List Int) (q : Lay) : Bool := q.2 && Pl.hasD q.1 o
def stFrom (o : List Int) : Nat → List Lay → ByteArray × Int × Bool
  | _, [] => (⟨#[]⟩, 0, false)
  | k, q :: r => if layHit o q = true then (Pl.textD q.1 o, (k : Int), true) else stFrom o (k + 1) r
def stI (o : List Int) : Nat → List Lay → Int
  | _, [] => -1
  | k, q :: r => if layHit o q = true then (k : Int) else stI o (k + 1) r
theorem st_none (o : List Int) (k : Nat) (S : List Lay) (h : S.length ≤ k) : stFrom o k (S.drop k) = (⟨#[]⟩, 0, false) ∧ stI o k (S.drop k) = -1 := by
  rw [List.drop_eq_nil_of_le h]; exact ⟨rfl, rfl⟩
theorem st_hit {o : List Int} {k : Nat} {S : List Lay} (hk : k < S.length) {q : Lay} (hq : S[k] = q) (h : layHit o q = true) : stFrom o k (S.drop k) = (Pl.textD q.1 o, (k : Int), true) ∧ stI o k (S.drop k) = (k : Int) := by
  rw [List.drop_eq_getElem_cons hk, hq]
  unfold stFrom stI
  rw [if_pos h, if_pos h]
  exact ⟨rfl, rfl⟩
theorem st_miss {o : List Int} {k : Nat} {S : List Lay} (hk : k < S.length) {q : Lay} (hq : S[k] = q) (h : layHit o q = false) : stFrom o k (S.drop k) = stFrom o (k + 1) (S.drop (k + 1)) ∧ stI o k (S.drop k) = stI o (k + 1) (S.drop (k + 1)) := by
  rw [List.drop_eq_getElem_cons hk, hq]
  constructor
  · conv => lhs; unfold stFrom
    rw [if_neg (by rw [h]; decide)]
  · conv => lhs; unfold stI
    rw [if_neg (by rw [h]; decide)]
theorem st_cases (o : List Int) : ∀ (n : Nat) (l : List Lay), (stI o n l = -1 ∧ stFrom o n l = (⟨#[]⟩, 0, false)) ∨ ∃ k, ∃ h : k < l.length, stI o n l = ((n + k : Nat) : Int) ∧ stFrom o n l = (Pl.textD (l[k]).1 o, ((n + k : Nat) : Int), true) ∧ layHit o l[k] = true
  | _, [] => .inl ⟨rfl, rfl⟩
  | n, q :: r => by
    by_cases h : layHit o q = true
    · refine .inr ⟨0, by simp, ?_, ?_, h⟩
      · unfold stI; rw [if_pos h]; rfl
      · unfold stFrom; rw [if_pos h]; rfl
    · have e1 : stI o n (q :: r) = stI o (n + 1) r := by conv => lhs; unfold stI
                                                         rw [if_neg h]
      have e2 : stFrom o n (q :: r) = stFrom o (n + 1) r := by conv => lhs; unfold stFrom
                                                               rw [if_neg h]
      rw [e1, e2]
      rcases st_cases o (n + 1) r with h' | ⟨k, hk, h1, h2, h3⟩
      · exact .inl h'
      · exact .inr ⟨k + 1, by simpa using hk, by rw [h1]; omega, by rw [h2, show n + 1 + k = n + (k + 1) by omega]; rfl, h3⟩

end Go.Proofs.YtdidgaibgkdjoaaGreatDoor
