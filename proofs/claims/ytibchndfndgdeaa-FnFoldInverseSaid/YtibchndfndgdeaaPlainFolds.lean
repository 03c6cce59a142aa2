/-
  PLAIN: lists of folds, with no program in sight.
-/
import Derived.Test.YtibchndfndgdeaaPlainFold
namespace Go.Proofs.Ytibchndfndgdeaa
namespace Pl

/-- the fold at k is valid, and its key is not that of an earlier one -/
def foldAt (l : List (Int × ByteArray)) (k : Nat) : Bool :=
  match l[k]? with
  | some p => foldB p.1 p.2 && !((l.take k).any fun q => q.1 == p.1)
  | none => false
def goodTo (l : List (Int × ByteArray)) : Nat → Bool
  | 0 => true
  | k + 1 => goodTo l k && foldAt l k
def foldsOk (l : List (Int × ByteArray)) : Bool := decide (l.length ≤ 6) && goodTo l l.length
theorem goodTo_no {l : List (Int × ByteArray)} {k : Nat} (h : foldAt l k = false) : ∀ n, k < n → goodTo l n = false
  | 0, hn => absurd hn (Nat.not_lt_zero _)
  | n + 1, hn => by
    unfold goodTo
    by_cases hk : k = n
    · rw [← hk, h, Bool.and_false]
    · rw [goodTo_no h n (by omega), Bool.false_and]
theorem foldsOk_no {l : List (Int × ByteArray)} {k : Nat} (hk : k < l.length) (h : foldAt l k = false) : foldsOk l = false := by
  unfold foldsOk; rw [goodTo_no h _ hk, Bool.and_false]
theorem foldAt_eq {l : List (Int × ByteArray)} {k : Nat} (hk : k < l.length) {p : Int × ByteArray} (hp : l[k] = p) : foldAt l k = (foldB p.1 p.2 && !((l.take k).any fun q => q.1 == p.1)) := by
  subst hp
  unfold foldAt
  rw [List.getElem?_eq_getElem hk]
/-- the keys so far, as bits -/
def keysTo (l : List (Int × ByteArray)) : Nat → Nat
  | 0 => 0
  | k + 1 => keysTo l k ||| 2 ^ ((l.getD k (0, ⟨#[]⟩)).1).toNat
theorem keysTo_bit {l : List (Int × ByteArray)} : ∀ (k : Nat), k ≤ l.length → goodTo l k = true → keysTo l k < 8388608 ∧ ∀ j : Nat, (keysTo l k).testBit j = (l.take k).any fun q => q.1 == (j : Int)
  | 0, _, _ => ⟨by simp [keysTo], fun j => by simp [keysTo]⟩
  | k + 1, hk, hg => by
    unfold goodTo at hg
    simp only [Bool.and_eq_true] at hg
    obtain ⟨h1, h2⟩ := keysTo_bit k (by omega) hg.1
    have hlt : k < l.length := by omega
    have hf := hg.2
    rw [foldAt_eq hlt rfl] at hf
    simp only [Bool.and_eq_true] at hf
    obtain ⟨i, hi, hi1, hi2⟩ := fold_key hf.1
    have hget : (l.getD k (0, ⟨#[]⟩)).1.toNat = i := by
      rw [List.getD_eq_getElem?_getD, List.getElem?_eq_getElem hlt]
      show (l[k]).1.toNat = i
      rw [hi]; rfl
    refine ⟨?_, fun j => ?_⟩
    · unfold keysTo
      rw [hget]
      exact Nat.or_lt_two_pow (n := 23) h1 (Nat.pow_lt_pow_right (by omega) (by omega))
    · unfold keysTo
      rw [hget, Nat.testBit_or, h2 j, Nat.testBit_two_pow, List.take_add_one, List.getElem?_eq_getElem hlt, List.any_append]
      congr 1
      simp only [Option.toList_some, List.any_cons, List.any_nil, Bool.or_false]
      rw [hi]
      apply Bool.eq_iff_iff.2
      simp only [decide_eq_true_eq, beq_iff_eq]
      omega

end Pl
end Go.Proofs.Ytibchndfndgdeaa
