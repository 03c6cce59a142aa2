/-
  PLAIN LAWS: vowels and their runs. No program is in sight here.
-/
import Derived.Test.YtibchndfndgdeaaPlainNum
import Derived.Lib.IndexBytes
namespace Go.Proofs.Ytibchndfndgdeaa.Pl
open Go.RowKit

def isVowel (c : Int) : Bool := c == 97 || c == 101 || c == 105 || c == 111 || c == 117

theorem vowel_index_byte (b : UInt8) : decide (0 ≤ Lib.indexByte [97, 101, 105, 111, 117] b) = (b == 97 || b == 101 || b == 105 || b == 111 || b == 117) := by
  have key : ∀ n, n < 256 → decide (0 ≤ Lib.indexByte [97, 101, 105, 111, 117] (UInt8.ofNat n)) = (UInt8.ofNat n == 97 || UInt8.ofNat n == 101 || UInt8.ofNat n == 105 || UInt8.ofNat n == 111 || UInt8.ofNat n == 117) := by decide +kernel
  have h := key b.toNat b.toNat_lt
  rwa [UInt8.ofNat_toNat] at h
theorem vowel_index (c : Int) (h0 : 0 ≤ c) (h1 : c < 256) : isVowel c = decide (0 ≤ Lib.indexByte [97, 101, 105, 111, 117] c.toNat.toUInt8) := by
  obtain ⟨n, rfl⟩ := Int.eq_ofNat_of_zero_le h0
  have hn : n < 256 := by omega
  have ht : (n.toUInt8).toNat = n := by simp; omega
  rw [Int.toNat_natCast, vowel_index_byte]
  have e : ∀ k : UInt8, (n.toUInt8 == k) = decide ((n : Int) = (k.toNat : Int)) := fun k => by
    rw [Bool.eq_iff_iff, beq_iff_eq, decide_eq_true_iff]
    constructor
    · intro h; rw [← h, ht]
    · intro h; exact UInt8.toNat.inj (by omega)
  simp [isVowel, e, Bool.beq_eq_decide_eq]

/-- does a run of vowels begin at place k? -/
def startsRun (s : ByteArray) (k : Nat) : Bool := isVowel (byteAt s k) && (k == 0 || !isVowel (byteAt s (k - 1)))
def vgTo (s : ByteArray) : Nat → Int
  | 0 => 0
  | k + 1 => vgTo s k + (if startsRun s k = true then 1 else 0)
theorem vgTo_bd (s : ByteArray) (k : Nat) : 0 ≤ vgTo s k ∧ vgTo s k ≤ k := by
  induction k with
  | zero => simp [vgTo]
  | succ k ih => unfold vgTo; split <;> omega
def vowelGroups (s : ByteArray) : Int := vgTo s s.size
def vowelGroupsOut (s : ByteArray) : Int := if isWord s = true then vowelGroups s else 0

end Go.Proofs.Ytibchndfndgdeaa.Pl
