/-
  PLAIN LAWS: Lean functions on lists of bytes and numbers that say what the program's and the reference's functions compute. No program is in sight here.
-/
import Derived.WalkKit
namespace Go.Proofs.Ytibchndfndgdeaa.Pl
open Go.RowKit

/-- n lies between two bounds -/
def inB (n a b : Int) : Bool := decide (a ≤ n) && decide (n ≤ b)

/-- all bytes lie between two bounds -/
def allIn (a b : Nat) (l : List UInt8) : Bool := l.all fun c => decide (a ≤ c.toNat) && decide (c.toNat ≤ b)

theorem allIn_take_succ (a b : Nat) (s : ByteArray) (k : Nat) (h : k < s.size) :
    allIn a b (s.data.toList.take (k + 1)) = (allIn a b (s.data.toList.take k) && (decide (a ≤ s[k].toNat) && decide (s[k].toNat ≤ b))) := by
  have e : s.data.toList.take (k + 1) = s.data.toList.take k ++ [s[k]] := by
    rw [List.take_succ_eq_append_getElem (by simpa using h)]; rfl
  rw [e]; simp [allIn]

theorem allIn_of_bad (a b : Nat) (s : ByteArray) (k : Nat) (h : k < s.size) (hb : s[k].toNat < a ∨ b < s[k].toNat) : allIn a b s.data.toList = false := by
  rw [allIn, List.all_eq_false]
  refine ⟨s[k], ?_, ?_⟩
  · have : s[k] = s.data.toList[k]'(by simpa using h) := rfl
    rw [this]; exact List.getElem_mem _
  · simp; omega

theorem allIn_take_ok (a b : Nat) (s : ByteArray) (k : Nat) (h : k < s.size) (hp : allIn a b (s.data.toList.take k) = true) (h1 : a ≤ s[k].toNat) (h2 : s[k].toNat ≤ b) :
    allIn a b (s.data.toList.take (k + 1)) = true := by
  rw [allIn_take_succ a b s k h, hp]; simp [h1, h2]

theorem allIn_take_all (a b : Nat) (s : ByteArray) (k : Nat) (h : s.size ≤ k) (hp : allIn a b (s.data.toList.take k) = true) : allIn a b s.data.toList = true := by
  rwa [List.take_of_length_le (by simpa using h)] at hp

def isWord (s : ByteArray) : Bool := allIn 97 122 s.data.toList && inB s.size 1 24

def isScreen (s : ByteArray) : Bool := decide (s.size ≤ 2000) && allIn 32 126 s.data.toList
def validEdit (b : Int) (t : ByteArray) : Bool := inB b 0 2000 && isScreen t
def validState (t : ByteArray) (c k : Int) : Bool := decide (t.size ≤ 2000) && allIn 32 126 t.data.toList && inB c 0 2 && inB k 0 t.size

def lastWord (t : ByteArray) (c k : Int) : ByteArray := if validState t c k = true then t.extract k.toNat t.size else ⟨#[]⟩
theorem validState_k {t : ByteArray} {c k : Int} (h : validState t c k = true) : 0 ≤ k ∧ k ≤ t.size := by simp [validState, inB] at h; omega
theorem validState_size {t : ByteArray} {c k : Int} (h : validState t c k = true) : t.size ≤ 2000 := by simp [validState] at h; exact h.1.1.1

/-- a new state over a text -/
def newOk (t : ByteArray) : Bool := validState t 0 t.size
def newText (t : ByteArray) : ByteArray := if newOk t = true then t else ⟨#[]⟩
def newJoined (t : ByteArray) : Bool := newOk t && t.toList.isEmpty
def newWord (t : ByteArray) : Int := if newOk t = true then t.size else 0

end Go.Proofs.Ytibchndfndgdeaa.Pl
