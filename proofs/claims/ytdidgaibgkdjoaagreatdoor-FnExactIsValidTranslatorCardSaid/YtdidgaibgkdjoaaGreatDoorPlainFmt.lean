/-
  PLAIN: the notation of a stroke.
-/
import Derived.Test.YtdidgaibgkdjoaaGreatDoorBasA
namespace Go.Proofs.YtdidgaibgkdjoaaGreatDoor.Pl
open Go.RowKit

/-- the labels of the keys -/
def labs : List UInt8 := [35, 83, 84, 75, 80, 87, 72, 82, 65, 79, 42, 69, 85, 70, 82, 80, 66, 76, 71, 84, 83, 68, 90]
def lab (k : Nat) : UInt8 := labs.getD k 0
/-- the pressed keys below k -/
def keysTo' (n k : Nat) : List Nat := (List.range k).filter n.testBit
theorem keysTo_next (n k : Nat) : keysTo' n (k + 1) = keysTo' n k ++ (if n.testBit k = true then [k] else []) := by
  unfold keysTo'
  rw [List.range_succ, List.filter_append]
  congr 1
  cases h : n.testBit k <;> simp [h]
theorem keysTo_len (n k : Nat) : (keysTo' n k).length ≤ k := by
  unfold keysTo'
  exact Nat.le_trans (List.length_filter_le _ _) (by rw [List.length_range]; exact Nat.le_refl _)
theorem keysTo_lt {n k j : Nat} (h : j ∈ keysTo' n k) : j < k ∧ n.testBit j = true := by
  unfold keysTo' at h
  rw [List.mem_filter, List.mem_range] at h
  exact h
def isMid (k : Nat) : Bool := decide (8 ≤ k) && decide (k ≤ 12)
/-- the program's way: with a hyphen ahead of the first key of the right bank unless a middle key stands -/
def fmtK : Bool → List Nat → List UInt8
  | _, [] => []
  | mid, k :: r => if 13 ≤ k ∧ mid = false then 45 :: lab k :: fmtK true r else lab k :: fmtK mid r
/-- the reference's way -/
def fmtS : Bool → Bool → List Nat → List UInt8
  | _, _, [] => []
  | m, h, k :: r => if 13 ≤ k ∧ (m || isMid k) = false ∧ h = false then 45 :: lab k :: fmtS (m || isMid k) true r else lab k :: fmtS (m || isMid k) h r
theorem fmt_same : ∀ (l : List Nat) (m h : Bool), l.Pairwise (· < ·) → fmtS m h l = fmtK (m || h || l.any isMid) l
  | [], _, _, _ => rfl
  | k :: r, m, h, hp => by
    rw [List.pairwise_cons] at hp
    by_cases h13 : 13 ≤ k
    · have hk : isMid k = false := by unfold isMid; rw [decide_eq_false (show ¬ k ≤ 12 by omega), Bool.and_false]
      have hr : r.any isMid = false := by
        rw [List.any_eq_false]
        intro x hx
        have := hp.1 x hx
        unfold isMid
        rw [decide_eq_false (show ¬ x ≤ 12 by omega), Bool.and_false]
        decide
      unfold fmtS fmtK
      rw [List.any_cons, hk, hr, Bool.or_false, Bool.or_false]
      have i1 := fmt_same r m true hp.2
      have i2 := fmt_same r m h hp.2
      rw [hr] at i1 i2
      cases m <;> cases h <;> simp_all
    · unfold fmtS fmtK
      rw [if_neg (by omega), if_neg (by omega), List.any_cons, fmt_same r (m || isMid k) h hp.2]
      congr 2
      cases m <;> cases h <;> cases isMid k <;> simp
theorem keys_sorted (n k : Nat) : (keysTo' n k).Pairwise (· < ·) := by
  unfold keysTo'
  exact List.Pairwise.filter _ List.pairwise_lt_range
/-- the keys of the middle bank, read off the number -/
theorem mid_bits (n : Nat) : (((n / 256) &&& 31 != 0) : Bool) = (keysTo' n 23).any isMid := by
  rw [Bool.eq_iff_iff, List.any_eq_true, bne_iff_ne]
  constructor
  · intro h
    false_or_by_contra
    rename_i h2
    apply h
    apply Nat.eq_of_testBit_eq
    intro i
    rw [Nat.testBit_and, Nat.zero_testBit, show (31 : Nat) = 2 ^ 5 - 1 from rfl, Nat.testBit_two_pow_sub_one, show n / 256 = n / 2 ^ 8 from rfl, Nat.testBit_div_two_pow]
    cases hb : n.testBit (i + 8) with
    | false => rfl
    | true =>
      rw [Bool.true_and, decide_eq_false_iff_not]
      intro hi
      apply h2
      refine ⟨i + 8, ?_, ?_⟩
      · unfold keysTo'; rw [List.mem_filter, List.mem_range]; exact ⟨by omega, hb⟩
      · unfold isMid; rw [decide_eq_true (show 8 ≤ i + 8 by omega), decide_eq_true (show i + 8 ≤ 12 by omega)]; rfl
  · rintro ⟨x, hx, hm⟩ h
    have hb := (keysTo_lt hx).2
    unfold isMid at hm
    rw [Bool.and_eq_true, decide_eq_true_iff, decide_eq_true_iff] at hm
    have := congrArg (fun z => Nat.testBit z (x - 8)) h
    simp only [Nat.zero_testBit] at this
    rw [Nat.testBit_and, show (31 : Nat) = 2 ^ 5 - 1 from rfl, Nat.testBit_two_pow_sub_one, show n / 256 = n / 2 ^ 8 from rfl, Nat.testBit_div_two_pow, show x - 8 + 8 = x by omega, hb, Bool.true_and, decide_eq_true (show x - 8 < 5 by omega)] at this
    exact absurd this (by decide)

def fmtB (n : Nat) : ByteArray := ⟨⟨fmtK ((keysTo' n 23).any isMid) (keysTo' n 23)⟩⟩
theorem fmtK_len : ∀ (l : List Nat) (m : Bool), (fmtK m l).length ≤ l.length + (if m = true then 0 else 1)
  | [], _ => Nat.zero_le _
  | k :: r, m => by
    unfold fmtK
    split
    · rename_i h
      have := fmtK_len r true
      rw [if_pos rfl] at this
      rw [h.2, if_neg (by decide), List.length_cons, List.length_cons, List.length_cons]
      omega
    · have := fmtK_len r m
      rw [List.length_cons, List.length_cons]
      omega
theorem fmtB_len (n : Nat) : (fmtB n).size ≤ 24 := by
  show (fmtK _ _).length ≤ 24
  have h1 := fmtK_len (keysTo' n 23) ((keysTo' n 23).any isMid)
  have h2 := keysTo_len n 23
  split at h1 <;> omega

end Go.Proofs.YtdidgaibgkdjoaaGreatDoor.Pl
