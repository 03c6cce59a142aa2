/-
  CONTRACTS: two outlines held side by side, of the library and of the reference.
-/
import Derived.Test.YtfjdbchffhbidaaDoorCmp
namespace Go.Proofs.YtfjdbchffhbidaaDoor
open Go.RowKit

theorem same_not {a b : List Int} {k : Nat} (ha : k < a.length) (hb : k < b.length) (h : a[k] ≠ b[k]) : (a == b) = false := by
  rw [beq_eq_false_iff_ne]
  intro he
  subst he
  exact h rfl
theorem same_lens {a b : List Int} (h : a.length ≠ b.length) : (a == b) = false := by
  rw [beq_eq_false_iff_ne]
  intro he
  subst he
  exact h rfl
theorem same_done {a b : List Int} (h : Pl.sameTo a b a.length) (hl : a.length = b.length) : (a == b) = true := by
  obtain ⟨_, _, h3⟩ := h
  rw [List.take_length, hl, List.take_length] at h3
  rw [beq_iff_eq]
  exact h3

set_option maxHeartbeats 1600000 in
theorem l1Same_any (v v' : Value) (a b : List Int) (w : World) (hr : Rows w v a.length 1 (ints a)) (hr' : Rows w v' b.length 1 (ints b)) (ha : a.length ≤ 1048576) :
    Calls Tryd.prog 124 #[v, v'] w fun e w' => e = .returned (.bool (a == b)) ∧ Drew w w' := by
  obtain ⟨a1, cap, rfl, _, _, _, _, hcells⟩ := hr
  obtain ⟨a2, cap', rfl, _, _, _, _, hcells'⟩ := hr'
  have HC := Lib.hid hcells; have HC' := Lib.hid hcells'
  clear hcells hcells'
  by_cases hn : a.length = b.length
  · rw [← hn]
    have HN := Lib.hid hn
    clear hn
    go_enter Tryd.func124, Tryd.ntmps124
    go_wp2
    go_loopw [5] (fun i wr => ∃ k : Nat, k ≤ a.length ∧ i = .int .i64 k ∧ Hid (Pl.sameTo a b k) ∧ ∃ n, wr = w.drewN n) (fun i _ => a.length - (intOf i).toNat)
    case atStart => exact ⟨0, Nat.zero_le _, rfl, Lib.hid (Pl.same_zero a b), 0, rfl⟩
    case round =>
      obtain ⟨k, hk, rfl, HS, n, rfl⟩ := hrel
      by_cases hlt : k < a.length
      · have hlb : k < b.length := by have := HN.out; omega
        obtain ⟨b1, off, rfl, c1⟩ := HC.out k _ (ints_at a k hlt)
        have hki : (k : Int) < (a.length : Int) := by omega
        obtain ⟨b2, off', rfl, c2⟩ := HC'.out k _ (ints_at b k hlb)
        by_cases h1 : a[k] = b[k]
        · have HS2 := Lib.hid (Pl.same_next HS.out hlt hlb h1)
          rw [← h1] at c2
          clear h1 hlb
          generalize a[k] = x at c1 c2
          go_wp2
          go_quiet (fail)
          go_wp2
          go_roundw
          case rel => exact ⟨k + 1, by omega, by go_num, HS2, by first | exact ⟨_, rfl⟩ | exact drews2 _ _ _ | exact drews3 _ _ _ _⟩
          case measure => simp [intOf]; omega
        · have E := Lib.hid (same_not hlt hlb h1)
          generalize a[k] = x at c1 h1
          generalize b[k] = y at c2 h1
          clear hlb
          go_wp2
          go_quiet (fail)
          go_wp2
          go_ret
          exact ⟨ret_bool E.out.symm, by first | exact ⟨_, rfl⟩ | exact drews2 _ _ _ | exact drews3 _ _ _ _⟩
      · obtain rfl : k = a.length := by omega
        have E := Lib.hid (same_done HS.out HN.out)
        go_wp2
        go_ret
        exact ⟨ret_bool E.out.symm, by first | exact ⟨_, rfl⟩ | exact drews2 _ _ _ | exact drews3 _ _ _ _⟩
  · have E := Lib.hid (same_lens hn)
    have hnn : ¬ (a.length : Int) = (b.length : Int) := by omega
    go_enter Tryd.func124, Tryd.ntmps124
    go_wp2
    go_ret
    exact ⟨ret_bool E.out.symm, 0, rfl⟩
set_option maxHeartbeats 1600000 in
theorem Equal_any (v v' : Value) (a b : List Int) (w : World) (hr : Rows w v a.length 1 (ints a)) (hr' : Rows w v' b.length 1 (ints b)) (ha : a.length ≤ 1048576) :
    Calls Tryd.prog 129 #[v, v'] w fun e w' => e = .returned (.bool (a == b)) ∧ Drew w w' := by
  obtain ⟨a1, cap, rfl, _, _, _, _, hcells⟩ := hr
  obtain ⟨a2, cap', rfl, _, _, _, _, hcells'⟩ := hr'
  have HC := Lib.hid hcells; have HC' := Lib.hid hcells'
  clear hcells hcells'
  by_cases hn : a.length = b.length
  · rw [← hn]
    have HN := Lib.hid hn
    clear hn
    go_enter Tryd.func129, Tryd.ntmps129
    go_wp2
    go_loopw [13] (fun i wr => ∃ k : Nat, k ≤ a.length ∧ i = .int .i64 k ∧ Hid (Pl.sameTo a b k) ∧ ∃ n, wr = w.drewN n) (fun i _ => a.length - (intOf i).toNat)
    case atStart => exact ⟨0, Nat.zero_le _, rfl, Lib.hid (Pl.same_zero a b), 0, rfl⟩
    case round =>
      obtain ⟨k, hk, rfl, HS, n, rfl⟩ := hrel
      by_cases hlt : k < a.length
      · have hlb : k < b.length := by have := HN.out; omega
        obtain ⟨b1, off, rfl, c1⟩ := HC.out k _ (ints_at a k hlt)
        have hki : (k : Int) < (a.length : Int) := by omega
        obtain ⟨b2, off', rfl, c2⟩ := HC'.out k _ (ints_at b k hlb)
        by_cases h1 : a[k] = b[k]
        · have HS2 := Lib.hid (Pl.same_next HS.out hlt hlb h1)
          rw [← h1] at c2
          clear h1 hlb
          generalize a[k] = x at c1 c2
          go_wp2
          go_quiet (fail)
          go_wp2
          go_roundw
          case rel => exact ⟨k + 1, by omega, by go_num, HS2, by first | exact ⟨_, rfl⟩ | exact drews2 _ _ _ | exact drews3 _ _ _ _⟩
          case measure => simp [intOf]; omega
        · have E := Lib.hid (same_not hlt hlb h1)
          generalize a[k] = x at c1 h1
          generalize b[k] = y at c2 h1
          clear hlb
          go_wp2
          go_quiet (fail)
          go_wp2
          go_ret
          exact ⟨ret_bool E.out.symm, by first | exact ⟨_, rfl⟩ | exact drews2 _ _ _ | exact drews3 _ _ _ _⟩
      · obtain rfl : k = a.length := by omega
        have E := Lib.hid (same_done HS.out HN.out)
        go_wp2
        go_ret
        exact ⟨ret_bool E.out.symm, by first | exact ⟨_, rfl⟩ | exact drews2 _ _ _ | exact drews3 _ _ _ _⟩
  · have E := Lib.hid (same_lens hn)
    have hnn : ¬ (a.length : Int) = (b.length : Int) := by omega
    go_enter Tryd.func129, Tryd.ntmps129
    go_wp2
    go_ret
    exact ⟨ret_bool E.out.symm, 0, rfl⟩

end Go.Proofs.YtfjdbchffhbidaaDoor
