/-
  CONTRACTS: two outlines compared, of the library and of the reference.
-/
import Derived.Test.YtfjdbchffhbidaaDoorPlainDict
import Derived.Test.YtfjdbchffhbidaaDoorIntS
namespace Go.Proofs.YtfjdbchffhbidaaDoor
open Go.RowKit

theorem drews2 (w : World) (a b : Nat) : ∃ k, (w.drewN a).drewN b = w.drewN k := ⟨a + b, by unfold World.drewN; simp [Nat.add_assoc]⟩
theorem drews3 (w : World) (a b c : Nat) : ∃ k, ((w.drewN a).drewN b).drewN c = w.drewN k := ⟨a + b + c, by unfold World.drewN; simp [Nat.add_assoc]⟩
set_option maxHeartbeats 400000 in
theorem cmpInt_any (a b : Int) (w : World) :
    Calls Tryd.prog 126 #[.int .i64 a, .int .i64 b] w fun e w' => e = .returned (.int .i64 (if a < b then -1 else if b < a then 1 else 0)) ∧ w = w' := by
  by_cases h1 : a < b
  · have E := Lib.hid (show (if a < b then (-1 : Int) else if b < a then 1 else 0) = -1 from if_pos h1)
    go_enter Tryd.func126, Tryd.ntmps126
    go_wp2
    go_ret
    exact ⟨by first | rfl | exact ret_int E.out.symm, rfl⟩
  · by_cases h2 : b < a
    · have E := Lib.hid (show (if a < b then (-1 : Int) else if b < a then 1 else 0) = 1 by rw [if_neg h1, if_pos h2])
      go_enter Tryd.func126, Tryd.ntmps126
      go_wp2
      go_ret
      exact ⟨by first | rfl | exact ret_int E.out.symm, rfl⟩
    · have E := Lib.hid (show (if a < b then (-1 : Int) else if b < a then 1 else 0) = 0 by rw [if_neg h1, if_neg h2])
      obtain rfl : a = b := by omega
      clear h1 h2
      go_enter Tryd.func126, Tryd.ntmps126
      go_wp2
      go_ret
      exact ⟨by first | rfl | exact ret_int E.out.symm, rfl⟩

set_option maxHeartbeats 1600000 in
theorem Compare_any (v v' : Value) (a b : List Int) (w : World) (hr : Rows w v a.length 1 (ints a)) (hr' : Rows w v' b.length 1 (ints b)) (ha : a.length ≤ 1048576) :
    Calls Tryd.prog 99 #[v, v'] w fun e w' => e = .returned (.int .i64 (Pl.cmpI a b)) ∧ w = w' := by
  obtain ⟨a1, cap, rfl, _, _, _, _, hcells⟩ := hr
  obtain ⟨a2, cap', rfl, _, _, _, _, hcells'⟩ := hr'
  have HC := Lib.hid hcells; have HC' := Lib.hid hcells'
  clear hcells hcells'
  go_enter Tryd.func99, Tryd.ntmps99
  go_wp2
  go_loop [11] (fun i => ∃ k : Nat, k ≤ a.length ∧ i = .int .i64 k ∧ Hid (Pl.sameTo a b k)) (fun i => a.length - (intOf i).toNat)
  case atStart => exact ⟨0, Nat.zero_le _, rfl, Lib.hid (Pl.same_zero a b)⟩
  case round =>
    obtain ⟨k, hk, rfl, HS⟩ := hrel
    have hkb := HS.out.2.1
    by_cases hlt : k < a.length
    · obtain ⟨b1, off, rfl, c1⟩ := HC.out k _ (ints_at a k hlt)
      have hki : (k : Int) < (a.length : Int) := by omega
      by_cases hlb : k < b.length
      · obtain ⟨b2, off', rfl, c2⟩ := HC'.out k _ (ints_at b k hlb)
        have hkj : (k : Int) < (b.length : Int) := by omega
        by_cases h1 : a[k] < b[k]
        · have E := Lib.hid (Pl.cmp_lt HS.out hlt hlb h1)
          generalize a[k] = x at c1 h1
          generalize b[k] = y at c2 h1
          go_wp2_with (go_at_call 126; refine (cmpInt_any _ _ _).mono ?_; rintro e w' ⟨he, rfl⟩; rw [if_pos h1] at he; subst he)
          go_ret
          exact ⟨ret_int E.out.symm, rfl⟩
        · by_cases h2 : b[k] < a[k]
          · have E := Lib.hid (Pl.cmp_gt HS.out hlt hlb h2)
            generalize a[k] = x at c1 h1 h2
            generalize b[k] = y at c2 h1 h2
            go_wp2_with (go_at_call 126; refine (cmpInt_any _ _ _).mono ?_; rintro e w' ⟨he, rfl⟩; rw [if_neg h1, if_pos h2] at he; subst he)
            go_ret
            exact ⟨ret_int E.out.symm, rfl⟩
          · have HN := Lib.hid (Pl.same_next HS.out hlt hlb (by omega))
            generalize a[k] = x at c1 h1 h2
            generalize b[k] = y at c2 h1 h2
            go_wp2_with (go_at_call 126; refine (cmpInt_any _ _ _).mono ?_; rintro e w' ⟨he, rfl⟩; rw [if_neg h1, if_neg h2] at he; subst he)
            go_round
            case rel => exact ⟨k + 1, by omega, by go_num, HN⟩
            case measure => simp [intOf]; omega
      · obtain rfl : k = b.length := by omega
        have E := Lib.hid (Pl.cmp_long HS.out hlt)
        go_wp2
        go_ret
        exact ⟨ret_int E.out.symm, rfl⟩
    · obtain rfl : k = a.length := by omega
      by_cases hlb : a.length < b.length
      · have E := Lib.hid (Pl.cmp_short HS.out hlb)
        have hli : (a.length : Int) < (b.length : Int) := by omega
        go_wp2
        go_ret
        exact ⟨ret_int E.out.symm, rfl⟩
      · have E := Lib.hid (Pl.cmp_same HS.out (by omega))
        have hli : ¬ (a.length : Int) < (b.length : Int) := by omega
        go_wp2
        go_ret
        exact ⟨ret_int E.out.symm, rfl⟩

set_option maxHeartbeats 1600000 in
theorem l4Compare_any (v v' : Value) (a b : List Int) (w : World) (hr : Rows w v a.length 1 (ints a)) (hr' : Rows w v' b.length 1 (ints b)) (ha : a.length ≤ 1048576) :
    Calls Tryd.prog 95 #[v, v'] w fun e w' => e = .returned (.int .i64 (Pl.cmpI a b)) ∧ Drew w w' := by
  obtain ⟨a1, cap, rfl, _, _, _, _, hcells⟩ := hr
  obtain ⟨a2, cap', rfl, _, _, _, _, hcells'⟩ := hr'
  have HC := Lib.hid hcells; have HC' := Lib.hid hcells'
  clear hcells hcells'
  go_enter Tryd.func95, Tryd.ntmps95
  go_wp2
  go_loopw [5] (fun i wr => ∃ k : Nat, k ≤ a.length ∧ i = .int .i64 k ∧ Hid (Pl.sameTo a b k) ∧ ∃ n, wr = w.drewN n) (fun i _ => a.length - (intOf i).toNat)
  case atStart => exact ⟨0, Nat.zero_le _, rfl, Lib.hid (Pl.same_zero a b), 0, rfl⟩
  case round =>
    obtain ⟨k, hk, rfl, HS, n, rfl⟩ := hrel
    have hkb := HS.out.2.1
    by_cases hlt : k < a.length
    · obtain ⟨b1, off, rfl, c1⟩ := HC.out k _ (ints_at a k hlt)
      have hki : (k : Int) < (a.length : Int) := by omega
      by_cases hlb : k < b.length
      · obtain ⟨b2, off', rfl, c2⟩ := HC'.out k _ (ints_at b k hlb)
        have hkj : (k : Int) < (b.length : Int) := by omega
        by_cases h1 : a[k] < b[k]
        · have E := Lib.hid (Pl.cmp_lt HS.out hlt hlb h1)
          generalize a[k] = x at c1 h1
          generalize b[k] = y at c2 h1
          go_wp2
          go_quiet (fail)
          go_wp2
          go_ret
          exact ⟨ret_int E.out.symm, by first | exact ⟨_, rfl⟩ | exact drews2 _ _ _ | exact drews3 _ _ _ _⟩
        · by_cases h2 : b[k] < a[k]
          · have E := Lib.hid (Pl.cmp_gt HS.out hlt hlb h2)
            generalize a[k] = x at c1 h1 h2
            generalize b[k] = y at c2 h1 h2
            go_wp2
            go_quiet (fail)
            go_wp2
            go_quiet (fail)
            go_wp2
            go_ret
            exact ⟨ret_int E.out.symm, by first | exact ⟨_, rfl⟩ | exact drews2 _ _ _ | exact drews3 _ _ _ _⟩
          · have HN := Lib.hid (Pl.same_next HS.out hlt hlb (by omega))
            generalize a[k] = x at c1 h1 h2
            generalize b[k] = y at c2 h1 h2
            go_wp2
            go_quiet (fail)
            go_wp2
            go_quiet (fail)
            go_wp2
            go_roundw
            case rel => exact ⟨k + 1, by omega, by go_num, HN, by first | exact ⟨_, rfl⟩ | exact drews2 _ _ _ | exact drews3 _ _ _ _⟩
            case measure => simp [intOf]; omega
      · obtain rfl : k = b.length := by omega
        have E := Lib.hid (Pl.cmp_long HS.out hlt)
        have hkj : ¬ (b.length : Int) < (b.length : Int) := by omega
        have hkz : ¬ (a.length : Int) < (b.length : Int) := by omega
        go_wp2
        go_ret
        exact ⟨ret_int E.out.symm, by first | exact ⟨_, rfl⟩ | exact drews2 _ _ _ | exact drews3 _ _ _ _⟩
    · obtain rfl : k = a.length := by omega
      by_cases hlb : a.length < b.length
      · have E := Lib.hid (Pl.cmp_short HS.out hlb)
        have hli : (a.length : Int) < (b.length : Int) := by omega
        go_wp2
        go_ret
        exact ⟨ret_int E.out.symm, by first | exact ⟨_, rfl⟩ | exact drews2 _ _ _ | exact drews3 _ _ _ _⟩
      · have E := Lib.hid (Pl.cmp_same HS.out (by omega))
        have hli : ¬ (a.length : Int) < (b.length : Int) := by omega
        have hli2 : ¬ (b.length : Int) < (a.length : Int) := by omega
        go_wp2
        go_ret
        exact ⟨ret_int E.out.symm, by first | exact ⟨_, rfl⟩ | exact drews2 _ _ _ | exact drews3 _ _ _ _⟩

end Go.Proofs.YtfjdbchffhbidaaDoor
