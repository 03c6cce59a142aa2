/-
  CONTRACTS: two outlines compared, of the library and of the reference.
-/
import Derived.Test.YtibchndfndgdeaaPlainDict
import Derived.Test.YtibchndfndgdeaaIntS
namespace Go.Proofs.Ytibchndfndgdeaa
open Go.RowKit

theorem drews2 (w : World) (a b : Nat) : ∃ k, (w.drewN a).drewN b = w.drewN k := ⟨a + b, by unfold World.drewN; simp [Nat.add_assoc]⟩
theorem drews3 (w : World) (a b c : Nat) : ∃ k, ((w.drewN a).drewN b).drewN c = w.drewN k := ⟨a + b + c, by unfold World.drewN; simp [Nat.add_assoc]⟩

set_option maxHeartbeats 1600000 in
theorem l4Compare_any (v v' : Value) (a b : List Int) (w : World) (hr : Rows w v a.length 1 (ints a)) (hr' : Rows w v' b.length 1 (ints b)) (ha : a.length ≤ 1048576) :
    Calls Try.prog 46 #[v, v'] w fun e w' => e = .returned (.int .i64 (Pl.cmpI a b)) ∧ Drew w w' := by
  obtain ⟨a1, cap, rfl, _, _, _, _, hcells⟩ := hr
  obtain ⟨a2, cap', rfl, _, _, _, _, hcells'⟩ := hr'
  have HC := Lib.hid hcells; have HC' := Lib.hid hcells'
  clear hcells hcells'
  go_enter Try.func46, Try.ntmps46
  go_wp2
  go_loopw [5] (fun i wr => ∃ k : Nat, k ≤ a.length ∧ i = .int .i64 k ∧ Hid (Pl.sameTo a b k) ∧ ∃ n, wr = w.drewN n) (fun i _ => a.length - (intOf i).toNat)
  case atStart => exact ⟨0, Nat.zero_le _, rfl, Lib.hid (Pl.same_zero a b), 0, rfl⟩
  case round =>
    obtain ⟨k, hk, rfl, HS, n, rfl⟩ := hrel
    have hkb := HS.out.2.1
    by_cases hlt : k < a.length
    · obtain ⟨b1, off, rfl, c1⟩ := HC.out k _ (ints_at a k hlt)
      have hki : (k : Int) < (a.length : Int) := by omega
      by_cases hlb : k < b.length
      · obtain ⟨b2, off', rfl, c2⟩ := HC'.out k _ (ints_at b k hlb)
        have hkj : (k : Int) < (b.length : Int) := by omega
        by_cases h1 : a[k] < b[k]
        · have E := Lib.hid (Pl.cmp_lt HS.out hlt hlb h1)
          generalize a[k] = x at c1 h1
          generalize b[k] = y at c2 h1
          go_wp2
          go_quiet (fail)
          go_wp2
          go_ret
          exact ⟨ret_int E.out.symm, by first | exact ⟨_, rfl⟩ | exact drews2 _ _ _ | exact drews3 _ _ _ _⟩
        · by_cases h2 : b[k] < a[k]
          · have E := Lib.hid (Pl.cmp_gt HS.out hlt hlb h2)
            generalize a[k] = x at c1 h1 h2
            generalize b[k] = y at c2 h1 h2
            go_wp2
            go_quiet (fail)
            go_wp2
            go_quiet (fail)
            go_wp2
            go_ret
            exact ⟨ret_int E.out.symm, by first | exact ⟨_, rfl⟩ | exact drews2 _ _ _ | exact drews3 _ _ _ _⟩
          · have HN := Lib.hid (Pl.same_next HS.out hlt hlb (by omega))
            generalize a[k] = x at c1 h1 h2
            generalize b[k] = y at c2 h1 h2
            go_wp2
            go_quiet (fail)
            go_wp2
            go_quiet (fail)
            go_wp2
            go_roundw
            case rel => exact ⟨k + 1, by omega, by go_num, HN, by first | exact ⟨_, rfl⟩ | exact drews2 _ _ _ | exact drews3 _ _ _ _⟩
            case measure => simp [intOf]; omega
      · obtain rfl : k = b.length := by omega
        have E := Lib.hid (Pl.cmp_long HS.out hlt)
        have hkj : ¬ (b.length : Int) < (b.length : Int) := by omega
        have hkz : ¬ (a.length : Int) < (b.length : Int) := by omega
        go_wp2
        go_ret
        exact ⟨ret_int E.out.symm, by first | exact ⟨_, rfl⟩ | exact drews2 _ _ _ | exact drews3 _ _ _ _⟩
    · obtain rfl : k = a.length := by omega
      by_cases hlb : a.length < b.length
      · have E := Lib.hid (Pl.cmp_short HS.out hlb)
        have hli : (a.length : Int) < (b.length : Int) := by omega
        go_wp2
        go_ret
        exact ⟨ret_int E.out.symm, by first | exact ⟨_, rfl⟩ | exact drews2 _ _ _ | exact drews3 _ _ _ _⟩
      · have E := Lib.hid (Pl.cmp_same HS.out (by omega))
        have hli : ¬ (a.length : Int) < (b.length : Int) := by omega
        have hli2 : ¬ (b.length : Int) < (a.length : Int) := by omega
        go_wp2
        go_ret
        exact ⟨ret_int E.out.symm, by first | exact ⟨_, rfl⟩ | exact drews2 _ _ _ | exact drews3 _ _ _ _⟩

end Go.Proofs.Ytibchndfndgdeaa
