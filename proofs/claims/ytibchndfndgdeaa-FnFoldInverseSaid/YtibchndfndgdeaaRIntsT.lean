/-
  CONTRACT: rInts says yes of two rows of the same numbers.
-/
import Derived.Test.YtibchndfndgdeaaIntS
namespace Go.Proofs.Ytibchndfndgdeaa
open Go.RowKit

set_option maxHeartbeats 800000 in
theorem rInts_same (v v' : Value) (l : List Int) (w : World) (hr : Rows w v l.length 1 (ints l)) (hr' : Rows w v' l.length 1 (ints l)) (hl : l.length ≤ 1048576) :
    Calls Try.prog 10 #[v, v'] w fun e w' => e = .returned (.bool true) ∧ Drew w w' := by
  obtain ⟨a, cap, rfl, _, _, _, _, hcells⟩ := hr
  obtain ⟨a', cap', rfl, _, _, _, _, hcells'⟩ := hr'
  go_enter Try.func10, Try.ntmps10
  go_wp2
  go_loopw [5] (fun i wr => ∃ k : Nat, k ≤ l.length ∧ i = .int .i64 k ∧ ∃ n, wr = w.drewN n) (fun i _ => l.length - (intOf i).toNat)
  case atStart => exact ⟨0, Nat.zero_le _, rfl, 0, rfl⟩
  case round =>
    obtain ⟨k, hk, rfl, n, rfl⟩ := hrel
    by_cases hlt : k < l.length
    · obtain ⟨b, off, rfl, h1⟩ := hcells k _ (ints_at l k hlt)
      obtain ⟨b', off', rfl, h2⟩ := hcells' k _ (ints_at l k hlt)
      have hki : (k : Int) < (l.length : Int) := by omega
      go_wp2
      go_quiet (fail)
      go_wp2
      go_roundw
      case rel => exact ⟨k + 1, by omega, by go_num, _, rfl⟩
      case measure => simp [intOf]; omega
    · go_wp2
      go_ret
      exact ⟨rfl, ⟨_, rfl⟩⟩

end Go.Proofs.Ytibchndfndgdeaa
