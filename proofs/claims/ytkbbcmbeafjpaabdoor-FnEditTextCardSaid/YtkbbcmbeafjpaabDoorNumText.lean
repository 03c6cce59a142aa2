/-
  CONTRACT: the reference's decimal numeral, l1Num.
-/
import Derived.Test.YtkbbcmbeafjpaabDoorPlainClock
import Derived.Test.YtkbbcmbeafjpaabDoorStrA
import Derived.Deep.QuietTactic
import Derived.BigQuiet
import Derived.IntWalk
namespace Go.Proofs.YtkbbcmbeafjpaabDoor
open Go.RowKit

set_option maxHeartbeats 400000 in
theorem l1Num_by (n : Nat) : ∀ (u : Nat) (w : World), u ≤ n → u ≤ 1000000000 →
    Calls Tryd.prog 25 #[.int .i64 (u : Int)] w fun e w' => e = .returned (.string (Pl.num (u : Int))) ∧ Drew w w' := by
  induction n with
  | zero =>
    intro u w h0 _
    obtain rfl : u = 0 := by omega
    have E := Lib.hid (Pl.num_small 0 (by omega))
    go_enter Tryd.func25, Tryd.ntmps25
    go_wp2_with fail
    go_ret
    exact ⟨ret_str E.out.symm, Drew.refl _⟩
  | succ n ih =>
    intro u w h0 h1
    by_cases h3 : u < 10
    · have E := Lib.hid (Pl.num_small u h3)
      go_enter Tryd.func25, Tryd.ntmps25
      go_wp2_with fail
      go_ret
      exact ⟨ret_str E.out.symm, Drew.refl _⟩
    · have E := Lib.hid (Pl.num_big' u (by omega))
      have hsz := Pl.num_size' u
      have hc : (u : Int) / 10 = ((u / 10 : Nat) : Int) := by omega
      have HC := Lib.hid (fun W => (by rw [hc]; exact ih (u / 10) W (by omega) (by omega) :
        Calls Tryd.prog 25 #[.int .i64 ((u : Int) / 10)] W fun e w' => e = .returned (.string (Pl.num ((u : Int) / 10))) ∧ Drew W w'))
      clear ih hc
      have hm : (((u : Int) % 10).toNat) = u % 10 := by omega
      have hm1 : (((u : Int) % 10 + 1).toNat) = u % 10 + 1 := by omega
      have hb0 : 0 ≤ (u : Int) % 10 := by omega
      have hb1 : (u : Int) % 10 ≤ 9 := by omega
      have hw1 : IntKind.i64.wrap ((u : Int) / 10) = (u : Int) / 10 := IntWalk.i64_in _ (by omega)
      have hw2 : IntKind.i64.wrap ((u : Int) % 10) = (u : Int) % 10 := IntWalk.i64_in _ (by omega)
      have hw3 : IntKind.i64.wrap ((u : Int) % 10 + 1) = (u : Int) % 10 + 1 := IntWalk.i64_in _ (by omega)
      have hb2 : (u : Int) % 10 + 1 ≤ 10 := by omega
      have htm : (u : Int).tmod 10 = (u : Int) % 10 := Int.tmod_eq_emod_of_nonneg (by omega)
      have hsl := fun W : World => run_slice_string (P := Tryd.prog) W 9 ⟨#[48, 49, 50, 51, 52, 53, 54, 55, 56, 57]⟩ .i64 .i64 ((u : Int) % 10) ((u : Int) % 10 + 1) Tryd.underlying9 hb0 (by omega) (show (u : Int) % 10 + 1 ≤ (10 : Int) by omega)
      rw [hm, hm1] at hsl
      have hadd := fun W : World => run_string_add_sum (P := Tryd.prog) W (Pl.num ((u : Int) / 10)) ((⟨#[48, 49, 50, 51, 52, 53, 54, 55, 56, 57]⟩ : ByteArray).extract (u % 10) (u % 10 + 1)) (by
        rw [Pl.digit_piece _ (by omega)]; show _ + 1 ≤ _; omega)
      go_enter Tryd.func25, Tryd.ntmps25
      go_wp2_with fail
      go_quiet ((go_at_call 25; exact Calls.quiet_of (HC.out _)))
      go_wp2_with fail
      go_ret
      exact ⟨ret_str E.out.symm, ⟨_, rfl⟩⟩

theorem l1Num_nat (n : Int) (w : World) (h0 : 0 ≤ n) (h1 : n ≤ 1000000000) :
    Calls Tryd.prog 25 #[.int .i64 n] w fun e w' => e = .returned (.string (Pl.num n)) ∧ Drew w w' := by
  obtain ⟨u, rfl⟩ := Int.eq_ofNat_of_zero_le h0
  exact l1Num_by u u w (Nat.le_refl _) (by omega)

set_option maxHeartbeats 400000 in
theorem l1Num_any (n : Int) (w : World) (h0 : -1000000000 ≤ n) (h1 : n ≤ 1000000000) :
    Calls Tryd.prog 25 #[.int .i64 n] w fun e w' => e = .returned (.string (Pl.num n)) ∧ Drew w w' := by
  by_cases hn : 0 ≤ n
  · exact l1Num_nat n w hn h1
  · obtain ⟨u, rfl⟩ : ∃ u : Nat, n = -(u : Int) := ⟨(-n).toNat, by omega⟩
    have E := Lib.hid (Pl.num_neg u (by omega))
    have hsz := Pl.num_size u
    have hlt : -(u : Int) < 0 := by omega
    go_enter Tryd.func25, Tryd.ntmps25
    go_wp2_with ((go_at_call 25; refine (l1Num_nat _ _ (by omega) (by omega)).mono ?_; rintro e w' ⟨rfl, n1, rfl⟩))
    go_ret
    exact ⟨ret_str E.out.symm, ⟨_, rfl⟩⟩

end Go.Proofs.YtkbbcmbeafjpaabDoor
