/-
  THE CLAIM: the law FnExactFormatDollars returns true for every input, and its arguments read afterwards as before. Conditions: none beyond the given statement's own.
-/
import Derived.Test.YtmlckocmfoiobaaNum
import Derived.ProofKit
import Derived.OpenShut
import Derived.ShutString
import Derived.ChangeOld
import Derived.Below
import Derived.WalkSmall
import Derived.Test.YtmlckocmfoiobaaOpen
namespace Go.Proofs.Ytmlckocmfoiobaa
open Go.RowKit

/-- the length of a string in a slot -/
def strLen : Value → Nat | .string t => t.size | _ => 0

set_option maxHeartbeats 1600000 in
theorem FormatDollars_any (s : ByteArray) (cents : Bool) (w : World) (hs : s.size ≤ 1048576) :
    Calls Try.prog 21 #[.string s, .bool cents] w fun e w' => e = .returned (.tuple #[.string (Pl.dollarsOut s cents), .bool (Pl.isNumber s)]) ∧ Drew w w' := by
  have hs' : s.size ≤ maxLen := by unfold maxLen; omega
  cases hn : Pl.isNumber s
  · have E := Lib.hid (show Pl.dollarsOut s cents = ⟨#[]⟩ by rw [Pl.dollarsOut, hn]; rfl)
    go_enter Try.func21, Try.ntmps21
    go_wp2_with ((go_at_call 63; refine (isNumber_any _ _ hs').mono ?_; rintro e w' ⟨rfl, rfl⟩))
    go_ret2
    exact ⟨ret_strb E.out.symm rfl, Drew.refl _⟩
  · have hp := Pl.digitsOk_pos (Pl.isNumber_digits hn)
    have hle := Pl.digitsOk_le (Pl.isNumber_digits hn)
    cases cents
    · have E := Lib.hid (show Pl.dollarsOut s false = ⟨#[36]⟩ ++ Pl.grouped s by rw [Pl.dollarsOut, hn]; rfl)
      have hgz := Pl.grouped_size s
      go_enter Try.func21, Try.ntmps21
      go_wp2_with (first | (go_at_call 63; refine (isNumber_any _ _ hs').mono ?_; rintro e w' ⟨rfl, rfl⟩) | (go_at_call 64; refine (grouped_any _ _ hs).mono ?_; rintro e w' ⟨rfl, n1, rfl⟩))
      go_ret2
      exact ⟨ret_strb E.out.symm rfl, by first | exact Drew.refl _ | exact ⟨_, rfl⟩⟩
    · have E := Lib.hid (show Pl.dollarsOut s true = ⟨#[36]⟩ ++ Pl.grouped ((Pl.pad3 s).extract 0 ((Pl.pad3 s).size - 2)) ++ ⟨#[46]⟩ ++ (Pl.pad3 s).extract ((Pl.pad3 s).size - 2) (Pl.pad3 s).size by rw [Pl.dollarsOut, hn]; rfl)
      go_enter Try.func21, Try.ntmps21
      go_wp2_with ((go_at_call 63; refine (isNumber_any _ _ hs').mono ?_; rintro e w' ⟨rfl, rfl⟩))
      go_loop [0] (fun d => ∃ t : ByteArray, d = .string t ∧ 0 < t.size ∧ t.size ≤ 30 ∧ Pl.pad3 t = Pl.pad3 s) (fun d => 3 - strLen d)
      case atStart => exact ⟨s, rfl, hp, hle, rfl⟩
      case round =>
        obtain ⟨t, rfl, ht0, ht1, ht2⟩ := hrel
        have HT := Lib.hid ht2; clear ht2
        by_cases hlt : t.size < 3
        · have HS := Lib.hid ((Pl.pad3_step ht0 hlt).trans HT.out)
          go_wp2
          go_round
          case rel => exact ⟨_, rfl, by rw [ByteArray.size_append]; omega, by rw [ByteArray.size_append, show (⟨#[48]⟩ : ByteArray).size = 1 from rfl]; omega, HS.out⟩
          case measure => simp only [strLen, ByteArray.size_append, show (⟨#[48]⟩ : ByteArray).size = 1 from rfl]; omega
        · have E2 : Hid (t = Pl.pad3 s) := by rw [← HT.out, Pl.pad3_big (by omega)]; exact rfl
          have hgz := Pl.grouped_size (t.extract 0 (t.size - 2))
          rw [show (t.extract 0 (t.size - 2)).size = t.size - 2 by simp] at hgz
          have hez : (t.extract 0 (t.size - 2)).size ≤ 1048576 := by simp; omega
          have ht2 : ((t.size : Int) - 2).toNat = t.size - 2 := by omega
          have hw2 : IntKind.i64.wrap ((t.size : Int) - 2) = (t.size : Int) - 2 := IntWalk.i64_in _ (by omega)
          have h02 : (0 : Int) ≤ (t.size : Int) - 2 := by omega
          go_wp2
          go_quiet ((go_at_call 64; exact Calls.quiet_of (grouped_any _ _ hez)))
          go_wp2
          go_ret2
          exact ⟨ret_strb (by rw [E.out, E2.out]) rfl, ⟨_, rfl⟩⟩

set_option maxHeartbeats 1600000 in
theorem specFormatDollars_any (s : ByteArray) (cents : Bool) (w : World) (hs : s.size ≤ 1048576) :
    Calls Try.prog 20 #[.string s, .bool cents] w fun e w' => e = .returned (.tuple #[.string (Pl.dollarsOut s cents), .bool (Pl.isNumber s)]) ∧ Drew w w' := by
  have hs' : s.size ≤ maxLen := by unfold maxLen; omega
  cases hn : Pl.isNumber s
  · have E := Lib.hid (show Pl.dollarsOut s cents = ⟨#[]⟩ by rw [Pl.dollarsOut, hn]; rfl)
    go_enter Try.func20, Try.ntmps20
    go_wp2_with ((go_at_call 61; refine (l15Number_any _ _ hs').mono ?_; rintro e w' ⟨rfl, rfl⟩))
    go_ret2
    exact ⟨ret_strb E.out.symm rfl, Drew.refl _⟩
  · have hp := Pl.digitsOk_pos (Pl.isNumber_digits hn)
    have hle := Pl.digitsOk_le (Pl.isNumber_digits hn)
    cases cents
    · have E := Lib.hid (show Pl.dollarsOut s false = ⟨#[36]⟩ ++ Pl.grouped s by rw [Pl.dollarsOut, hn]; rfl)
      have hgz := Pl.grouped_size s
      go_enter Try.func20, Try.ntmps20
      go_wp2_with (first | (go_at_call 61; refine (l15Number_any _ _ hs').mono ?_; rintro e w' ⟨rfl, rfl⟩) | (go_at_call 62; refine (l15Group_any _ _ hs).mono ?_; rintro e w' ⟨rfl, rfl⟩))
      go_ret2
      exact ⟨ret_strb E.out.symm rfl, by first | exact Drew.refl _ | exact ⟨_, rfl⟩⟩
    · have E := Lib.hid (show Pl.dollarsOut s true = ⟨#[36]⟩ ++ Pl.grouped ((Pl.pad3 s).extract 0 ((Pl.pad3 s).size - 2)) ++ ⟨#[46]⟩ ++ (Pl.pad3 s).extract ((Pl.pad3 s).size - 2) (Pl.pad3 s).size by rw [Pl.dollarsOut, hn]; rfl)
      go_enter Try.func20, Try.ntmps20
      go_wp2_with ((go_at_call 61; refine (l15Number_any _ _ hs').mono ?_; rintro e w' ⟨rfl, rfl⟩))
      go_loop [0] (fun d => ∃ t : ByteArray, d = .string t ∧ 0 < t.size ∧ t.size ≤ 30 ∧ Pl.pad3 t = Pl.pad3 s) (fun d => 3 - strLen d)
      case atStart => exact ⟨s, rfl, hp, hle, rfl⟩
      case round =>
        obtain ⟨t, rfl, ht0, ht1, ht2⟩ := hrel
        have HT := Lib.hid ht2; clear ht2
        by_cases hlt : t.size < 3
        · have HS := Lib.hid ((Pl.pad3_step ht0 hlt).trans HT.out)
          go_wp2
          go_round
          case rel => exact ⟨_, rfl, by rw [ByteArray.size_append]; omega, by rw [ByteArray.size_append, show (⟨#[48]⟩ : ByteArray).size = 1 from rfl]; omega, HS.out⟩
          case measure => simp only [strLen, ByteArray.size_append, show (⟨#[48]⟩ : ByteArray).size = 1 from rfl]; omega
        · have E2 : Hid (t = Pl.pad3 s) := by rw [← HT.out, Pl.pad3_big (by omega)]; exact rfl
          have hgz := Pl.grouped_size (t.extract 0 (t.size - 2))
          rw [show (t.extract 0 (t.size - 2)).size = t.size - 2 by simp] at hgz
          have hez : (t.extract 0 (t.size - 2)).size ≤ 1048576 := by simp; omega
          have ht2 : ((t.size : Int) - 2).toNat = t.size - 2 := by omega
          have hw2 : IntKind.i64.wrap ((t.size : Int) - 2) = (t.size : Int) - 2 := IntWalk.i64_in _ (by omega)
          have h02 : (0 : Int) ≤ (t.size : Int) - 2 := by omega
          go_wp2
          go_quiet ((go_at_call 62; exact quiet_eq (l15Group_any _ _ hez)))
          go_wp2
          go_ret2
          exact ⟨ret_strb (by rw [E.out, E2.out]) rfl, ⟨_, rfl⟩⟩

set_option maxHeartbeats 400000 in
theorem FnExactFormatDollars_walk (s : ByteArray) (c : Bool) (w : World) (hs : s.size ≤ maxLen) :
    Calls Try.prog 5 #[.string s, .bool c] w fun e w' => e = .returned (.bool true) ∧ Below w.heap.size w w' := by
  unfold maxLen at hs
  by_cases hsz : s.size ≤ 1048576
  · go_enter Try.func5, Try.ntmps5
    go_wp2_with (first | (go_at_call 21; refine (FormatDollars_any _ _ _ hsz).mono ?_; rintro e w' ⟨rfl, n1, rfl⟩) | (go_at_call 20; refine (specFormatDollars_any _ _ _ hsz).mono ?_; rintro e w' ⟨rfl, n1, rfl⟩))
    all_goals go_ret
    all_goals exact ⟨rfl, (by repeat (first | with_reducible exact Below.refl _ _ | with_reducible assumption | with_reducible refine Below.alloc ?_ ?_ _ | with_reducible refine Below.setCell ?_ ?_ _ | with_reducible refine Below.drew ?_ | with_reducible refine below_drewN ?_ _ | with_reducible refine Below.trans ?_ (Below.mono (by assumption) ?_) | omega | ((repeat (first | rw [World.size_alloc] | rw [size_setCell] | rw [size_drewN] | rw [size_drew])); omega) | exact Nat.le_refl _ | (dsimp only; omega) | (simp [World.setCell]; omega)))⟩
  · go_enter Try.func5, Try.ntmps5
    go_wp2_with fail
    all_goals go_ret
    all_goals exact ⟨rfl, (by repeat (first | with_reducible exact Below.refl _ _ | with_reducible assumption | with_reducible refine Below.alloc ?_ ?_ _ | with_reducible refine Below.setCell ?_ ?_ _ | with_reducible refine Below.drew ?_ | with_reducible refine below_drewN ?_ _ | with_reducible refine Below.trans ?_ (Below.mono (by assumption) ?_) | omega | ((repeat (first | rw [World.size_alloc] | rw [size_setCell] | rw [size_drewN] | rw [size_drew])); omega) | exact Nat.le_refl _ | (dsimp only; omega) | (simp [World.setCell]; omega)))⟩

namespace fnExactFormatDollars
open Go.ChangeShapes Go.WideShapes Go.ChangeAt Go.RowKit
open Go.ChangeMaps (open_string shut_string)
set_option linter.unusedVariables false
theorem own : ownKnob Try.prog.godebug = none := by kernel_rfl
theorem laidOut : laidOutB Try.prog = true := by kernel_rfl
set_option maxRecDepth 100000 in
theorem lifted (os : Os) (started : os.Started) (H : Type) (enc : TypeId × Value → H) :
    ReturnsInHanded {} Try.checked os 5 .any (Rows.fnExactFormatDollarsSpec.pre6 enc Try.prog Try.f5 Rows.fnExactFormatDollarsRow.domain false) (Rows.fnExactFormatDollarsSpec.post enc Try.prog Try.f5 false true false false) := by
  refine returnsInHanded_of_change (C := Try.checked) own started (by kernel_rfl) Try.func5
    (ChangeSpec.witness6 (enc := enc) (C := Try.checked) false ⟨#[], #[.string ⟨#[]⟩, .bool false], []⟩ 8 (by kernel_rfl) (by kernel_rfl) (by kernel_rfl) (by kernel_rfl)) ?_
  intro W base args ds gs before hval0 hW hcnd _
  have hval : ∀ (j : Nat) t v, Try.f5.params[j]? = some t → args[j]? = some v → Value.okWide Try.prog W .any base t v := hval0
  have hW' := hW
  obtain ⟨p, q, hA0, hV, rfl, hfz, hnd⟩ := hW
  have hA : DataW.TrodAll enc Try.prog W 0 (fun _ => true) true Try.f5.params.toList args.toList ds p := hA0
  rw [Try.params5] at hA hval
  obtain ⟨v0, vs0, d0, ds0, p0, q0, hargs, rfl, rfl, h0, r0⟩ := trodAll_cons hA
  obtain ⟨v1, vs1, d1, ds1, p1, q1, rfl, rfl, rfl, h1, r1⟩ := trodAll_cons r0
  obtain ⟨rfl, rfl, rfl⟩ := trodAll_nil r1
  obtain rfl : args = #[v0, v1] := by cases args; simp_all
  obtain ⟨rfl, rfl⟩ := trodVars_none hV
  have k0 := h0
  have lt0 : ∀ x ∈ p0, x.block < W.heap.size := by obtain ⟨m, hm⟩ := k0; exact DataW.trod_lt m _ _ _ hm
  obtain ⟨a0, rfl, rfl, rfl, w0⟩ := open_string Try.underlying9 (hval 0 9 v0 rfl rfl) h0
  have k1 := h1
  have lt1 : ∀ x ∈ p1, x.block < W.heap.size := by obtain ⟨m, hm⟩ := k1; exact DataW.trod_lt m _ _ _ hm
  obtain ⟨a1, rfl, rfl, rfl⟩ := open_bool Try.underlying4 (hval 1 4 v1 rfl rfl) h1
  clear hA0 hval0
  refine (FnExactFormatDollars_walk a0 a1 W w0).mono fun e W' ⟨he, bel⟩ => ?_
  subst he
  exact ⟨_, rfl, _, _, _, [], _, [], hW', trodAll_mk1 (shut_bool Try.underlying4 _), (trodAll_cons_mk (Below.trod laidOut (by kernel_rfl) (of_decide_eq_true (by kernel_rfl)) k0 bel lt0) (trodAll_cons_mk (Below.trod laidOut (by kernel_rfl) (of_decide_eq_true (by kernel_rfl)) k1 bel lt1) trodAll_mk0)), rfl, bel.frame _, fun h => by cases h⟩
theorem over : Rows.fnExactFormatDollarsRow.holds Try.pinned (OpenSpec.ofChange Rows.fnExactFormatDollarsSpec) :=
  OpenClaim.holds_of_wide 5 Try.f5 rfl rfl rfl rfl rfl rfl rfl ⟨rfl, rfl, rfl, rfl, rfl⟩ rfl rfl rfl rfl rfl (by kernel_rfl) Try.func5 (by kernel_rfl)
    (of_decide_eq_true (by kernel_rfl)) (by unfold Func.isWrapper; first | (rw [if_pos (by decide +kernel)]; kernel_rfl) | (rw [if_neg (by decide +kernel)]; exact ⟨rfl, rfl⟩))
    (fun os started H enc _ => lifted os started H enc)
theorem proved : Rows.FnExactFormatDollarsSaid := over
#print axioms proved
end fnExactFormatDollars

end Go.Proofs.Ytmlckocmfoiobaa
