/-
  THE CLAIM: the law FnExactFormatClock returns true for every input, and its argument reads afterwards as before. Conditions: none beyond the given statement's own.
-/
import Derived.Test.YtpdmhkmomfjcmaaNum
import Derived.Test.YtpdmhkmomfjcmaaNumText
import Derived.ProofKit
import Derived.OpenShut
import Derived.ShutString
import Derived.ChangeOld
import Derived.Below
import Derived.WalkSmall
import Derived.Test.YtpdmhkmomfjcmaaOpen
namespace Go.Proofs.Ytpdmhkmomfjcmaa
open Go.RowKit

set_option maxHeartbeats 800000 in
theorem FormatClock_no (s : ByteArray) (w : World) (hs : s.size ≤ 1048576) (h : Pl.digitsOk s = false ∨ Pl.inB s.size 3 4 = false) :
    Calls Try.prog 50 #[.string s] w fun e w' => e = .returned (.tuple #[.string (Pl.clockOut s), .bool (Pl.clockOk s)]) ∧ Drew w w' := by
  have hs' : s.size ≤ maxLen := by unfold maxLen; omega
  obtain ⟨h1, h2⟩ := Pl.clock_no h
  have E1 := Lib.hid h1; have E2 := Lib.hid h2; clear h1 h2
  cases hd : Pl.digitsOk s
  · go_enter Try.func50, Try.ntmps50
    go_wp2_with (first | (go_at_call 85; refine (areDigits_any _ _ hs').mono ?_; rintro e w' ⟨rfl, rfl⟩) | (go_at_call 54; refine (in_any _ _ _ _).mono ?_; rintro e w' ⟨rfl, rfl⟩))
    go_ret2
    exact ⟨ret_strb E2.out.symm E1.out.symm, Drew.refl _⟩
  · have h3 : Pl.inB s.size 3 4 = false := by rcases h with h | h; · rw [hd] at h; cases h
                                              · exact h
    clear h
    go_enter Try.func50, Try.ntmps50
    go_wp2_with (first | (go_at_call 85; refine (areDigits_any _ _ hs').mono ?_; rintro e w' ⟨rfl, rfl⟩) | (go_at_call 54; refine (in_any _ _ _ _).mono ?_; rintro e w' ⟨rfl, rfl⟩))
    go_ret2
    exact ⟨ret_strb E2.out.symm E1.out.symm, Drew.refl _⟩

set_option maxHeartbeats 3200000 in
theorem FormatClock_four (s : ByteArray) (w : World) (hd : Pl.digitsOk s = true) (h4 : s.size = 4) :
    Calls Try.prog 50 #[.string s] w fun e w' => e = .returned (.tuple #[.string (Pl.clockOut s), .bool (Pl.clockOk s)]) ∧ Drew w w' := by
  have hs' : s.size ≤ maxLen := by unfold maxLen; omega
  obtain ⟨h1, h2, _, _⟩ := Pl.clock4 hd h4
  have e0 := Pl.byteAt_eq (s.extract 0 2) 0 (by simp; omega)
  have hin : Pl.inB (4 : Int) 3 4 = true := rfl
  have E3 : Hid (Pl.clockOk s = true → Pl.clockOut s = (if Pl.byteAt (s.extract 0 2) 0 = 48 then (s.extract 0 2).extract 1 2 else s.extract 0 2) ++ ⟨#[58]⟩ ++ s.extract 2 4) := by
    intro h; rw [Pl.clockOut, if_pos h, h2, h4]
  have E4 : Hid (Pl.clockOk s = false → Pl.clockOut s = ⟨#[]⟩) := by
    intro h; rw [Pl.clockOut, h]; rfl
  clear h2
  cases c1 : Op.bytesLess (s.extract 0 2).toList [50, 51] <;> cases c2 : ((s.extract 0 2).toList == [50, 51]) <;> cases c3 : Op.bytesLess (s.extract 2 4).toList [53, 57] <;> cases c4 : ((s.extract 2 4).toList == [53, 57])
  all_goals
    rw [c1, c2, c3, c4] at h1
    have E1 := Lib.hid h1
    clear h1
    go_enter Try.func50, Try.ntmps50
    go_wp2_with (first | (go_at_call 85; refine (areDigits_any _ _ hs').mono ?_; rintro e w' ⟨rfl, rfl⟩) | (go_at_call 54; refine (in_any _ _ _ _).mono ?_; rintro e w' ⟨rfl, rfl⟩))
    go_quiet (fail)
    go_wp2
    all_goals go_ret2
    all_goals exact ⟨ret_strb (by first | exact (E4.out E1.out).symm | (rw [E3.out E1.out]; simp_all)) E1.out.symm, ⟨_, rfl⟩⟩

set_option maxHeartbeats 1600000 in
theorem FormatClock_three (s : ByteArray) (w : World) (hd : Pl.digitsOk s = true) (h3 : s.size = 3) :
    Calls Try.prog 50 #[.string s] w fun e w' => e = .returned (.tuple #[.string (Pl.clockOut s), .bool (Pl.clockOk s)]) ∧ Drew w w' := by
  have hs' : s.size ≤ maxLen := by unfold maxLen; omega
  obtain ⟨h1, h2, _, _⟩ := Pl.clock3 hd h3
  have hin : Pl.inB (3 : Int) 3 4 = true := rfl
  have E3 : Hid (Pl.clockOk s = true → Pl.clockOut s = s.extract 0 1 ++ ⟨#[58]⟩ ++ s.extract 1 3) := by
    intro h; rw [Pl.clockOut, if_pos h, h2, h3]
  have E4 : Hid (Pl.clockOk s = false → Pl.clockOut s = ⟨#[]⟩) := by
    intro h; rw [Pl.clockOut, h]; rfl
  clear h2
  cases c3 : Op.bytesLess (s.extract 1 3).toList [53, 57] <;> cases c4 : ((s.extract 1 3).toList == [53, 57])
  all_goals
    rw [c3, c4] at h1
    have E1 := Lib.hid h1
    clear h1
    go_enter Try.func50, Try.ntmps50
    go_wp2_with (first | (go_at_call 85; refine (areDigits_any _ _ hs').mono ?_; rintro e w' ⟨rfl, rfl⟩) | (go_at_call 54; refine (in_any _ _ _ _).mono ?_; rintro e w' ⟨rfl, rfl⟩))
    go_quiet (fail)
    go_wp2
    all_goals go_ret2
    all_goals exact ⟨ret_strb (by first | exact (E4.out E1.out).symm | (rw [E3.out E1.out])) E1.out.symm, ⟨_, rfl⟩⟩

theorem FormatClock_any (s : ByteArray) (w : World) (hs : s.size ≤ 1048576) :
    Calls Try.prog 50 #[.string s] w fun e w' => e = .returned (.tuple #[.string (Pl.clockOut s), .bool (Pl.clockOk s)]) ∧ Drew w w' := by
  cases hd : Pl.digitsOk s
  · exact FormatClock_no s w hs (.inl hd)
  · by_cases h3 : s.size = 3
    · exact FormatClock_three s w hd h3
    · by_cases h4 : s.size = 4
      · exact FormatClock_four s w hd h4
      · exact FormatClock_no s w hs (.inr (by simp [Pl.inB]; omega))

set_option maxHeartbeats 800000 in
theorem specFormatClock_no (s : ByteArray) (w : World) (hs : s.size ≤ 1048576) (h : Pl.digitsOk s = false ∨ Pl.inB s.size 3 4 = false) :
    Calls Try.prog 49 #[.string s] w fun e w' => e = .returned (.tuple #[.string (Pl.clockOut s), .bool (Pl.clockOk s)]) ∧ Drew w w' := by
  have hs' : s.size ≤ maxLen := by unfold maxLen; omega
  obtain ⟨h1, h2⟩ := Pl.clock_no h
  have E1 := Lib.hid h1; have E2 := Lib.hid h2; clear h1 h2
  cases hd : Pl.digitsOk s
  · go_enter Try.func49, Try.ntmps49
    go_wp2_with (first | (go_at_call 82; refine (l15All_any _ _ hs').mono ?_; rintro e w' ⟨rfl, rfl⟩) | (go_at_call 83; refine (l1In_any _ _ _ _).mono ?_; rintro e w' ⟨rfl, rfl⟩))
    go_ret2
    exact ⟨ret_strb E2.out.symm E1.out.symm, Drew.refl _⟩
  · have h3 : Pl.inB s.size 3 4 = false := by rcases h with h | h; · rw [hd] at h; cases h
                                              · exact h
    clear h
    go_enter Try.func49, Try.ntmps49
    go_wp2_with (first | (go_at_call 82; refine (l15All_any _ _ hs').mono ?_; rintro e w' ⟨rfl, rfl⟩) | (go_at_call 83; refine (l1In_any _ _ _ _).mono ?_; rintro e w' ⟨rfl, rfl⟩))
    go_ret2
    exact ⟨ret_strb E2.out.symm E1.out.symm, Drew.refl _⟩

set_option maxHeartbeats 1600000 in
theorem specFormatClock_yes (s : ByteArray) (w : World) (hd : Pl.digitsOk s = true) (h3 : 3 ≤ s.size) (h4 : s.size ≤ 4) :
    Calls Try.prog 49 #[.string s] w fun e w' => e = .returned (.tuple #[.string (Pl.clockOut s), .bool (Pl.clockOk s)]) ∧ Drew w w' := by
  have hs' : s.size ≤ maxLen := by unfold maxLen; omega
  have hall := Pl.digitsOk_all hd
  have hin : Pl.inB (s.size : Int) 3 4 = true := by simp [Pl.inB]; omega
  have HH := Lib.hid (show Pl.numFrom s 0 (s.size - 2) = Pl.hourOf s from rfl)
  have HM := Lib.hid (show Pl.numFrom s (s.size - 2) 2 = Pl.minOf s from rfl)
  have hhb := Pl.numFrom_bd hd (a := 0) (k := s.size - 2) (by omega) (by omega)
  have hmb := Pl.numFrom_bd hd (a := s.size - 2) (k := 2) (by omega) (by omega)
  have HALL := Lib.hid hall
  have HD := Lib.hid hd
  clear hall
  go_enter Try.func49, Try.ntmps49
  go_wp2_with (first | (go_at_call 82; refine (l15All_any _ _ hs').mono ?_; rintro e w' ⟨rfl, rfl⟩) | (go_at_call 83; refine (l1In_any _ _ _ _).mono ?_; rintro e w' ⟨rfl, rfl⟩))
  go_loop [5, 7] (fun h i => ∃ k : Nat, k ≤ s.size - 2 ∧ i = .int .i64 k ∧ h = .int .i64 (Pl.numFrom s 0 k)) (fun _ i => s.size - (intOf i).toNat)
  case atStart => exact ⟨0, Nat.zero_le _, rfl, rfl⟩
  case round =>
    obtain ⟨k, hk, rfl, rfl⟩ := hrel
    by_cases hlt : k < s.size - 2
    · have hb := Pl.numFrom_bd HD.out (a := 0) (k := k) (by omega) (by omega)
      have hb9 := hb.2.2 (by omega)
      have hdg := Pl.byteAt_of_allIn HALL.out (show k < s.size by omega)
      have e1 := Pl.byteAt_eq s k (by omega)
      have E := Lib.hid (show Pl.numFrom s 0 (k + 1) = 10 * Pl.numFrom s 0 k + (Pl.byteAt s k - 48) by rw [Pl.numFrom, Nat.zero_add])
      obtain ⟨hb1, hb2, _⟩ := hb
      obtain ⟨hd1, hd2⟩ := hdg
      have hlt' : (k : Int) < (s.size : Int) - 2 := by omega
      have hw8 : IntKind.u8.wrap (Pl.byteAt s k - 48) = Pl.byteAt s k - 48 := by simp [IntKind.wrap, IntKind.bits, IntKind.signed]; omega
      go_wp2
      go_round
      case rel => exact ⟨k + 1, by omega, by go_num, by rw [E.out]⟩
      case measure => simp [intOf]; omega
    · obtain rfl : k = s.size - 2 := by omega
      have hge : (s.size : Int) - 2 ≤ ((s.size - 2 : Nat) : Int) := by omega
      have eh : Pl.numFrom s 0 (s.size - 2) = Pl.hourOf s := HH.out
      clear hlt
      go_wp2
      go_loop [6, 8] (fun h i => ∃ j : Nat, s.size - 2 ≤ j ∧ j ≤ s.size ∧ i = .int .i64 j ∧ h = .int .i64 (Pl.numFrom s (s.size - 2) (j - (s.size - 2)))) (fun _ i => s.size - (intOf i).toNat)
      case atStart => exact ⟨s.size - 2, Nat.le_refl _, by omega, by go_num, by rw [Nat.sub_self]; rfl⟩
      case round =>
        obtain ⟨j, hj1, hj2, rfl, rfl⟩ := hrel
        by_cases hlt : j < s.size
        · have hb := Pl.numFrom_bd HD.out (a := s.size - 2) (k := j - (s.size - 2)) (by omega) (by omega)
          have hb9 := hb.2.2 (by omega)
          have hdg := Pl.byteAt_of_allIn HALL.out hlt
          have e1 := Pl.byteAt_eq s j hlt
          have E := Lib.hid (show Pl.numFrom s (s.size - 2) (j + 1 - (s.size - 2)) = 10 * Pl.numFrom s (s.size - 2) (j - (s.size - 2)) + (Pl.byteAt s j - 48) by
            rw [show j + 1 - (s.size - 2) = (j - (s.size - 2)) + 1 by omega, Pl.numFrom, show s.size - 2 + (j - (s.size - 2)) = j by omega])
          obtain ⟨hb1, hb2, _⟩ := hb
          obtain ⟨hd1, hd2⟩ := hdg
          have hw8 : IntKind.u8.wrap (Pl.byteAt s j - 48) = Pl.byteAt s j - 48 := by simp [IntKind.wrap, IntKind.bits, IntKind.signed]; omega
          go_wp2
          go_round
          case rel => exact ⟨j + 1, by omega, by omega, by go_num, by rw [E.out]⟩
          case measure => simp [intOf]; omega
        · obtain rfl : j = s.size := by omega
          have em : Pl.numFrom s (s.size - 2) (s.size - (s.size - 2)) = Pl.minOf s := by
            rw [show s.size - (s.size - 2) = 2 by omega]; rfl
          have hh0 : 0 ≤ Pl.hourOf s := hhb.1
          have hh1 : Pl.hourOf s ≤ 99 := hhb.2.1
          have hz := Pl.num_size_int hh0
          have ht2 : ((s.size : Int) - 2).toNat = s.size - 2 := by omega
          by_cases hg1 : 23 < Pl.hourOf s
          · have E1 := Lib.hid (Pl.clockOk_over (.inl hg1))
            have E2 : Hid (Pl.clockOut s = ⟨#[]⟩) := by
              show _ = _
              rw [Pl.clockOut, E1.out]; rfl
            go_wp2
            go_ret2
            exact ⟨ret_strb E2.out.symm E1.out.symm, Drew.refl _⟩
          by_cases hg2 : 59 < Pl.minOf s
          · have E1 := Lib.hid (Pl.clockOk_over (.inr hg2))
            have E2 : Hid (Pl.clockOut s = ⟨#[]⟩) := by
              show _ = _
              rw [Pl.clockOut, E1.out]; rfl
            go_wp2
            go_ret2
            exact ⟨ret_strb E2.out.symm E1.out.symm, Drew.refl _⟩
          · have hl1 : Pl.hourOf s ≤ 23 := by omega
            have hl2 : Pl.minOf s ≤ 59 := by omega
            have E1 := Lib.hid (Pl.clockOk_within HD.out hin hl1 hl2)
            have E2 : Hid (Pl.clockOut s = Pl.num (Pl.hourOf s) ++ ⟨#[58]⟩ ++ s.extract (s.size - 2) s.size) := by
              show _ = _
              rw [Pl.clockOut, E1.out]; rfl
            go_wp2
            go_quiet ((go_at_call 84; exact Calls.quiet_of (l1Num_nat _ _ hh0 (by omega))))
            go_wp2
            go_ret2
            exact ⟨ret_strb E2.out.symm E1.out.symm, ⟨_, rfl⟩⟩

theorem specFormatClock_any (s : ByteArray) (w : World) (hs : s.size ≤ 1048576) :
    Calls Try.prog 49 #[.string s] w fun e w' => e = .returned (.tuple #[.string (Pl.clockOut s), .bool (Pl.clockOk s)]) ∧ Drew w w' := by
  cases hd : Pl.digitsOk s
  · exact specFormatClock_no s w hs (.inl hd)
  · by_cases h : 3 ≤ s.size ∧ s.size ≤ 4
    · exact specFormatClock_yes s w hd h.1 h.2
    · exact specFormatClock_no s w hs (.inr (by simp [Pl.inB]; omega))

set_option maxHeartbeats 400000 in
theorem FnExactFormatClock_walk (s : ByteArray) (w : World) (hs : s.size ≤ maxLen) :
    Calls Try.prog 13 #[.string s] w fun e w' => e = .returned (.bool true) ∧ Below w.heap.size w w' := by
  unfold maxLen at hs
  by_cases hsz : s.size ≤ 1048576
  · go_enter Try.func13, Try.ntmps13
    go_wp2_with (first | (go_at_call 50; refine (FormatClock_any _ _ hsz).mono ?_; rintro e w' ⟨rfl, n1, rfl⟩) | (go_at_call 49; refine (specFormatClock_any _ _ hsz).mono ?_; rintro e w' ⟨rfl, n1, rfl⟩))
    all_goals go_ret
    all_goals exact ⟨rfl, (by repeat (first | with_reducible exact Below.refl _ _ | with_reducible assumption | with_reducible refine Below.alloc ?_ ?_ _ | with_reducible refine Below.setCell ?_ ?_ _ | with_reducible refine Below.drew ?_ | with_reducible refine below_drewN ?_ _ | with_reducible refine Below.trans ?_ (Below.mono (by assumption) ?_) | omega | ((repeat (first | rw [World.size_alloc] | rw [size_setCell] | rw [size_drewN] | rw [size_drew])); omega) | exact Nat.le_refl _ | (dsimp only; omega) | (simp [World.setCell]; omega)))⟩
  · go_enter Try.func13, Try.ntmps13
    go_wp2_with fail
    all_goals go_ret
    all_goals exact ⟨rfl, (by repeat (first | with_reducible exact Below.refl _ _ | with_reducible assumption | with_reducible refine Below.alloc ?_ ?_ _ | with_reducible refine Below.setCell ?_ ?_ _ | with_reducible refine Below.drew ?_ | with_reducible refine below_drewN ?_ _ | with_reducible refine Below.trans ?_ (Below.mono (by assumption) ?_) | omega | ((repeat (first | rw [World.size_alloc] | rw [size_setCell] | rw [size_drewN] | rw [size_drew])); omega) | exact Nat.le_refl _ | (dsimp only; omega) | (simp [World.setCell]; omega)))⟩

namespace fnExactFormatClock
open Go.ChangeShapes Go.WideShapes Go.ChangeAt Go.RowKit
open Go.ChangeMaps (open_string shut_string)
set_option linter.unusedVariables false
theorem own : ownKnob Try.prog.godebug = none := by kernel_rfl
theorem laidOut : laidOutB Try.prog = true := by kernel_rfl
set_option maxRecDepth 100000 in
theorem lifted (os : Os) (started : os.Started) (H : Type) (enc : TypeId × Value → H) :
    ReturnsInHanded {} Try.checked os 13 .any (Rows.fnExactFormatClockSpec.pre6 enc Try.prog Try.f13 Rows.fnExactFormatClockRow.domain false) (Rows.fnExactFormatClockSpec.post enc Try.prog Try.f13 false true false false) := by
  refine returnsInHanded_of_change (C := Try.checked) own started (by kernel_rfl) Try.func13
    (ChangeSpec.witness6 (enc := enc) (C := Try.checked) false ⟨#[], #[.string ⟨#[]⟩], []⟩ 8 (by kernel_rfl) (by kernel_rfl) (by kernel_rfl) (by kernel_rfl)) ?_
  intro W base args ds gs before hval0 hW hcnd _
  have hval : ∀ (j : Nat) t v, Try.f13.params[j]? = some t → args[j]? = some v → Value.okWide Try.prog W .any base t v := hval0
  have hW' := hW
  obtain ⟨p, q, hA0, hV, rfl, hfz, hnd⟩ := hW
  have hA : DataW.TrodAll enc Try.prog W 0 (fun _ => true) true Try.f13.params.toList args.toList ds p := hA0
  rw [Try.params13] at hA hval
  obtain ⟨v0, vs0, d0, ds0, p0, q0, hargs, rfl, rfl, h0, r0⟩ := trodAll_cons hA
  obtain ⟨rfl, rfl, rfl⟩ := trodAll_nil r0
  obtain rfl : args = #[v0] := by cases args; simp_all
  obtain ⟨rfl, rfl⟩ := trodVars_none hV
  have k0 := h0
  have lt0 : ∀ x ∈ p0, x.block < W.heap.size := by obtain ⟨m, hm⟩ := k0; exact DataW.trod_lt m _ _ _ hm
  obtain ⟨a0, rfl, rfl, rfl, w0⟩ := open_string Try.underlying9 (hval 0 9 v0 rfl rfl) h0
  clear hA0 hval0
  refine (FnExactFormatClock_walk a0 W w0).mono fun e W' ⟨he, bel⟩ => ?_
  subst he
  exact ⟨_, rfl, _, _, _, [], _, [], hW', trodAll_mk1 (shut_bool Try.underlying4 _), (trodAll_cons_mk (Below.trod laidOut (by kernel_rfl) (of_decide_eq_true (by kernel_rfl)) k0 bel lt0) trodAll_mk0), rfl, bel.frame _, fun h => by cases h⟩
theorem over : Rows.fnExactFormatClockRow.holds Try.pinned (OpenSpec.ofChange Rows.fnExactFormatClockSpec) :=
  OpenClaim.holds_of_wide 13 Try.f13 rfl rfl rfl rfl rfl rfl rfl ⟨rfl, rfl, rfl, rfl, rfl⟩ rfl rfl rfl rfl rfl (by kernel_rfl) Try.func13 (by kernel_rfl)
    (of_decide_eq_true (by kernel_rfl)) (by unfold Func.isWrapper; first | (rw [if_pos (by decide +kernel)]; kernel_rfl) | (rw [if_neg (by decide +kernel)]; exact ⟨rfl, rfl⟩))
    (fun os started H enc _ => lifted os started H enc)
theorem proved : Rows.FnExactFormatClockSaid := over
#print axioms proved
end fnExactFormatClock

end Go.Proofs.Ytpdmhkmomfjcmaa
