/-
  THE CLAIM: the law FnExactFormatOrdinal returns true for every input, and its argument reads afterwards as before. Conditions: none beyond the given statement's own.
-/
import Derived.Test.YtpdmhkmomfjcmaaNum
import Derived.ProofKit
import Derived.OpenShut
import Derived.ShutString
import Derived.ChangeOld
import Derived.Below
import Derived.WalkSmall
import Derived.Test.YtpdmhkmomfjcmaaOpen
namespace Go.Proofs.Ytpdmhkmomfjcmaa
open Go.RowKit

set_option maxHeartbeats 800000 in
theorem FormatOrdinal_any (s : ByteArray) (w : World) (hs : s.size ≤ 1048576) :
    Calls Try.prog 30 #[.string s] w fun e w' => e = .returned (.tuple #[.string (Pl.ordinal s), .bool (Pl.isNumber s)]) ∧ w = w' := by
  have hs' : s.size ≤ maxLen := by unfold maxLen; omega
  cases hn : Pl.isNumber s
  · have E := Lib.hid (show Pl.ordinal s = ⟨#[]⟩ by simp [Pl.ordinal, hn])
    go_enter Try.func30, Try.ntmps30
    go_wp2_with ((go_at_call 62; refine (isNumber_any _ _ hs').mono ?_; rintro e w' ⟨rfl, rfl⟩))
    go_ret2
    exact ⟨ret_strb E.out.symm rfl, rfl⟩
  · have E := Lib.hid hn
    have hp := Pl.digitsOk_pos (Pl.isNumber_digits hn)
    have e1 := Pl.byteAt_eq s (s.size - 1) (by omega)
    by_cases h2 : 2 ≤ s.size
    · have e2 := Pl.byteAt_eq s (s.size - 2) (by omega)
      go_enter Try.func30, Try.ntmps30
      go_wp2_with ((go_at_call 62; refine (isNumber_any _ _ hs').mono ?_; rintro e w' ⟨rfl, rfl⟩))
      all_goals go_ret2
      all_goals exact ⟨ret_strb (by simp_all [Pl.ordinal]; try omega) rfl, rfl⟩
    · go_enter Try.func30, Try.ntmps30
      go_wp2_with ((go_at_call 62; refine (isNumber_any _ _ hs').mono ?_; rintro e w' ⟨rfl, rfl⟩))
      all_goals go_ret2
      all_goals exact ⟨ret_strb (by simp_all [Pl.ordinal]; try omega) rfl, rfl⟩

set_option maxHeartbeats 800000 in
theorem specFormatOrdinal_any (s : ByteArray) (w : World) (hs : s.size ≤ 1048576) :
    Calls Try.prog 29 #[.string s] w fun e w' => e = .returned (.tuple #[.string (Pl.ordinal s), .bool (Pl.isNumber s)]) ∧ w = w' := by
  have hs' : s.size ≤ maxLen := by unfold maxLen; omega
  cases hn : Pl.isNumber s
  · have E := Lib.hid (show Pl.ordinal s = ⟨#[]⟩ by simp [Pl.ordinal, hn])
    go_enter Try.func29, Try.ntmps29
    go_wp2_with ((go_at_call 60; refine (l15Number_any _ _ hs').mono ?_; rintro e w' ⟨rfl, rfl⟩))
    go_ret2
    exact ⟨ret_strb E.out.symm rfl, rfl⟩
  · have hp := Pl.digitsOk_pos (Pl.isNumber_digits hn)
    have e1 := Pl.byteAt_eq s (s.size - 1) (by omega)
    by_cases h2 : 2 ≤ s.size
    · have e2 := Pl.byteAt_eq s (s.size - 2) (by omega)
      go_enter Try.func29, Try.ntmps29
      go_wp2_with ((go_at_call 60; refine (l15Number_any _ _ hs').mono ?_; rintro e w' ⟨rfl, rfl⟩))
      all_goals go_ret2
      all_goals exact ⟨ret_strb (by simp_all [Pl.ordinal]; try omega) rfl, rfl⟩
    · go_enter Try.func29, Try.ntmps29
      go_wp2_with ((go_at_call 60; refine (l15Number_any _ _ hs').mono ?_; rintro e w' ⟨rfl, rfl⟩))
      all_goals go_ret2
      all_goals exact ⟨ret_strb (by simp_all [Pl.ordinal]; try omega) rfl, rfl⟩

set_option maxHeartbeats 400000 in
theorem FnExactFormatOrdinal_walk (s : ByteArray) (w : World) (hs : s.size ≤ maxLen) :
    Calls Try.prog 8 #[.string s] w fun e w' => e = .returned (.bool true) ∧ Below w.heap.size w w' := by
  unfold maxLen at hs
  by_cases hsz : s.size ≤ 1048576
  · go_enter Try.func8, Try.ntmps8
    go_wp2_with (first | (go_at_call 30; refine (FormatOrdinal_any _ _ hsz).mono ?_; rintro e w' ⟨rfl, rfl⟩) | (go_at_call 29; refine (specFormatOrdinal_any _ _ hsz).mono ?_; rintro e w' ⟨rfl, rfl⟩))
    all_goals go_ret
    all_goals exact ⟨rfl, (by repeat (first | with_reducible exact Below.refl _ _ | with_reducible assumption | with_reducible refine Below.alloc ?_ ?_ _ | with_reducible refine Below.setCell ?_ ?_ _ | with_reducible refine Below.drew ?_ | with_reducible refine below_drewN ?_ _ | with_reducible refine Below.trans ?_ (Below.mono (by assumption) ?_) | omega | (simp only [World.size_alloc]; omega) | (simp only [World.size_alloc, World.setCell, Array.size_modify]; omega) | (simp [World.setCell]; omega) | (simp [World.setCell]; done)))⟩
  · go_enter Try.func8, Try.ntmps8
    go_wp2_with fail
    all_goals go_ret
    all_goals exact ⟨rfl, (by repeat (first | with_reducible exact Below.refl _ _ | with_reducible assumption | with_reducible refine Below.alloc ?_ ?_ _ | with_reducible refine Below.setCell ?_ ?_ _ | with_reducible refine Below.drew ?_ | with_reducible refine below_drewN ?_ _ | with_reducible refine Below.trans ?_ (Below.mono (by assumption) ?_) | omega | (simp only [World.size_alloc]; omega) | (simp only [World.size_alloc, World.setCell, Array.size_modify]; omega) | (simp [World.setCell]; omega) | (simp [World.setCell]; done)))⟩

namespace fnExactFormatOrdinal
open Go.ChangeShapes Go.WideShapes Go.ChangeAt Go.RowKit
open Go.ChangeMaps (open_string shut_string)
set_option linter.unusedVariables false
theorem own : ownKnob Try.prog.godebug = none := by kernel_rfl
theorem laidOut : laidOutB Try.prog = true := by kernel_rfl
set_option maxRecDepth 100000 in
theorem lifted (os : Os) (started : os.Started) (H : Type) (enc : TypeId × Value → H) :
    ReturnsInHanded {} Try.checked os 8 .any (Rows.fnExactFormatOrdinalSpec.pre6 enc Try.prog Try.f8 Rows.fnExactFormatOrdinalRow.domain false) (Rows.fnExactFormatOrdinalSpec.post enc Try.prog Try.f8 false true false false) := by
  refine returnsInHanded_of_change (C := Try.checked) own started (by kernel_rfl) Try.func8
    (ChangeSpec.witness6 (enc := enc) (C := Try.checked) false ⟨#[], #[.string ⟨#[]⟩], []⟩ 8 (by kernel_rfl) (by kernel_rfl) (by kernel_rfl) (by kernel_rfl)) ?_
  intro W base args ds gs before hval0 hW hcnd _
  have hval : ∀ (j : Nat) t v, Try.f8.params[j]? = some t → args[j]? = some v → Value.okWide Try.prog W .any base t v := hval0
  have hW' := hW
  obtain ⟨p, q, hA0, hV, rfl, hfz, hnd⟩ := hW
  have hA : DataW.TrodAll enc Try.prog W 0 (fun _ => true) true Try.f8.params.toList args.toList ds p := hA0
  rw [Try.params8] at hA hval
  obtain ⟨v0, vs0, d0, ds0, p0, q0, hargs, rfl, rfl, h0, r0⟩ := trodAll_cons hA
  obtain ⟨rfl, rfl, rfl⟩ := trodAll_nil r0
  obtain rfl : args = #[v0] := by cases args; simp_all
  obtain ⟨rfl, rfl⟩ := trodVars_none hV
  have k0 := h0
  have lt0 : ∀ x ∈ p0, x.block < W.heap.size := by obtain ⟨m, hm⟩ := k0; exact DataW.trod_lt m _ _ _ hm
  obtain ⟨a0, rfl, rfl, rfl, w0⟩ := open_string Try.underlying9 (hval 0 9 v0 rfl rfl) h0
  clear hA0 hval0
  refine (FnExactFormatOrdinal_walk a0 W w0).mono fun e W' ⟨he, bel⟩ => ?_
  subst he
  exact ⟨_, rfl, _, _, _, [], _, [], hW', trodAll_mk1 (shut_bool Try.underlying4 _), (trodAll_cons_mk (Below.trod laidOut (by kernel_rfl) (of_decide_eq_true (by kernel_rfl)) k0 bel lt0) trodAll_mk0), rfl, bel.frame _, fun h => by cases h⟩
theorem over : Rows.fnExactFormatOrdinalRow.holds Try.pinned (OpenSpec.ofChange Rows.fnExactFormatOrdinalSpec) :=
  OpenClaim.holds_of_wide 8 Try.f8 rfl rfl rfl rfl rfl rfl rfl ⟨rfl, rfl, rfl, rfl, rfl⟩ rfl rfl rfl rfl rfl (by kernel_rfl) Try.func8 (by kernel_rfl)
    (of_decide_eq_true (by kernel_rfl)) (by unfold Func.isWrapper; first | (rw [if_pos (by decide +kernel)]; kernel_rfl) | (rw [if_neg (by decide +kernel)]; exact ⟨rfl, rfl⟩))
    (fun os started H enc _ => lifted os started H enc)
theorem proved : Rows.FnExactFormatOrdinalSaid := over
#print axioms proved
end fnExactFormatOrdinal

end Go.Proofs.Ytpdmhkmomfjcmaa
