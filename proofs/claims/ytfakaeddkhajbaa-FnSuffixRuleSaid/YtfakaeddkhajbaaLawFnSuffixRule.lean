/-
  THE CLAIM: the law FnSuffixRule returns true for every code, and its argument reads afterwards as before. Conditions: none beyond the given statement's own.
-/
import Derived.Test.YtfakaeddkhajbaaJoin
import Derived.Test.YtfakaeddkhajbaaSufRule
import Derived.Test.YtfakaeddkhajbaaDrawWord
import Derived.Test.YtfakaeddkhajbaaOpenB
import Derived.Test.YtfakaeddkhajbaaPlainLaws
import Derived.ProofKit
import Derived.OpenShut
import Derived.ShutString
import Derived.ChangeOld
import Derived.Below
import Derived.WalkSmall
import Derived.Test.YtfakaeddkhajbaaOpen
namespace Go.Proofs.Ytfakaeddkhajbaa
open Go.RowKit

set_option maxHeartbeats 800000 in
theorem FnSuffixRule_walk (v : Value) (l : List Int) (w : World) (h : Rows w v l.length 1 (u8s l) ∧ allByte l) :
    Calls Try.prog 6 #[v] w fun e w' => e = .returned (.bool true) ∧ Below w.heap.size w w' := by
  have HC : Code8 w v := ⟨l, h.2, h.1⟩
  obtain ⟨a, cap, rfl, hcap, hmax, _, _, _⟩ := h.1
  unfold maxLen at hmax
  clear h
  by_cases hbig : 65536 < l.length
  · go_enter Try.func6, Try.ntmps6
    go_wp2_with ((go_at_call 14; go_in))
    go_ret
    exact ⟨rfl, (by repeat (first | with_reducible exact Below.refl _ _ | with_reducible assumption | with_reducible refine Below.alloc ?_ ?_ _ | with_reducible refine Below.setCell ?_ ?_ _ | with_reducible refine Below.drew ?_ | with_reducible refine below_drewN ?_ _ | with_reducible refine Below.trans ?_ (Below.mono (by assumption) ?_) | omega | ((repeat (first | rw [World.size_alloc] | rw [size_setCell] | rw [size_drewN] | rw [size_drew])); omega) | exact Nat.le_refl _ | (dsimp only; omega) | (simp [World.setCell]; omega)))⟩
  · go_enter Try.func6, Try.ntmps6
    go_wp2_with (first | (go_at_call 14; go_in) | (go_at_call 31; refine (DrawSuffixRule_any _ _ HC).mono ?_; rintro e w1 ⟨s, t, rfl, hs, ht, hb1⟩; have HC1 := HC.keep hb1; have hs' : s.size ≤ maxLen := (by unfold maxLen; omega); have ht' : t.size ≤ maxLen := (by unfold maxLen; omega)) | (go_at_call 32; refine (SuffixRule_any _ _ _ hs' ht').mono ?_; rintro e w2 ⟨rfl, hb2⟩; have HC2 := HC1.keep hb2) | (go_at_call 33; refine (specSuffixRule_any _ _ _ hs' ht').mono ?_; rintro e w3 ⟨rfl, hb3⟩; have HC3 := HC2.keep hb3) | (go_at_call 34; refine (DrawVowelGroups_any _ _ HC3).mono ?_; rintro e w4 ⟨x, rfl, hx, hb4⟩; have hx' : x.size ≤ maxLen := (by unfold maxLen; omega)) | (go_at_call 35; refine (VowelGroups_any _ _ hx').mono ?_; rintro e w' ⟨rfl, rfl⟩) | (go_at_call 36; refine (specVowelGroups_any _ _ hx').mono ?_; rintro e w' ⟨rfl, rfl⟩))
    have HB : Below w.heap.size w w4 := below_on (below_on (below_on hb1 hb2) hb3) hb4
    clear hb1 hb2 hb3 hb4 HC HC1 HC2 HC3
    cases hj : Pl.joinOk s t
    · cases hk : Pl.ruleOk s t
      · have hz : Pl.ruleOut s t = 0 := by unfold Pl.ruleOut; unfold Pl.ruleOk at hk; rw [hk]; rfl
        rw [hz]
        go_wp2_with (go_at_call 30; refine (JoinSuffix_any _ _ _ hs' ht').mono ?_; rintro e w5 ⟨he, hb5⟩; rw [hj] at he; subst he)
        go_ret
        exact ⟨rfl, below_on HB hb5⟩
      · go_wp2_with (go_at_call 30; refine (JoinSuffix_any _ _ _ hs' ht').mono ?_; rintro e w5 ⟨he, hb5⟩; rw [hj] at he; subst he)
        go_ret
        exact ⟨rfl, below_on HB hb5⟩
    · obtain ⟨hk, hr, ho, hz⟩ := Pl.join_told hj
      rw [hk, hr]
      rcases Pl.rule_cases s t with h0 | h0 | h0 | h0 | h0 | h0 | h0
      · have e0 := Pl.join0 h0
        rw [h0]
        go_wp2_with (go_at_call 30; refine (JoinSuffix_any _ _ _ hs' ht').mono ?_; rintro e w5 ⟨he, hb5⟩; rw [hj, ho, e0] at he; subst he)
        go_ret
        exact ⟨rfl, below_on HB hb5⟩
      · have e0 := Pl.more1 h0
        unfold Pl.more at e0
        rw [h0]
        go_wp2_with (go_at_call 30; refine (JoinSuffix_any _ _ _ hs' ht').mono ?_; rintro e w5 ⟨he, hb5⟩; rw [hj, ho] at he; subst he)
        go_ret
        exact ⟨rfl, below_on HB hb5⟩
      · have e0 := Pl.more2 h0
        unfold Pl.more at e0
        rw [h0]
        go_wp2_with (go_at_call 30; refine (JoinSuffix_any _ _ _ hs' ht').mono ?_; rintro e w5 ⟨he, hb5⟩; rw [hj, ho] at he; subst he)
        go_ret
        exact ⟨rfl, below_on HB hb5⟩
      · have e0 := Pl.more3 h0
        unfold Pl.more at e0
        rw [h0]
        go_wp2_with (go_at_call 30; refine (JoinSuffix_any _ _ _ hs' ht').mono ?_; rintro e w5 ⟨he, hb5⟩; rw [hj, ho] at he; subst he)
        go_ret
        exact ⟨rfl, below_on HB hb5⟩
      · have e0 := Pl.more4 h0
        unfold Pl.more at e0
        rw [h0]
        go_wp2_with (go_at_call 30; refine (JoinSuffix_any _ _ _ hs' ht').mono ?_; rintro e w5 ⟨he, hb5⟩; rw [hj, ho] at he; subst he)
        go_ret
        exact ⟨rfl, below_on HB hb5⟩
      · have e0 := Pl.more5 h0
        unfold Pl.more at e0
        rw [h0]
        go_wp2_with (go_at_call 30; refine (JoinSuffix_any _ _ _ hs' ht').mono ?_; rintro e w5 ⟨he, hb5⟩; rw [hj, ho] at he; subst he)
        go_ret
        exact ⟨rfl, below_on HB hb5⟩
      · have e0 := Pl.more6 h0
        unfold Pl.more at e0
        rw [h0]
        go_wp2_with (go_at_call 30; refine (JoinSuffix_any _ _ _ hs' ht').mono ?_; rintro e w5 ⟨he, hb5⟩; rw [hj, ho] at he; subst he)
        go_ret
        exact ⟨rfl, below_on HB hb5⟩

namespace fnSuffixRule
open Go.ChangeShapes Go.WideShapes Go.ChangeAt Go.RowKit
open Go.ChangeMaps (open_string shut_string)
set_option linter.unusedVariables false
theorem own : ownKnob Try.prog.godebug = none := by kernel_rfl
theorem laidOut : laidOutB Try.prog = true := by kernel_rfl
set_option maxRecDepth 100000 in
theorem lifted (os : Os) (started : os.Started) (H : Type) (enc : TypeId × Value → H) :
    ReturnsInHanded {} Try.checked os 6 .any (Rows.fnSuffixRuleSpec.pre6 enc Try.prog Try.f6 Rows.fnSuffixRuleRow.domain false) (Rows.fnSuffixRuleSpec.post enc Try.prog Try.f6 false true false false) := by
  refine returnsInHanded_of_change (C := Try.checked) own started (by kernel_rfl) Try.func6
    (ChangeSpec.witness6 (enc := enc) (C := Try.checked) false ⟨#[], #[.slice none 0 0], []⟩ 8 (by kernel_rfl) (by kernel_rfl) (by kernel_rfl) (by kernel_rfl)) ?_
  intro W base args ds gs before hval0 hW hcnd _
  have hval : ∀ (j : Nat) t v, Try.f6.params[j]? = some t → args[j]? = some v → Value.okWide Try.prog W .any base t v := hval0
  have hW' := hW
  obtain ⟨p, q, hA0, hV, rfl, hfz, hnd⟩ := hW
  have hA : DataW.TrodAll enc Try.prog W 0 (fun _ => true) true Try.f6.params.toList args.toList ds p := hA0
  rw [Try.params6] at hA hval
  obtain ⟨v0, vs0, d0, ds0, p0, q0, hargs, rfl, rfl, h0, r0⟩ := trodAll_cons hA
  obtain ⟨rfl, rfl, rfl⟩ := trodAll_nil r0
  obtain rfl : args = #[v0] := by cases args; simp_all
  obtain ⟨rfl, rfl⟩ := trodVars_none hV
  have k0 := h0
  have lt0 : ∀ x ∈ p0, x.block < W.heap.size := by obtain ⟨m, hm⟩ := k0; exact DataW.trod_lt m _ _ _ hm
  obtain ⟨a0, w0⟩ := (fun W v hv h => open_bytesR (w := W) (v := v) Try.underlying22 Try.underlying5 (by kernel_rfl) hv h) W v0 (hval 0 22 v0 rfl rfl) h0
  clear hA0 hval0
  refine (FnSuffixRule_walk v0 a0 W w0).mono fun e W' ⟨he, bel⟩ => ?_
  subst he
  exact ⟨_, rfl, _, _, _, [], _, [], hW', trodAll_mk1 (shut_bool Try.underlying4 _), (trodAll_cons_mk (Below.trod laidOut (by kernel_rfl) (of_decide_eq_true (by kernel_rfl)) k0 bel lt0) trodAll_mk0), rfl, bel.frame _, fun h => by cases h⟩
theorem over : Rows.fnSuffixRuleRow.holds Try.pinned (OpenSpec.ofChange Rows.fnSuffixRuleSpec) :=
  OpenClaim.holds_of_wide 6 Try.f6 rfl rfl rfl rfl rfl rfl rfl ⟨rfl, rfl, rfl, rfl, rfl⟩ rfl rfl rfl rfl rfl (by kernel_rfl) Try.func6 (by kernel_rfl)
    (of_decide_eq_true (by kernel_rfl)) (by unfold Func.isWrapper; first | (rw [if_pos (by decide +kernel)]; kernel_rfl) | (rw [if_neg (by decide +kernel)]; exact ⟨rfl, rfl⟩))
    (fun os started H enc _ => lifted os started H enc)
theorem proved : Rows.FnSuffixRuleSaid := over
#print axioms proved
end fnSuffixRule

end Go.Proofs.Ytfakaeddkhajbaa
