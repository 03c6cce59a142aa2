/-
  THE CLAIM: the law FnExactNewState returns true for every input, and its argument reads afterwards as before. Conditions: none beyond the given statement's own.
-/
import Derived.Test.YtmlckocmfoiobaaState
import Derived.ProofKit
import Derived.OpenShut
import Derived.ShutString
import Derived.ChangeOld
import Derived.Below
import Derived.WalkSmall
import Derived.Test.YtmlckocmfoiobaaOpen
namespace Go.Proofs.Ytmlckocmfoiobaa
open Go.RowKit

set_option maxHeartbeats 400000 in
theorem FnExactNewState_walk (t : ByteArray) (w : World) (ht : t.size ≤ maxLen) :
    Calls Try.prog 4 #[.string t] w fun e w' => e = .returned (.bool true) ∧ Below w.heap.size w w' := by
  have ht' := ht
  unfold maxLen at ht
  go_enter Try.func4, Try.ntmps4
  go_wp2_with (first | (go_at_call 18; refine (NewState_any _ _ ht').mono ?_; rintro e w1 ⟨rfl, hb1⟩; have hcf := bcell hb1; have hz1 := hb1.size; (repeat (first | simp only [World.size_alloc] at hz1 hcf | simp only [size_setCell] at hz1 hcf | simp only [size_drewN] at hz1 hcf | simp only [size_drew] at hz1 hcf)); obtain ⟨hc1, hf1⟩ := hcf; (try have htA : w.heap.size < w1.heap.size := by omega); (try have htB : w.heap.size + 1 < w1.heap.size := by omega); (try have htC : w.heap.size + 2 < w1.heap.size := by omega); (try have htA : w2.heap.size < w1.heap.size := by omega); (try have htB : w2.heap.size + 1 < w1.heap.size := by omega); (try have htC : w2.heap.size + 2 < w1.heap.size := by omega); (try have htA : w3.heap.size < w1.heap.size := by omega); (try have htB : w3.heap.size + 1 < w1.heap.size := by omega); (try have htC : w3.heap.size + 2 < w1.heap.size := by omega)) | (go_at_call 17; refine (specNewState_any _ _ ht').mono ?_; rintro e w2 ⟨rfl, hb2⟩; have hcf := bcell hb2; have hz2 := hb2.size; (repeat (first | simp only [World.size_alloc] at hz2 hcf | simp only [size_setCell] at hz2 hcf | simp only [size_drewN] at hz2 hcf | simp only [size_drew] at hz2 hcf)); obtain ⟨hc2, hf2⟩ := hcf; (try have htA : w.heap.size < w2.heap.size := by omega); (try have htB : w.heap.size + 1 < w2.heap.size := by omega); (try have htC : w.heap.size + 2 < w2.heap.size := by omega); (try have htA : w1.heap.size < w2.heap.size := by omega); (try have htB : w1.heap.size + 1 < w2.heap.size := by omega); (try have htC : w1.heap.size + 2 < w2.heap.size := by omega); (try have htA : w3.heap.size < w2.heap.size := by omega); (try have htB : w3.heap.size + 1 < w2.heap.size := by omega); (try have htC : w3.heap.size + 2 < w2.heap.size := by omega)) | (go_at_call 19; refine (eqState_same _ _ _ _ _ _).mono ?_; rintro e w3 ⟨rfl, hb3⟩; have hcf := bcell hb3; have hz3 := hb3.size; (repeat (first | simp only [World.size_alloc] at hz3 hcf | simp only [size_setCell] at hz3 hcf | simp only [size_drewN] at hz3 hcf | simp only [size_drew] at hz3 hcf)); obtain ⟨hc3, hf3⟩ := hcf; (try have htA : w.heap.size < w3.heap.size := by omega); (try have htB : w.heap.size + 1 < w3.heap.size := by omega); (try have htC : w.heap.size + 2 < w3.heap.size := by omega); (try have htA : w1.heap.size < w3.heap.size := by omega); (try have htB : w1.heap.size + 1 < w3.heap.size := by omega); (try have htC : w1.heap.size + 2 < w3.heap.size := by omega); (try have htA : w2.heap.size < w3.heap.size := by omega); (try have htB : w2.heap.size + 1 < w3.heap.size := by omega); (try have htC : w2.heap.size + 2 < w3.heap.size := by omega)))
  all_goals go_ret
  all_goals exact ⟨rfl, (by repeat (first | with_reducible exact Below.refl _ _ | with_reducible assumption | with_reducible refine Below.alloc ?_ ?_ _ | with_reducible refine Below.setCell ?_ ?_ _ | with_reducible refine Below.drew ?_ | with_reducible refine below_drewN ?_ _ | with_reducible refine Below.trans ?_ (Below.mono (by assumption) ?_) | omega | ((repeat (first | rw [World.size_alloc] | rw [size_setCell] | rw [size_drewN] | rw [size_drew])); omega) | exact Nat.le_refl _ | (dsimp only; omega) | (simp [World.setCell]; omega)))⟩

namespace fnExactNewState
open Go.ChangeShapes Go.WideShapes Go.ChangeAt Go.RowKit
open Go.ChangeMaps (open_string shut_string)
set_option linter.unusedVariables false
theorem own : ownKnob Try.prog.godebug = none := by kernel_rfl
theorem laidOut : laidOutB Try.prog = true := by kernel_rfl
set_option maxRecDepth 100000 in
theorem lifted (os : Os) (started : os.Started) (H : Type) (enc : TypeId × Value → H) :
    ReturnsInHanded {} Try.checked os 4 .any (Rows.fnExactNewStateSpec.pre6 enc Try.prog Try.f4 Rows.fnExactNewStateRow.domain false) (Rows.fnExactNewStateSpec.post enc Try.prog Try.f4 false true false false) := by
  refine returnsInHanded_of_change (C := Try.checked) own started (by kernel_rfl) Try.func4
    (ChangeSpec.witness6 (enc := enc) (C := Try.checked) false ⟨#[], #[.string ⟨#[]⟩], []⟩ 8 (by kernel_rfl) (by kernel_rfl) (by kernel_rfl) (by kernel_rfl)) ?_
  intro W base args ds gs before hval0 hW hcnd _
  have hval : ∀ (j : Nat) t v, Try.f4.params[j]? = some t → args[j]? = some v → Value.okWide Try.prog W .any base t v := hval0
  have hW' := hW
  obtain ⟨p, q, hA0, hV, rfl, hfz, hnd⟩ := hW
  have hA : DataW.TrodAll enc Try.prog W 0 (fun _ => true) true Try.f4.params.toList args.toList ds p := hA0
  rw [Try.params4] at hA hval
  obtain ⟨v0, vs0, d0, ds0, p0, q0, hargs, rfl, rfl, h0, r0⟩ := trodAll_cons hA
  obtain ⟨rfl, rfl, rfl⟩ := trodAll_nil r0
  obtain rfl : args = #[v0] := by cases args; simp_all
  obtain ⟨rfl, rfl⟩ := trodVars_none hV
  have k0 := h0
  have lt0 : ∀ x ∈ p0, x.block < W.heap.size := by obtain ⟨m, hm⟩ := k0; exact DataW.trod_lt m _ _ _ hm
  obtain ⟨a0, rfl, rfl, rfl, w0⟩ := open_string Try.underlying9 (hval 0 9 v0 rfl rfl) h0
  clear hA0 hval0
  refine (FnExactNewState_walk a0 W w0).mono fun e W' ⟨he, bel⟩ => ?_
  subst he
  exact ⟨_, rfl, _, _, _, [], _, [], hW', trodAll_mk1 (shut_bool Try.underlying4 _), (trodAll_cons_mk (Below.trod laidOut (by kernel_rfl) (of_decide_eq_true (by kernel_rfl)) k0 bel lt0) trodAll_mk0), rfl, bel.frame _, fun h => by cases h⟩
theorem over : Rows.fnExactNewStateRow.holds Try.pinned (OpenSpec.ofChange Rows.fnExactNewStateSpec) :=
  OpenClaim.holds_of_wide 4 Try.f4 rfl rfl rfl rfl rfl rfl rfl ⟨rfl, rfl, rfl, rfl, rfl⟩ rfl rfl rfl rfl rfl (by kernel_rfl) Try.func4 (by kernel_rfl)
    (of_decide_eq_true (by kernel_rfl)) (by unfold Func.isWrapper; first | (rw [if_pos (by decide +kernel)]; kernel_rfl) | (rw [if_neg (by decide +kernel)]; exact ⟨rfl, rfl⟩))
    (fun os started H enc _ => lifted os started H enc)
theorem proved : Rows.FnExactNewStateSaid := over
#print axioms proved
end fnExactNewState

end Go.Proofs.Ytmlckocmfoiobaa
