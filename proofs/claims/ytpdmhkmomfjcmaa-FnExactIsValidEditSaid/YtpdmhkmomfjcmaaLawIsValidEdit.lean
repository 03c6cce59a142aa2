/-
  THE CLAIM: the law FnExactIsValidEdit returns true for every input, and its argument reads afterwards as before. Conditions: none beyond the given statement's own.
-/
import Derived.Test.YtpdmhkmomfjcmaaEdit
import Derived.ProofKit
import Derived.OpenShut
import Derived.ShutString
import Derived.ChangeOld
import Derived.Below
import Derived.WalkSmall
import Derived.Test.YtpdmhkmomfjcmaaOpen
namespace Go.Proofs.Ytpdmhkmomfjcmaa
open Go.RowKit

set_option maxHeartbeats 400000 in
theorem FnExactIsValidEdit_walk (b : Int) (t : ByteArray) (w : World) (_hb : (Lit.int .i64 b).wf = true) (ht : t.size ≤ maxLen) :
    Calls Try.prog 4 #[.agg #[.int .i64 b, .string t]] w fun e w' => e = .returned (.bool true) ∧ Below w.heap.size w w' := by
  have ht' := ht
  unfold maxLen at ht
  by_cases hsz : t.size ≤ 1048576
  all_goals
    go_enter Try.func4, Try.ntmps4
    go_wp2_with (first | (go_at_call 17; go_in) | (go_at_call 19; refine (toEdit_any _ _ _).mono ?_; rintro e w1 ⟨rfl, hb⟩; have hcf := bcell hb; have hz := hb.size; (try simp only [World.size_alloc] at hz hcf); obtain ⟨hc, hf⟩ := hcf; (try have ht0 : w.heap.size < w1.heap.size := by omega); (try have ht1 : w.heap.size + 1 < w1.heap.size := by omega); (try have ht2 : w.heap.size + 2 < w1.heap.size := by omega)) | (go_at_call 20; refine (IsValidEdit_any _ _ _ ht').mono ?_; rintro e w1 ⟨rfl, hb⟩; have hcf := bcell hb; have hz := hb.size; (try simp only [World.size_alloc] at hz hcf); obtain ⟨hc, hf⟩ := hcf; (try have ht0 : w.heap.size < w1.heap.size := by omega); (try have ht1 : w.heap.size + 1 < w1.heap.size := by omega); (try have ht2 : w.heap.size + 2 < w1.heap.size := by omega)) | (go_at_call 18; refine (specIsValidEdit_any _ _ _ ht').mono ?_; rintro e w1 ⟨rfl, hb⟩; have hcf := bcell hb; have hz := hb.size; (try simp only [World.size_alloc] at hz hcf); obtain ⟨hc, hf⟩ := hcf; (try have ht0 : w.heap.size < w1.heap.size := by omega); (try have ht1 : w.heap.size + 1 < w1.heap.size := by omega); (try have ht2 : w.heap.size + 2 < w1.heap.size := by omega)))
    all_goals go_ret
    all_goals exact ⟨rfl, (by repeat (first | with_reducible exact Below.refl _ _ | with_reducible assumption | with_reducible refine Below.alloc ?_ ?_ _ | with_reducible refine Below.setCell ?_ ?_ _ | with_reducible refine Below.drew ?_ | with_reducible refine below_drewN ?_ _ | with_reducible refine Below.trans ?_ (Below.mono (by assumption) ?_) | omega | (simp only [World.size_alloc]; omega) | (simp only [World.size_alloc, World.setCell, Array.size_modify]; omega) | (simp [World.setCell]; omega) | (simp [World.setCell]; done)))⟩

namespace fnExactIsValidEdit
open Go.ChangeShapes Go.WideShapes Go.ChangeAt Go.RowKit
open Go.ChangeMaps (open_string shut_string)
set_option linter.unusedVariables false
theorem own : ownKnob Try.prog.godebug = none := by kernel_rfl
theorem laidOut : laidOutB Try.prog = true := by kernel_rfl
set_option maxRecDepth 100000 in
theorem lifted (os : Os) (started : os.Started) (H : Type) (enc : TypeId × Value → H) :
    ReturnsInHanded {} Try.checked os 4 .any (Rows.fnExactIsValidEditSpec.pre6 enc Try.prog Try.f4 Rows.fnExactIsValidEditRow.domain false) (Rows.fnExactIsValidEditSpec.post enc Try.prog Try.f4 false true false false) := by
  refine returnsInHanded_of_change (C := Try.checked) own started (by kernel_rfl) Try.func4
    (ChangeSpec.witness6 (enc := enc) (C := Try.checked) false ⟨#[], #[.agg #[.int .i64 0, .string ⟨#[]⟩]], []⟩ 8 (by kernel_rfl) (by kernel_rfl) (by kernel_rfl) (by kernel_rfl)) ?_
  intro W base args ds gs before hval0 hW hcnd _
  have hval : ∀ (j : Nat) t v, Try.f4.params[j]? = some t → args[j]? = some v → Value.okWide Try.prog W .any base t v := hval0
  have hW' := hW
  obtain ⟨p, q, hA0, hV, rfl, hfz, hnd⟩ := hW
  have hA : DataW.TrodAll enc Try.prog W 0 (fun _ => true) true Try.f4.params.toList args.toList ds p := hA0
  rw [Try.params4] at hA hval
  obtain ⟨v0, vs0, d0, ds0, p0, q0, hargs, rfl, rfl, h0, r0⟩ := trodAll_cons hA
  obtain ⟨rfl, rfl, rfl⟩ := trodAll_nil r0
  obtain rfl : args = #[v0] := by cases args; simp_all
  obtain ⟨rfl, rfl⟩ := trodVars_none hV
  have k0 := h0
  have lt0 : ∀ x ∈ p0, x.block < W.heap.size := by obtain ⟨m, hm⟩ := k0; exact DataW.trod_lt m _ _ _ hm
  obtain ⟨cs0, rfl, hl0, m0, hg0⟩ := open_agg Try.underlying24 (by kernel_rfl) (by kernel_rfl) (hval 0 24 v0 rfl rfl) h0
  obtain ⟨c0a, y0a, g0a, t0a⟩ := hg0 0 _ rfl
  obtain ⟨a0a, e0a, _, w0a⟩ := DataW.trod_int Try.underlying3 t0a
  simp only [List.cons.injEq, and_true] at e0a; subst e0a
  obtain ⟨c0b, y0b, g0b, t0b⟩ := hg0 1 _ rfl
  obtain ⟨a0b, e0b, _, w0b⟩ := DataW.trod_string Try.underlying9 t0b
  simp only [List.cons.injEq, and_true] at e0b; subst e0b
  obtain rfl := list2 hl0 g0a g0b
  clear hA0 hval0
  refine (FnExactIsValidEdit_walk a0a a0b W w0a w0b).mono fun e W' ⟨he, bel⟩ => ?_
  subst he
  exact ⟨_, rfl, _, _, _, [], _, [], hW', trodAll_mk1 (shut_bool Try.underlying4 _), (trodAll_cons_mk (Below.trod laidOut (by kernel_rfl) (of_decide_eq_true (by kernel_rfl)) k0 bel lt0) trodAll_mk0), rfl, bel.frame _, fun h => by cases h⟩
theorem over : Rows.fnExactIsValidEditRow.holds Try.pinned (OpenSpec.ofChange Rows.fnExactIsValidEditSpec) :=
  OpenClaim.holds_of_wide 4 Try.f4 rfl rfl rfl rfl rfl rfl rfl ⟨rfl, rfl, rfl, rfl, rfl⟩ rfl rfl rfl rfl rfl (by kernel_rfl) Try.func4 (by kernel_rfl)
    (of_decide_eq_true (by kernel_rfl)) (by unfold Func.isWrapper; first | (rw [if_pos (by decide +kernel)]; kernel_rfl) | (rw [if_neg (by decide +kernel)]; exact ⟨rfl, rfl⟩))
    (fun os started H enc _ => lifted os started H enc)
theorem proved : Rows.FnExactIsValidEditSaid := over
#print axioms proved
end fnExactIsValidEdit

end Go.Proofs.Ytpdmhkmomfjcmaa
