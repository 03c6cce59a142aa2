/-
  THE CLAIM: the law FnExactLastWord returns true for every input, and its argument reads afterwards as before. Conditions: none beyond the given statement's own.
-/
import Derived.Test.YtpdmhkmomfjcmaaState
import Derived.ProofKit
import Derived.OpenShut
import Derived.ShutString
import Derived.ChangeOld
import Derived.Below
import Derived.WalkSmall
import Derived.Test.YtpdmhkmomfjcmaaOpen
namespace Go.Proofs.Ytpdmhkmomfjcmaa
open Go.RowKit

set_option maxHeartbeats 400000 in
theorem FnExactLastWord_walk (t : ByteArray) (j g : Bool) (c k : Int) (w : World) (ht : t.size ≤ maxLen) (_hc : (Lit.int .i64 c).wf = true) (_hk : (Lit.int .i64 k).wf = true) :
    Calls Try.prog 7 #[.agg #[.string t, .bool j, .bool g, .int .i64 c, .int .i64 k]] w fun e w' => e = .returned (.bool true) ∧ Below w.heap.size w w' := by
  have ht' := ht
  unfold maxLen at ht
  by_cases hsz : t.size ≤ 1048576
  all_goals
    go_enter Try.func7, Try.ntmps7
    go_wp2_with (first | (go_at_call 21; go_in) | (go_at_call 23; refine (toState_any _ _ _ _ _ _).mono ?_; rintro e w1 ⟨rfl, hb⟩; have hcf := bcell hb; have hz := hb.size; (try simp only [World.size_alloc] at hz hcf); obtain ⟨hc, hf⟩ := hcf; (try have ht0 : w.heap.size < w1.heap.size := by omega); (try have ht1 : w.heap.size + 1 < w1.heap.size := by omega); (try have ht2 : w.heap.size + 2 < w1.heap.size := by omega)) | (go_at_call 28; refine (LastWord_any _ _ _ _ _ _ ht').mono ?_; rintro e w1 ⟨rfl, hb⟩; have hcf := bcell hb; have hz := hb.size; (try simp only [World.size_alloc] at hz hcf); obtain ⟨hc, hf⟩ := hcf; (try have ht0 : w.heap.size < w1.heap.size := by omega); (try have ht1 : w.heap.size + 1 < w1.heap.size := by omega); (try have ht2 : w.heap.size + 2 < w1.heap.size := by omega)) | (go_at_call 27; refine (specLastWord_any _ _ _ _ _ _ ht').mono ?_; rintro e w1 ⟨rfl, hb⟩; have hcf := bcell hb; have hz := hb.size; (try simp only [World.size_alloc] at hz hcf); obtain ⟨hc, hf⟩ := hcf; (try have ht0 : w.heap.size < w1.heap.size := by omega); (try have ht1 : w.heap.size + 1 < w1.heap.size := by omega); (try have ht2 : w.heap.size + 2 < w1.heap.size := by omega)))
    all_goals go_ret
    all_goals exact ⟨rfl, (by repeat (first | with_reducible exact Below.refl _ _ | with_reducible assumption | with_reducible refine Below.alloc ?_ ?_ _ | with_reducible refine Below.setCell ?_ ?_ _ | with_reducible refine Below.drew ?_ | with_reducible refine below_drewN ?_ _ | with_reducible refine Below.trans ?_ (Below.mono (by assumption) ?_) | omega | (simp only [World.size_alloc]; omega) | (simp only [World.size_alloc, World.setCell, Array.size_modify]; omega) | (simp [World.setCell]; omega) | (simp [World.setCell]; done)))⟩

namespace fnExactLastWord
open Go.ChangeShapes Go.WideShapes Go.ChangeAt Go.RowKit
open Go.ChangeMaps (open_string shut_string)
set_option linter.unusedVariables false
theorem own : ownKnob Try.prog.godebug = none := by kernel_rfl
theorem laidOut : laidOutB Try.prog = true := by kernel_rfl
set_option maxRecDepth 100000 in
theorem lifted (os : Os) (started : os.Started) (H : Type) (enc : TypeId × Value → H) :
    ReturnsInHanded {} Try.checked os 7 .any (Rows.fnExactLastWordSpec.pre6 enc Try.prog Try.f7 Rows.fnExactLastWordRow.domain false) (Rows.fnExactLastWordSpec.post enc Try.prog Try.f7 false true false false) := by
  refine returnsInHanded_of_change (C := Try.checked) own started (by kernel_rfl) Try.func7
    (ChangeSpec.witness6 (enc := enc) (C := Try.checked) false ⟨#[], #[.agg #[.string ⟨#[]⟩, .bool false, .bool false, .int .i64 0, .int .i64 0]], []⟩ 8 (by kernel_rfl) (by kernel_rfl) (by kernel_rfl) (by kernel_rfl)) ?_
  intro W base args ds gs before hval0 hW hcnd _
  have hval : ∀ (j : Nat) t v, Try.f7.params[j]? = some t → args[j]? = some v → Value.okWide Try.prog W .any base t v := hval0
  have hW' := hW
  obtain ⟨p, q, hA0, hV, rfl, hfz, hnd⟩ := hW
  have hA : DataW.TrodAll enc Try.prog W 0 (fun _ => true) true Try.f7.params.toList args.toList ds p := hA0
  rw [Try.params7] at hA hval
  obtain ⟨v0, vs0, d0, ds0, p0, q0, hargs, rfl, rfl, h0, r0⟩ := trodAll_cons hA
  obtain ⟨rfl, rfl, rfl⟩ := trodAll_nil r0
  obtain rfl : args = #[v0] := by cases args; simp_all
  obtain ⟨rfl, rfl⟩ := trodVars_none hV
  have k0 := h0
  have lt0 : ∀ x ∈ p0, x.block < W.heap.size := by obtain ⟨m, hm⟩ := k0; exact DataW.trod_lt m _ _ _ hm
  obtain ⟨cs0, rfl, hl0, m0, hg0⟩ := open_agg Try.underlying31 (by kernel_rfl) (by kernel_rfl) (hval 0 31 v0 rfl rfl) h0
  obtain ⟨c0a, y0a, g0a, t0a⟩ := hg0 0 _ rfl
  obtain ⟨a0a, e0a, _, w0a⟩ := DataW.trod_string Try.underlying9 t0a
  simp only [List.cons.injEq, and_true] at e0a; subst e0a
  obtain ⟨c0b, y0b, g0b, t0b⟩ := hg0 1 _ rfl
  obtain ⟨a0b, e0b, _⟩ := DataW.trod_bool Try.underlying4 t0b
  simp only [List.cons.injEq, and_true] at e0b; subst e0b
  obtain ⟨c0c, y0c, g0c, t0c⟩ := hg0 2 _ rfl
  obtain ⟨a0c, e0c, _⟩ := DataW.trod_bool Try.underlying4 t0c
  simp only [List.cons.injEq, and_true] at e0c; subst e0c
  obtain ⟨c0d, y0d, g0d, t0d⟩ := hg0 3 _ rfl
  obtain ⟨a0d, e0d, _, w0d⟩ := DataW.trod_int Try.underlying3 t0d
  simp only [List.cons.injEq, and_true] at e0d; subst e0d
  obtain ⟨c0e, y0e, g0e, t0e⟩ := hg0 4 _ rfl
  obtain ⟨a0e, e0e, _, w0e⟩ := DataW.trod_int Try.underlying3 t0e
  simp only [List.cons.injEq, and_true] at e0e; subst e0e
  obtain rfl := list5 hl0 g0a g0b g0c g0d g0e
  clear hA0 hval0
  refine (FnExactLastWord_walk a0a a0b a0c a0d a0e W w0a w0d w0e).mono fun e W' ⟨he, bel⟩ => ?_
  subst he
  exact ⟨_, rfl, _, _, _, [], _, [], hW', trodAll_mk1 (shut_bool Try.underlying4 _), (trodAll_cons_mk (Below.trod laidOut (by kernel_rfl) (of_decide_eq_true (by kernel_rfl)) k0 bel lt0) trodAll_mk0), rfl, bel.frame _, fun h => by cases h⟩
theorem over : Rows.fnExactLastWordRow.holds Try.pinned (OpenSpec.ofChange Rows.fnExactLastWordSpec) :=
  OpenClaim.holds_of_wide 7 Try.f7 rfl rfl rfl rfl rfl rfl rfl ⟨rfl, rfl, rfl, rfl, rfl⟩ rfl rfl rfl rfl rfl (by kernel_rfl) Try.func7 (by kernel_rfl)
    (of_decide_eq_true (by kernel_rfl)) (by unfold Func.isWrapper; first | (rw [if_pos (by decide +kernel)]; kernel_rfl) | (rw [if_neg (by decide +kernel)]; exact ⟨rfl, rfl⟩))
    (fun os started H enc _ => lifted os started H enc)
theorem proved : Rows.FnExactLastWordSaid := over
#print axioms proved
end fnExactLastWord

end Go.Proofs.Ytpdmhkmomfjcmaa
