/-
  THE CLAIM: the law FnExactComposeEdits returns true for every input, and its arguments read afterwards as before. Conditions: none beyond the given statement's own.
-/
import Derived.Test.YtmlckocmfoiobaaEditComp
import Derived.ProofKit
import Derived.OpenShut
import Derived.ShutString
import Derived.ChangeOld
import Derived.Below
import Derived.WalkSmall
import Derived.Test.YtmlckocmfoiobaaOpen
namespace Go.Proofs.Ytmlckocmfoiobaa
open Go.RowKit

set_option maxHeartbeats 400000 in
theorem FnExactComposeEdits_walk (b1 : Int) (t1 : ByteArray) (b2 : Int) (t2 : ByteArray) (w : World) (_h1 : (Lit.int .i64 b1).wf = true) (ht1 : t1.size ≤ maxLen) (_h2 : (Lit.int .i64 b2).wf = true) (ht2 : t2.size ≤ maxLen) :
    Calls Try.prog 6 #[.agg #[.int .i64 b1, .string t1], .agg #[.int .i64 b2, .string t2]] w fun e w' => e = .returned (.bool true) ∧ Below w.heap.size w w' := by
  unfold maxLen at ht1 ht2
  by_cases hs1 : t1.size ≤ 1048576
  · by_cases hs2 : t1.size + t2.size ≤ 1048576
    · have hs3 : t2.size ≤ 1048576 := by omega
      go_enter Try.func6, Try.ntmps6
      go_wp2_with (first | (go_at_call 22; go_in) | (go_at_call 24; refine (toEdit_any _ _ _).mono ?_; rintro e w2 ⟨rfl, hb2⟩; have hcf := bcell hb2; have hz2 := hb2.size; (repeat (first | simp only [World.size_alloc] at hz2 hcf | simp only [size_setCell] at hz2 hcf | simp only [size_drewN] at hz2 hcf | simp only [size_drew] at hz2 hcf)); obtain ⟨hc2, hf2⟩ := hcf; (try have htA : w.heap.size < w2.heap.size := by omega); (try have htB : w.heap.size + 1 < w2.heap.size := by omega); (try have htC : w.heap.size + 2 < w2.heap.size := by omega); (try have htA : w3.heap.size < w2.heap.size := by omega); (try have htB : w3.heap.size + 1 < w2.heap.size := by omega); (try have htC : w3.heap.size + 2 < w2.heap.size := by omega); (try have htA : w4.heap.size < w2.heap.size := by omega); (try have htB : w4.heap.size + 1 < w2.heap.size := by omega); (try have htC : w4.heap.size + 2 < w2.heap.size := by omega); (try have htA : w5.heap.size < w2.heap.size := by omega); (try have htB : w5.heap.size + 1 < w2.heap.size := by omega); (try have htC : w5.heap.size + 2 < w2.heap.size := by omega)) | (go_at_call 25; refine (ComposeEdits_any _ _ _ _ _ hs1 hs3).mono ?_; rintro e w3 ⟨rfl, hb3⟩; have hcf := bcell hb3; have hz3 := hb3.size; (repeat (first | simp only [World.size_alloc] at hz3 hcf | simp only [size_setCell] at hz3 hcf | simp only [size_drewN] at hz3 hcf | simp only [size_drew] at hz3 hcf)); obtain ⟨hc3, hf3⟩ := hcf; (try have htA : w.heap.size < w3.heap.size := by omega); (try have htB : w.heap.size + 1 < w3.heap.size := by omega); (try have htC : w.heap.size + 2 < w3.heap.size := by omega); (try have htA : w2.heap.size < w3.heap.size := by omega); (try have htB : w2.heap.size + 1 < w3.heap.size := by omega); (try have htC : w2.heap.size + 2 < w3.heap.size := by omega); (try have htA : w4.heap.size < w3.heap.size := by omega); (try have htB : w4.heap.size + 1 < w3.heap.size := by omega); (try have htC : w4.heap.size + 2 < w3.heap.size := by omega); (try have htA : w5.heap.size < w3.heap.size := by omega); (try have htB : w5.heap.size + 1 < w3.heap.size := by omega); (try have htC : w5.heap.size + 2 < w3.heap.size := by omega)) | (go_at_call 23; refine (specComposeEdits_any _ _ _ _ _ hs1 hs3).mono ?_; rintro e w4 ⟨rfl, hb4⟩; have hcf := bcell hb4; have hz4 := hb4.size; (repeat (first | simp only [World.size_alloc] at hz4 hcf | simp only [size_setCell] at hz4 hcf | simp only [size_drewN] at hz4 hcf | simp only [size_drew] at hz4 hcf)); obtain ⟨hc4, hf4⟩ := hcf; (try have htA : w.heap.size < w4.heap.size := by omega); (try have htB : w.heap.size + 1 < w4.heap.size := by omega); (try have htC : w.heap.size + 2 < w4.heap.size := by omega); (try have htA : w2.heap.size < w4.heap.size := by omega); (try have htB : w2.heap.size + 1 < w4.heap.size := by omega); (try have htC : w2.heap.size + 2 < w4.heap.size := by omega); (try have htA : w3.heap.size < w4.heap.size := by omega); (try have htB : w3.heap.size + 1 < w4.heap.size := by omega); (try have htC : w3.heap.size + 2 < w4.heap.size := by omega); (try have htA : w5.heap.size < w4.heap.size := by omega); (try have htB : w5.heap.size + 1 < w4.heap.size := by omega); (try have htC : w5.heap.size + 2 < w4.heap.size := by omega)) | (go_at_call 26; refine (eqEdit_same _ _ _).mono ?_; rintro e w5 ⟨rfl, hb5⟩; have hcf := bcell hb5; have hz5 := hb5.size; (repeat (first | simp only [World.size_alloc] at hz5 hcf | simp only [size_setCell] at hz5 hcf | simp only [size_drewN] at hz5 hcf | simp only [size_drew] at hz5 hcf)); obtain ⟨hc5, hf5⟩ := hcf; (try have htA : w.heap.size < w5.heap.size := by omega); (try have htB : w.heap.size + 1 < w5.heap.size := by omega); (try have htC : w.heap.size + 2 < w5.heap.size := by omega); (try have htA : w2.heap.size < w5.heap.size := by omega); (try have htB : w2.heap.size + 1 < w5.heap.size := by omega); (try have htC : w2.heap.size + 2 < w5.heap.size := by omega); (try have htA : w3.heap.size < w5.heap.size := by omega); (try have htB : w3.heap.size + 1 < w5.heap.size := by omega); (try have htC : w3.heap.size + 2 < w5.heap.size := by omega); (try have htA : w4.heap.size < w5.heap.size := by omega); (try have htB : w4.heap.size + 1 < w5.heap.size := by omega); (try have htC : w4.heap.size + 2 < w5.heap.size := by omega)))
      all_goals go_ret
      all_goals exact ⟨rfl, (by repeat (first | with_reducible exact Below.refl _ _ | with_reducible assumption | with_reducible refine Below.alloc ?_ ?_ _ | with_reducible refine Below.setCell ?_ ?_ _ | with_reducible refine Below.drew ?_ | with_reducible refine below_drewN ?_ _ | with_reducible refine Below.trans ?_ (Below.mono (by assumption) ?_) | omega | ((repeat (first | rw [World.size_alloc] | rw [size_setCell] | rw [size_drewN] | rw [size_drew])); omega) | exact Nat.le_refl _ | (dsimp only; omega) | (simp [World.setCell]; omega)))⟩
    · go_enter Try.func6, Try.ntmps6
      go_wp2_with ((go_at_call 22; go_in))
      all_goals go_ret
      all_goals exact ⟨rfl, (by repeat (first | with_reducible exact Below.refl _ _ | with_reducible assumption | with_reducible refine Below.alloc ?_ ?_ _ | with_reducible refine Below.setCell ?_ ?_ _ | with_reducible refine Below.drew ?_ | with_reducible refine below_drewN ?_ _ | with_reducible refine Below.trans ?_ (Below.mono (by assumption) ?_) | omega | ((repeat (first | rw [World.size_alloc] | rw [size_setCell] | rw [size_drewN] | rw [size_drew])); omega) | exact Nat.le_refl _ | (dsimp only; omega) | (simp [World.setCell]; omega)))⟩
  · go_enter Try.func6, Try.ntmps6
    go_wp2_with ((go_at_call 22; go_in))
    all_goals go_ret
    all_goals exact ⟨rfl, (by repeat (first | with_reducible exact Below.refl _ _ | with_reducible assumption | with_reducible refine Below.alloc ?_ ?_ _ | with_reducible refine Below.setCell ?_ ?_ _ | with_reducible refine Below.drew ?_ | with_reducible refine below_drewN ?_ _ | with_reducible refine Below.trans ?_ (Below.mono (by assumption) ?_) | omega | ((repeat (first | rw [World.size_alloc] | rw [size_setCell] | rw [size_drewN] | rw [size_drew])); omega) | exact Nat.le_refl _ | (dsimp only; omega) | (simp [World.setCell]; omega)))⟩

namespace fnExactComposeEdits
open Go.ChangeShapes Go.WideShapes Go.ChangeAt Go.RowKit
open Go.ChangeMaps (open_string shut_string)
set_option linter.unusedVariables false
theorem own : ownKnob Try.prog.godebug = none := by kernel_rfl
theorem laidOut : laidOutB Try.prog = true := by kernel_rfl
set_option maxRecDepth 100000 in
theorem lifted (os : Os) (started : os.Started) (H : Type) (enc : TypeId × Value → H) :
    ReturnsInHanded {} Try.checked os 6 .any (Rows.fnExactComposeEditsSpec.pre6 enc Try.prog Try.f6 Rows.fnExactComposeEditsRow.domain false) (Rows.fnExactComposeEditsSpec.post enc Try.prog Try.f6 false true false false) := by
  refine returnsInHanded_of_change (C := Try.checked) own started (by kernel_rfl) Try.func6
    (ChangeSpec.witness6 (enc := enc) (C := Try.checked) false ⟨#[], #[.agg #[.int .i64 0, .string ⟨#[]⟩], .agg #[.int .i64 0, .string ⟨#[]⟩]], []⟩ 8 (by kernel_rfl) (by kernel_rfl) (by kernel_rfl) (by kernel_rfl)) ?_
  intro W base args ds gs before hval0 hW hcnd _
  have hval : ∀ (j : Nat) t v, Try.f6.params[j]? = some t → args[j]? = some v → Value.okWide Try.prog W .any base t v := hval0
  have hW' := hW
  obtain ⟨p, q, hA0, hV, rfl, hfz, hnd⟩ := hW
  have hA : DataW.TrodAll enc Try.prog W 0 (fun _ => true) true Try.f6.params.toList args.toList ds p := hA0
  rw [Try.params6] at hA hval
  obtain ⟨v0, vs0, d0, ds0, p0, q0, hargs, rfl, rfl, h0, r0⟩ := trodAll_cons hA
  obtain ⟨v1, vs1, d1, ds1, p1, q1, rfl, rfl, rfl, h1, r1⟩ := trodAll_cons r0
  obtain ⟨rfl, rfl, rfl⟩ := trodAll_nil r1
  obtain rfl : args = #[v0, v1] := by cases args; simp_all
  obtain ⟨rfl, rfl⟩ := trodVars_none hV
  have k0 := h0
  have lt0 : ∀ x ∈ p0, x.block < W.heap.size := by obtain ⟨m, hm⟩ := k0; exact DataW.trod_lt m _ _ _ hm
  obtain ⟨cs0, rfl, hl0, m0, hg0⟩ := open_agg Try.underlying33 (by kernel_rfl) (by kernel_rfl) (hval 0 33 v0 rfl rfl) h0
  obtain ⟨c0a, y0a, g0a, t0a⟩ := hg0 0 _ rfl
  obtain ⟨a0a, e0a, _, w0a⟩ := DataW.trod_int Try.underlying3 t0a
  simp only [List.cons.injEq, and_true] at e0a; subst e0a
  obtain ⟨c0b, y0b, g0b, t0b⟩ := hg0 1 _ rfl
  obtain ⟨a0b, e0b, _, w0b⟩ := DataW.trod_string Try.underlying9 t0b
  simp only [List.cons.injEq, and_true] at e0b; subst e0b
  obtain rfl := list2 hl0 g0a g0b
  have k1 := h1
  have lt1 : ∀ x ∈ p1, x.block < W.heap.size := by obtain ⟨m, hm⟩ := k1; exact DataW.trod_lt m _ _ _ hm
  obtain ⟨cs1, rfl, hl1, m1, hg1⟩ := open_agg Try.underlying33 (by kernel_rfl) (by kernel_rfl) (hval 1 33 v1 rfl rfl) h1
  obtain ⟨c1a, y1a, g1a, t1a⟩ := hg1 0 _ rfl
  obtain ⟨a1a, e1a, _, w1a⟩ := DataW.trod_int Try.underlying3 t1a
  simp only [List.cons.injEq, and_true] at e1a; subst e1a
  obtain ⟨c1b, y1b, g1b, t1b⟩ := hg1 1 _ rfl
  obtain ⟨a1b, e1b, _, w1b⟩ := DataW.trod_string Try.underlying9 t1b
  simp only [List.cons.injEq, and_true] at e1b; subst e1b
  obtain rfl := list2 hl1 g1a g1b
  clear hA0 hval0
  refine (FnExactComposeEdits_walk a0a a0b a1a a1b W w0a w0b w1a w1b).mono fun e W' ⟨he, bel⟩ => ?_
  subst he
  exact ⟨_, rfl, _, _, _, [], _, [], hW', trodAll_mk1 (shut_bool Try.underlying4 _), (trodAll_cons_mk (Below.trod laidOut (by kernel_rfl) (of_decide_eq_true (by kernel_rfl)) k0 bel lt0) (trodAll_cons_mk (Below.trod laidOut (by kernel_rfl) (of_decide_eq_true (by kernel_rfl)) k1 bel lt1) trodAll_mk0)), rfl, bel.frame _, fun h => by cases h⟩
theorem over : Rows.fnExactComposeEditsRow.holds Try.pinned (OpenSpec.ofChange Rows.fnExactComposeEditsSpec) :=
  OpenClaim.holds_of_wide 6 Try.f6 rfl rfl rfl rfl rfl rfl rfl ⟨rfl, rfl, rfl, rfl, rfl⟩ rfl rfl rfl rfl rfl (by kernel_rfl) Try.func6 (by kernel_rfl)
    (of_decide_eq_true (by kernel_rfl)) (by unfold Func.isWrapper; first | (rw [if_pos (by decide +kernel)]; kernel_rfl) | (rw [if_neg (by decide +kernel)]; exact ⟨rfl, rfl⟩))
    (fun os started H enc _ => lifted os started H enc)
theorem proved : Rows.FnExactComposeEditsSaid := over
#print axioms proved
end fnExactComposeEdits

end Go.Proofs.Ytmlckocmfoiobaa
