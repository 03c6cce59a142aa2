/-
  THE CLAIM: the law FnExactInvertEdit returns true for every input, and its arguments read afterwards as before. Conditions: none beyond the given statement's own.
-/
import Derived.Test.YtmlckocmfoiobaaEditComp
import Derived.ProofKit
import Derived.OpenShut
import Derived.ShutString
import Derived.ChangeOld
import Derived.Below
import Derived.WalkSmall
import Derived.Test.YtmlckocmfoiobaaOpen
namespace Go.Proofs.Ytmlckocmfoiobaa
open Go.RowKit

set_option maxHeartbeats 400000 in
theorem FnExactInvertEdit_walk (s : ByteArray) (b : Int) (t : ByteArray) (w : World) (hs : s.size ≤ maxLen) (_hb : (Lit.int .i64 b).wf = true) (ht : t.size ≤ maxLen) :
    Calls Try.prog 7 #[.string s, .agg #[.int .i64 b, .string t]] w fun e w' => e = .returned (.bool true) ∧ Below w.heap.size w w' := by
  unfold maxLen at hs ht
  by_cases hsz : s.size ≤ 1048576
  · by_cases htz : t.size ≤ 1048576
    · go_enter Try.func7, Try.ntmps7
      go_wp2_with (first | (go_at_call 22; go_in) | (go_at_call 24; refine (toEdit_any _ _ _).mono ?_; rintro e w2 ⟨rfl, hb2⟩; have hcf := bcell hb2; have hz2 := hb2.size; (repeat (first | simp only [World.size_alloc] at hz2 hcf | simp only [size_setCell] at hz2 hcf | simp only [size_drewN] at hz2 hcf | simp only [size_drew] at hz2 hcf)); obtain ⟨hc2, hf2⟩ := hcf; (try have htA : w.heap.size < w2.heap.size := by omega); (try have htB : w.heap.size + 1 < w2.heap.size := by omega); (try have htC : w.heap.size + 2 < w2.heap.size := by omega); (try have htA : w3.heap.size < w2.heap.size := by omega); (try have htB : w3.heap.size + 1 < w2.heap.size := by omega); (try have htC : w3.heap.size + 2 < w2.heap.size := by omega); (try have htA : w4.heap.size < w2.heap.size := by omega); (try have htB : w4.heap.size + 1 < w2.heap.size := by omega); (try have htC : w4.heap.size + 2 < w2.heap.size := by omega); (try have htA : w5.heap.size < w2.heap.size := by omega); (try have htB : w5.heap.size + 1 < w2.heap.size := by omega); (try have htC : w5.heap.size + 2 < w2.heap.size := by omega)) | (go_at_call 28; refine (InvertEdit_any _ _ _ _ hsz htz).mono ?_; rintro e w3 ⟨rfl, hb3⟩; have hcf := bcell hb3; have hz3 := hb3.size; (repeat (first | simp only [World.size_alloc] at hz3 hcf | simp only [size_setCell] at hz3 hcf | simp only [size_drewN] at hz3 hcf | simp only [size_drew] at hz3 hcf)); obtain ⟨hc3, hf3⟩ := hcf; (try have htA : w.heap.size < w3.heap.size := by omega); (try have htB : w.heap.size + 1 < w3.heap.size := by omega); (try have htC : w.heap.size + 2 < w3.heap.size := by omega); (try have htA : w2.heap.size < w3.heap.size := by omega); (try have htB : w2.heap.size + 1 < w3.heap.size := by omega); (try have htC : w2.heap.size + 2 < w3.heap.size := by omega); (try have htA : w4.heap.size < w3.heap.size := by omega); (try have htB : w4.heap.size + 1 < w3.heap.size := by omega); (try have htC : w4.heap.size + 2 < w3.heap.size := by omega); (try have htA : w5.heap.size < w3.heap.size := by omega); (try have htB : w5.heap.size + 1 < w3.heap.size := by omega); (try have htC : w5.heap.size + 2 < w3.heap.size := by omega)) | (go_at_call 27; refine (specInvertEdit_any _ _ _ _ hsz htz).mono ?_; rintro e w4 ⟨rfl, hb4⟩; have hcf := bcell hb4; have hz4 := hb4.size; (repeat (first | simp only [World.size_alloc] at hz4 hcf | simp only [size_setCell] at hz4 hcf | simp only [size_drewN] at hz4 hcf | simp only [size_drew] at hz4 hcf)); obtain ⟨hc4, hf4⟩ := hcf; (try have htA : w.heap.size < w4.heap.size := by omega); (try have htB : w.heap.size + 1 < w4.heap.size := by omega); (try have htC : w.heap.size + 2 < w4.heap.size := by omega); (try have htA : w2.heap.size < w4.heap.size := by omega); (try have htB : w2.heap.size + 1 < w4.heap.size := by omega); (try have htC : w2.heap.size + 2 < w4.heap.size := by omega); (try have htA : w3.heap.size < w4.heap.size := by omega); (try have htB : w3.heap.size + 1 < w4.heap.size := by omega); (try have htC : w3.heap.size + 2 < w4.heap.size := by omega); (try have htA : w5.heap.size < w4.heap.size := by omega); (try have htB : w5.heap.size + 1 < w4.heap.size := by omega); (try have htC : w5.heap.size + 2 < w4.heap.size := by omega)) | (go_at_call 26; refine (eqEdit_same _ _ _).mono ?_; rintro e w5 ⟨rfl, hb5⟩; have hcf := bcell hb5; have hz5 := hb5.size; (repeat (first | simp only [World.size_alloc] at hz5 hcf | simp only [size_setCell] at hz5 hcf | simp only [size_drewN] at hz5 hcf | simp only [size_drew] at hz5 hcf)); obtain ⟨hc5, hf5⟩ := hcf; (try have htA : w.heap.size < w5.heap.size := by omega); (try have htB : w.heap.size + 1 < w5.heap.size := by omega); (try have htC : w.heap.size + 2 < w5.heap.size := by omega); (try have htA : w2.heap.size < w5.heap.size := by omega); (try have htB : w2.heap.size + 1 < w5.heap.size := by omega); (try have htC : w2.heap.size + 2 < w5.heap.size := by omega); (try have htA : w3.heap.size < w5.heap.size := by omega); (try have htB : w3.heap.size + 1 < w5.heap.size := by omega); (try have htC : w3.heap.size + 2 < w5.heap.size := by omega); (try have htA : w4.heap.size < w5.heap.size := by omega); (try have htB : w4.heap.size + 1 < w5.heap.size := by omega); (try have htC : w4.heap.size + 2 < w5.heap.size := by omega)))
      all_goals go_ret
      all_goals exact ⟨rfl, (by repeat (first | with_reducible exact Below.refl _ _ | with_reducible assumption | with_reducible refine Below.alloc ?_ ?_ _ | with_reducible refine Below.setCell ?_ ?_ _ | with_reducible refine Below.drew ?_ | with_reducible refine below_drewN ?_ _ | with_reducible refine Below.trans ?_ (Below.mono (by assumption) ?_) | omega | ((repeat (first | rw [World.size_alloc] | rw [size_setCell] | rw [size_drewN] | rw [size_drew])); omega) | exact Nat.le_refl _ | (dsimp only; omega) | (simp [World.setCell]; omega)))⟩
    · go_enter Try.func7, Try.ntmps7
      go_wp2_with ((go_at_call 22; go_in))
      all_goals go_ret
      all_goals exact ⟨rfl, (by repeat (first | with_reducible exact Below.refl _ _ | with_reducible assumption | with_reducible refine Below.alloc ?_ ?_ _ | with_reducible refine Below.setCell ?_ ?_ _ | with_reducible refine Below.drew ?_ | with_reducible refine below_drewN ?_ _ | with_reducible refine Below.trans ?_ (Below.mono (by assumption) ?_) | omega | ((repeat (first | rw [World.size_alloc] | rw [size_setCell] | rw [size_drewN] | rw [size_drew])); omega) | exact Nat.le_refl _ | (dsimp only; omega) | (simp [World.setCell]; omega)))⟩
  · go_enter Try.func7, Try.ntmps7
    go_wp2_with fail
    all_goals go_ret
    all_goals exact ⟨rfl, (by repeat (first | with_reducible exact Below.refl _ _ | with_reducible assumption | with_reducible refine Below.alloc ?_ ?_ _ | with_reducible refine Below.setCell ?_ ?_ _ | with_reducible refine Below.drew ?_ | with_reducible refine below_drewN ?_ _ | with_reducible refine Below.trans ?_ (Below.mono (by assumption) ?_) | omega | ((repeat (first | rw [World.size_alloc] | rw [size_setCell] | rw [size_drewN] | rw [size_drew])); omega) | exact Nat.le_refl _ | (dsimp only; omega) | (simp [World.setCell]; omega)))⟩

namespace fnExactInvertEdit
open Go.ChangeShapes Go.WideShapes Go.ChangeAt Go.RowKit
open Go.ChangeMaps (open_string shut_string)
set_option linter.unusedVariables false
theorem own : ownKnob Try.prog.godebug = none := by kernel_rfl
theorem laidOut : laidOutB Try.prog = true := by kernel_rfl
set_option maxRecDepth 100000 in
theorem lifted (os : Os) (started : os.Started) (H : Type) (enc : TypeId × Value → H) :
    ReturnsInHanded {} Try.checked os 7 .any (Rows.fnExactInvertEditSpec.pre6 enc Try.prog Try.f7 Rows.fnExactInvertEditRow.domain false) (Rows.fnExactInvertEditSpec.post enc Try.prog Try.f7 false true false false) := by
  refine returnsInHanded_of_change (C := Try.checked) own started (by kernel_rfl) Try.func7
    (ChangeSpec.witness6 (enc := enc) (C := Try.checked) false ⟨#[], #[.string ⟨#[]⟩, .agg #[.int .i64 0, .string ⟨#[]⟩]], []⟩ 8 (by kernel_rfl) (by kernel_rfl) (by kernel_rfl) (by kernel_rfl)) ?_
  intro W base args ds gs before hval0 hW hcnd _
  have hval : ∀ (j : Nat) t v, Try.f7.params[j]? = some t → args[j]? = some v → Value.okWide Try.prog W .any base t v := hval0
  have hW' := hW
  obtain ⟨p, q, hA0, hV, rfl, hfz, hnd⟩ := hW
  have hA : DataW.TrodAll enc Try.prog W 0 (fun _ => true) true Try.f7.params.toList args.toList ds p := hA0
  rw [Try.params7] at hA hval
  obtain ⟨v0, vs0, d0, ds0, p0, q0, hargs, rfl, rfl, h0, r0⟩ := trodAll_cons hA
  obtain ⟨v1, vs1, d1, ds1, p1, q1, rfl, rfl, rfl, h1, r1⟩ := trodAll_cons r0
  obtain ⟨rfl, rfl, rfl⟩ := trodAll_nil r1
  obtain rfl : args = #[v0, v1] := by cases args; simp_all
  obtain ⟨rfl, rfl⟩ := trodVars_none hV
  have k0 := h0
  have lt0 : ∀ x ∈ p0, x.block < W.heap.size := by obtain ⟨m, hm⟩ := k0; exact DataW.trod_lt m _ _ _ hm
  obtain ⟨a0, rfl, rfl, rfl, w0⟩ := open_string Try.underlying9 (hval 0 9 v0 rfl rfl) h0
  have k1 := h1
  have lt1 : ∀ x ∈ p1, x.block < W.heap.size := by obtain ⟨m, hm⟩ := k1; exact DataW.trod_lt m _ _ _ hm
  obtain ⟨cs1, rfl, hl1, m1, hg1⟩ := open_agg Try.underlying33 (by kernel_rfl) (by kernel_rfl) (hval 1 33 v1 rfl rfl) h1
  obtain ⟨c1a, y1a, g1a, t1a⟩ := hg1 0 _ rfl
  obtain ⟨a1a, e1a, _, w1a⟩ := DataW.trod_int Try.underlying3 t1a
  simp only [List.cons.injEq, and_true] at e1a; subst e1a
  obtain ⟨c1b, y1b, g1b, t1b⟩ := hg1 1 _ rfl
  obtain ⟨a1b, e1b, _, w1b⟩ := DataW.trod_string Try.underlying9 t1b
  simp only [List.cons.injEq, and_true] at e1b; subst e1b
  obtain rfl := list2 hl1 g1a g1b
  clear hA0 hval0
  refine (FnExactInvertEdit_walk a0 a1a a1b W w0 w1a w1b).mono fun e W' ⟨he, bel⟩ => ?_
  subst he
  exact ⟨_, rfl, _, _, _, [], _, [], hW', trodAll_mk1 (shut_bool Try.underlying4 _), (trodAll_cons_mk (Below.trod laidOut (by kernel_rfl) (of_decide_eq_true (by kernel_rfl)) k0 bel lt0) (trodAll_cons_mk (Below.trod laidOut (by kernel_rfl) (of_decide_eq_true (by kernel_rfl)) k1 bel lt1) trodAll_mk0)), rfl, bel.frame _, fun h => by cases h⟩
theorem over : Rows.fnExactInvertEditRow.holds Try.pinned (OpenSpec.ofChange Rows.fnExactInvertEditSpec) :=
  OpenClaim.holds_of_wide 7 Try.f7 rfl rfl rfl rfl rfl rfl rfl ⟨rfl, rfl, rfl, rfl, rfl⟩ rfl rfl rfl rfl rfl (by kernel_rfl) Try.func7 (by kernel_rfl)
    (of_decide_eq_true (by kernel_rfl)) (by unfold Func.isWrapper; first | (rw [if_pos (by decide +kernel)]; kernel_rfl) | (rw [if_neg (by decide +kernel)]; exact ⟨rfl, rfl⟩))
    (fun os started H enc _ => lifted os started H enc)
theorem proved : Rows.FnExactInvertEditSaid := over
#print axioms proved
end fnExactInvertEdit

end Go.Proofs.Ytmlckocmfoiobaa
