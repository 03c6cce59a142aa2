/-
  THE CLAIM: the law FnExactIsNumberStroke returns true for every input, and its argument reads afterwards as before. Conditions: none beyond the given statement's own.
-/
import Derived.Test.YtmlckocmfoiobaaStrokeS
import Derived.ProofKit
import Derived.OpenShut
import Derived.ShutString
import Derived.ChangeOld
import Derived.Below
import Derived.Lib.SmallJoins
namespace Go.Proofs.Ytmlckocmfoiobaa
open Go.RowKit Go.Joins

set_option maxHeartbeats 400000 in
theorem FnExactIsNumberStroke_walk (a : Int) (w : World) (_ : (Lit.int .i64 a).wf = true) :
    Calls Try.prog 3 #[.int .i64 a] w fun e w' => e = .returned (.bool true) ∧ Below w.heap.size w w' := by
  go_enter Try.func3, Try.ntmps3
  go_wp2_with (first | (go_at_call 15; refine (specIsNumberStroke_any _ _).mono ?_; rintro e w1 ⟨rfl, hb1⟩; have hcf := bcell hb1; have hz1 := hb1.size; (repeat (first | simp only [World.size_alloc] at hz1 hcf | simp only [size_setCell] at hz1 hcf | simp only [size_drewN] at hz1 hcf | simp only [size_drew] at hz1 hcf)); obtain ⟨hc1, hf1⟩ := hcf; (try have hn1a : _ < w1.heap.size := Nat.lt_of_lt_of_le hn1a (by omega)); (try have hn1b : _ < w1.heap.size := Nat.lt_of_lt_of_le hn1b (by omega)); (try have hn1c : _ < w1.heap.size := Nat.lt_of_lt_of_le hn1c (by omega)); (try have hn1d : _ < w1.heap.size := Nat.lt_of_lt_of_le hn1d (by omega)); (try have hn1e : _ < w1.heap.size := Nat.lt_of_lt_of_le hn1e (by omega)); (try have ho1a : _ < w1.heap.size := Nat.lt_of_lt_of_le ho1a (by omega)); (try have ho1b : _ < w1.heap.size := Nat.lt_of_lt_of_le ho1b (by omega)); (try have ho1c : _ < w1.heap.size := Nat.lt_of_lt_of_le ho1c (by omega)); (try have ho1d : _ < w1.heap.size := Nat.lt_of_lt_of_le ho1d (by omega)); (try have ho1e : _ < w1.heap.size := Nat.lt_of_lt_of_le ho1e (by omega)); (try have hn2a : _ < w1.heap.size := Nat.lt_of_lt_of_le hn2a (by omega)); (try have hn2b : _ < w1.heap.size := Nat.lt_of_lt_of_le hn2b (by omega)); (try have hn2c : _ < w1.heap.size := Nat.lt_of_lt_of_le hn2c (by omega)); (try have hn2d : _ < w1.heap.size := Nat.lt_of_lt_of_le hn2d (by omega)); (try have hn2e : _ < w1.heap.size := Nat.lt_of_lt_of_le hn2e (by omega)); (try have ho2a : _ < w1.heap.size := Nat.lt_of_lt_of_le ho2a (by omega)); (try have ho2b : _ < w1.heap.size := Nat.lt_of_lt_of_le ho2b (by omega)); (try have ho2c : _ < w1.heap.size := Nat.lt_of_lt_of_le ho2c (by omega)); (try have ho2d : _ < w1.heap.size := Nat.lt_of_lt_of_le ho2d (by omega)); (try have ho2e : _ < w1.heap.size := Nat.lt_of_lt_of_le ho2e (by omega)); (try have ho1a := hn1a); (try have ho1b := hn1b); (try have ho1c := hn1c); (try have ho1d := hn1d); (try have ho1e := hn1e); (try have hn1a := Nat.lt_of_succ_le hz1); (try have hn1b := Nat.lt_of_succ_lt hn1a); (try have hn1c := Nat.lt_of_succ_lt hn1b); (try have hn1d := Nat.lt_of_succ_lt hn1c); (try have hn1e := Nat.lt_of_succ_lt hn1d); (try have htA : w.heap.size < w1.heap.size := by omega)) | (go_at_call 16; refine (IsNumberStroke_any _ _).mono ?_; rintro e w2 ⟨rfl, hb2⟩; have hcf := bcell hb2; have hz2 := hb2.size; (repeat (first | simp only [World.size_alloc] at hz2 hcf | simp only [size_setCell] at hz2 hcf | simp only [size_drewN] at hz2 hcf | simp only [size_drew] at hz2 hcf)); obtain ⟨hc2, hf2⟩ := hcf; (try have hn1a : _ < w2.heap.size := Nat.lt_of_lt_of_le hn1a (by omega)); (try have hn1b : _ < w2.heap.size := Nat.lt_of_lt_of_le hn1b (by omega)); (try have hn1c : _ < w2.heap.size := Nat.lt_of_lt_of_le hn1c (by omega)); (try have hn1d : _ < w2.heap.size := Nat.lt_of_lt_of_le hn1d (by omega)); (try have hn1e : _ < w2.heap.size := Nat.lt_of_lt_of_le hn1e (by omega)); (try have ho1a : _ < w2.heap.size := Nat.lt_of_lt_of_le ho1a (by omega)); (try have ho1b : _ < w2.heap.size := Nat.lt_of_lt_of_le ho1b (by omega)); (try have ho1c : _ < w2.heap.size := Nat.lt_of_lt_of_le ho1c (by omega)); (try have ho1d : _ < w2.heap.size := Nat.lt_of_lt_of_le ho1d (by omega)); (try have ho1e : _ < w2.heap.size := Nat.lt_of_lt_of_le ho1e (by omega)); (try have hn2a : _ < w2.heap.size := Nat.lt_of_lt_of_le hn2a (by omega)); (try have hn2b : _ < w2.heap.size := Nat.lt_of_lt_of_le hn2b (by omega)); (try have hn2c : _ < w2.heap.size := Nat.lt_of_lt_of_le hn2c (by omega)); (try have hn2d : _ < w2.heap.size := Nat.lt_of_lt_of_le hn2d (by omega)); (try have hn2e : _ < w2.heap.size := Nat.lt_of_lt_of_le hn2e (by omega)); (try have ho2a : _ < w2.heap.size := Nat.lt_of_lt_of_le ho2a (by omega)); (try have ho2b : _ < w2.heap.size := Nat.lt_of_lt_of_le ho2b (by omega)); (try have ho2c : _ < w2.heap.size := Nat.lt_of_lt_of_le ho2c (by omega)); (try have ho2d : _ < w2.heap.size := Nat.lt_of_lt_of_le ho2d (by omega)); (try have ho2e : _ < w2.heap.size := Nat.lt_of_lt_of_le ho2e (by omega)); (try have ho2a := hn2a); (try have ho2b := hn2b); (try have ho2c := hn2c); (try have ho2d := hn2d); (try have ho2e := hn2e); (try have hn2a := Nat.lt_of_succ_le hz2); (try have hn2b := Nat.lt_of_succ_lt hn2a); (try have hn2c := Nat.lt_of_succ_lt hn2b); (try have hn2d := Nat.lt_of_succ_lt hn2c); (try have hn2e := Nat.lt_of_succ_lt hn2d); (try have htA : w.heap.size < w2.heap.size := by omega)))
  all_goals go_ret
  all_goals exact ⟨rfl, Below.trans hb1 (hb2.mono (by assumption))⟩

namespace fnExactIsNumberStroke
open Go.ChangeShapes Go.WideShapes Go.ChangeAt Go.RowKit
open Go.ChangeMaps (open_string shut_string)
set_option linter.unusedVariables false
theorem own : ownKnob Try.prog.godebug = none := by kernel_rfl
theorem laidOut : laidOutB Try.prog = true := by kernel_rfl
set_option maxRecDepth 100000 in
theorem lifted (os : Os) (started : os.Started) (H : Type) (enc : TypeId × Value → H) :
    ReturnsInHanded {} Try.checked os 3 .any (Rows.fnExactIsNumberStrokeSpec.pre6 enc Try.prog Try.f3 Rows.fnExactIsNumberStrokeRow.domain false) (Rows.fnExactIsNumberStrokeSpec.post enc Try.prog Try.f3 false true false false) := by
  refine returnsInHanded_of_change (C := Try.checked) own started (by kernel_rfl) Try.func3
    (ChangeSpec.witness6 (enc := enc) (C := Try.checked) false ⟨#[], #[.int .i64 0], []⟩ 8 (by kernel_rfl) (by kernel_rfl) (by kernel_rfl) (by kernel_rfl)) ?_
  intro W base args ds gs before hval0 hW hcnd _
  have hval : ∀ (j : Nat) t v, Try.f3.params[j]? = some t → args[j]? = some v → Value.okWide Try.prog W .any base t v := hval0
  have hW' := hW
  obtain ⟨p, q, hA0, hV, rfl, hfz, hnd⟩ := hW
  have hA : DataW.TrodAll enc Try.prog W 0 (fun _ => true) true Try.f3.params.toList args.toList ds p := hA0
  rw [Try.params3] at hA hval
  obtain ⟨v0, vs0, d0, ds0, p0, q0, hargs, rfl, rfl, h0, r0⟩ := trodAll_cons hA
  obtain ⟨rfl, rfl, rfl⟩ := trodAll_nil r0
  obtain rfl : args = #[v0] := by cases args; simp_all
  obtain ⟨rfl, rfl⟩ := trodVars_none hV
  have k0 := h0
  have lt0 : ∀ x ∈ p0, x.block < W.heap.size := by obtain ⟨m, hm⟩ := k0; exact DataW.trod_lt m _ _ _ hm
  obtain ⟨a0, rfl, rfl, rfl, w0⟩ := open_int Try.underlying3 (hval 0 3 v0 rfl rfl) h0
  clear hA0 hval0
  refine (FnExactIsNumberStroke_walk a0 W w0).mono fun e W' ⟨he, bel⟩ => ?_
  subst he
  exact ⟨_, rfl, _, _, _, [], _, [], hW', trodAll_mk1 (shut_bool Try.underlying4 _), (trodAll_cons_mk (Below.trod laidOut (by kernel_rfl) (of_decide_eq_true (by kernel_rfl)) k0 bel lt0) trodAll_mk0), rfl, bel.frame _, fun h => by cases h⟩
theorem over : Rows.fnExactIsNumberStrokeRow.holds Try.pinned (OpenSpec.ofChange Rows.fnExactIsNumberStrokeSpec) :=
  OpenClaim.holds_of_wide 3 Try.f3 rfl rfl rfl rfl rfl rfl rfl ⟨rfl, rfl, rfl, rfl, rfl⟩ rfl rfl rfl rfl rfl (by kernel_rfl) Try.func3 (by kernel_rfl)
    (of_decide_eq_true (by kernel_rfl)) (by unfold Func.isWrapper; first | (rw [if_pos (by decide +kernel)]; kernel_rfl) | (rw [if_neg (by decide +kernel)]; exact ⟨rfl, rfl⟩))
    (fun os started H enc _ => lifted os started H enc)
theorem proved : Rows.FnExactIsNumberStrokeSaid := over
#print axioms proved
end fnExactIsNumberStroke

end Go.Proofs.Ytmlckocmfoiobaa
