/-
  THE CLAIM: the law FnExactRender returns true for every input, and its argument reads afterwards as before. Conditions: none beyond the given statement's own.
-/
import Derived.Test.YtfakaeddkhajbaaStRender
import Derived.Test.YtfakaeddkhajbaaOpenFold
import Derived.ProofKit
import Derived.OpenShut
import Derived.ShutString
import Derived.ChangeOld
import Derived.Below
import Derived.WalkSmall
import Derived.Test.YtfakaeddkhajbaaOpen
namespace Go.Proofs.Ytfakaeddkhajbaa
open Go.RowKit

set_option maxHeartbeats 1600000 in
theorem FnExactRender_walk (v : Value) (l : List (Int × ByteArray)) (w : World) (hr0 : Rows w v l.length 2 (folds l) ∧ (∀ q ∈ l, q.2.size ≤ maxLen)) :
    Calls Try.prog 9 #[v] w fun e w' => e = .returned (.bool true) ∧ Below w.heap.size w w' := by
  have HR := Lib.hid hr0.1; have HZ := Lib.hid hr0.2; clear hr0
  obtain ⟨a, cap, rfl, -⟩ := HR.out
  have HS := Lib.hid (fun W v h => specRender_any v l W h HZ.out)
  have HI := Lib.hid (fun W v h => Render_any v l W h HZ.out)
  generalize Pl.renderOut l = rt at HS HI
  generalize Pl.renderOk l = ok at HS HI
  go_enter Try.func9, Try.ntmps9
  go_wp2_with (first
    | (go_at_call 53; refine (toAtomS_any _ l _ (HR.out.keep B4.out) HF.out.1).mono ?_; rintro e w5 ⟨x5, rfl, hown5', hb5⟩; have hown5 := Lib.hid hown5'; have B5 := Lib.hid (below_nx B4.out hb5); have hown6 := Lib.hid (own_keep hown4.out hb5); clear hown4 hb5 hown5')
    | (go_at_call 53; refine (toAtomS_any _ l _ (HR.out.keep B2.out) HF.out.1).mono ?_; rintro e w3 ⟨x3, rfl, hown3', hb3⟩; have hown3 := Lib.hid hown3'; have B3 := Lib.hid (below_nx B2.out hb3); clear hb3 hown3')
    | (go_at_call 53; have HF := Lib.hid (HG.out (by omega)); refine (toAtomS_any _ l _ (HR.out.keep B0.out) HF.out.1).mono ?_; rintro e w1 ⟨x1, rfl, hown1', hb1⟩; have hown1 := Lib.hid hown1'; have B1 := Lib.hid (below_nx B0.out hb1); clear hown1' hb1)
    | (go_at_call 51; refine (szAtomS_any _ l _ HR.out HZ.out).mono ?_; rintro e w0 ⟨⟨r, rfl, hfit⟩, hb0⟩; have HG := Lib.hid hfit; have B0 := Lib.hid hb0; clear hfit hb0)
    | (go_at_call 52; refine (HS.out _ _ (Rows.of_own hown1.out)).mono ?_; rintro e w2 ⟨rfl, hb2⟩; have B2 := Lib.hid (below_nx B1.out hb2); clear hown1 hb2)
    | (go_at_call 54; refine (HI.out _ _ (Rows.of_own hown3.out)).mono ?_; rintro e w4 ⟨rfl, hb4⟩; have B4 := Lib.hid (below_nx B3.out hb4); have hown4 := Lib.hid (own_keep hown3.out hb4); clear hown3 hb4)
    | (go_at_call 55; refine (eqAtomS_same _ _ l _ (Rows.of_own hown6.out) (Rows.of_own hown5.out) HF.out.1).mono ?_; rintro e w6 ⟨rfl, hd6⟩; have B6 := Lib.hid (below_nx B5.out hd6); clear hown6 hown5 hd6))
  all_goals go_ret
  all_goals first | exact ⟨rfl, B6.out⟩ | exact ⟨rfl, B0.out⟩

namespace fnExactRender
open Go.ChangeShapes Go.WideShapes Go.ChangeAt Go.RowKit
open Go.ChangeMaps (open_string shut_string)
set_option linter.unusedVariables false
theorem own : ownKnob Try.prog.godebug = none := by kernel_rfl
theorem laidOut : laidOutB Try.prog = true := by kernel_rfl
set_option maxRecDepth 100000 in
theorem lifted (os : Os) (started : os.Started) (H : Type) (enc : TypeId × Value → H) :
    ReturnsInHanded {} Try.checked os 9 .any (Rows.fnExactRenderSpec.pre6 enc Try.prog Try.f9 Rows.fnExactRenderRow.domain false) (Rows.fnExactRenderSpec.post enc Try.prog Try.f9 false true false false) := by
  refine returnsInHanded_of_change (C := Try.checked) own started (by kernel_rfl) Try.func9
    (ChangeSpec.witness6 (enc := enc) (C := Try.checked) false ⟨#[], #[.slice none 0 0], []⟩ 8 (by kernel_rfl) (by kernel_rfl) (by kernel_rfl) (by kernel_rfl)) ?_
  intro W base args ds gs before hval0 hW hcnd _
  have hval : ∀ (j : Nat) t v, Try.f9.params[j]? = some t → args[j]? = some v → Value.okWide Try.prog W .any base t v := hval0
  have hW' := hW
  obtain ⟨p, q, hA0, hV, rfl, hfz, hnd⟩ := hW
  have hA : DataW.TrodAll enc Try.prog W 0 (fun _ => true) true Try.f9.params.toList args.toList ds p := hA0
  rw [Try.params9] at hA hval
  obtain ⟨v0, vs0, d0, ds0, p0, q0, hargs, rfl, rfl, h0, r0⟩ := trodAll_cons hA
  obtain ⟨rfl, rfl, rfl⟩ := trodAll_nil r0
  obtain rfl : args = #[v0] := by cases args; simp_all
  obtain ⟨rfl, rfl⟩ := trodVars_none hV
  have k0 := h0
  have lt0 : ∀ x ∈ p0, x.block < W.heap.size := by obtain ⟨m, hm⟩ := k0; exact DataW.trod_lt m _ _ _ hm
  obtain ⟨a0, w0⟩ := (fun W v hv h => open_foldsR (w := W) (v := v) Try.underlying67 Try.underlying56 (by kernel_rfl) rfl rfl (by kernel_rfl) (by kernel_rfl) Try.underlying3 Try.underlying9 hv h) W v0 (hval 0 67 v0 rfl rfl) h0
  clear hA0 hval0
  refine (FnExactRender_walk v0 a0 W w0).mono fun e W' ⟨he, bel⟩ => ?_
  subst he
  exact ⟨_, rfl, _, _, _, [], _, [], hW', trodAll_mk1 (shut_bool Try.underlying4 _), (trodAll_cons_mk (Below.trod laidOut (by kernel_rfl) (of_decide_eq_true (by kernel_rfl)) k0 bel lt0) trodAll_mk0), rfl, bel.frame _, fun h => by cases h⟩
theorem over : Rows.fnExactRenderRow.holds Try.pinned (OpenSpec.ofChange Rows.fnExactRenderSpec) :=
  OpenClaim.holds_of_wide 9 Try.f9 rfl rfl rfl rfl rfl rfl rfl ⟨rfl, rfl, rfl, rfl, rfl⟩ rfl rfl rfl rfl rfl (by kernel_rfl) Try.func9 (by kernel_rfl)
    (of_decide_eq_true (by kernel_rfl)) (by unfold Func.isWrapper; first | (rw [if_pos (by decide +kernel)]; kernel_rfl) | (rw [if_neg (by decide +kernel)]; exact ⟨rfl, rfl⟩))
    (fun os started H enc _ => lifted os started H enc)
theorem proved : Rows.FnExactRenderSaid := over
#print axioms proved
end fnExactRender

end Go.Proofs.Ytfakaeddkhajbaa
