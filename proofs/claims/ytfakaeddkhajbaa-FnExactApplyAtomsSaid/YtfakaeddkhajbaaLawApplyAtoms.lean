/-
  THE CLAIM: the law FnExactApplyAtoms returns true for every input, and its arguments read afterwards as before. Conditions: none beyond the given statement's own.
-/
import Derived.Test.YtfakaeddkhajbaaStRender
import Derived.Test.YtfakaeddkhajbaaOpenFold
import Derived.ProofKit
import Derived.OpenShut
import Derived.ShutString
import Derived.ChangeOld
import Derived.Below
import Derived.WalkSmall
import Derived.Test.YtfakaeddkhajbaaOpen
namespace Go.Proofs.Ytfakaeddkhajbaa
open Go.RowKit

set_option maxRecDepth 20000 in
set_option maxHeartbeats 1600000 in
theorem FnExactApplyAtoms_walk (t : ByteArray) (j g : Bool) (c k : Int) (v : Value) (l : List (Int × ByteArray)) (w : World) (ht : t.size ≤ maxLen) (_hc : (Lit.int .i64 c).wf = true) (_hk : (Lit.int .i64 k).wf = true) (hr0 : Rows w v l.length 2 (folds l) ∧ (∀ q ∈ l, q.2.size ≤ maxLen)) :
    Calls Try.prog 11 #[.agg #[.string t, .bool j, .bool g, .int .i64 c, .int .i64 k], v] w fun e w' => e = .returned (.bool true) ∧ Below w.heap.size w w' := by
  have S0 := Lib.hid (St.new w t j g c k 54)
  have B0 := Lib.hid (Joins.below_alloc1 w (.cells #[.string t, .bool j, .bool g, .int .i64 c, .int .i64 k] 54))
  have HR := Lib.hid hr0.1; have HZ := Lib.hid hr0.2; clear hr0
  obtain ⟨ar, cap, rfl, -⟩ := HR.out
  by_cases hs1 : (1048576 : Int) < (t.size : Int)
  · go_enter Try.func11, Try.ntmps11
    go_wp2_with (go_at_call 44; refine (szState_any _ _ _ _ _ _ _ ht (by omega) (by omega)).mono ?_; rintro e w1 ⟨he, hb1⟩; rw [if_pos hs1] at he; subst he)
    go_ret
    exact ⟨rfl, below_nx B0.out hb1⟩
  have HS := Lib.hid (fun W v h => specApplyAtoms_any t j g c k v l W ht h HZ.out)
  have HI := Lib.hid (fun W v h => ApplyAtoms_any t j g c k v l W ht h HZ.out)
  generalize Pl.apsOut ⟨t, j, g, c, k⟩ l = r at HS HI
  generalize Pl.apsOk ⟨t, j, g, c, k⟩ l = ok at HS HI
  obtain ⟨t', j', g', c', k'⟩ := r
  dsimp only at HS HI
  have h0 : (0 : Int) ≤ 1048576 - (t.size : Int) := by omega
  have h1 : (1048576 : Int) - (t.size : Int) ≤ 1048576 := by omega
  go_enter Try.func11, Try.ntmps11
  go_wp2_with (first
    | (have q0 := B7; go_at_call 55; refine (eqAtomS_same _ _ l _ (Rows.of_own X8.out) (Rows.of_own Y8.out) HF.out.1).mono ?_; rintro e w9 ⟨rfl, hd9⟩; have B9 := Lib.hid (below_nx B8.out hd9); clear X8 Y8 hd9)
    | (have q0 := B7; go_at_call 53; refine (toAtomS_any _ l _ (HR.out.keep B7.out) HF.out.1).mono ?_; rintro e w8 ⟨y8, rfl, hown8, hb8⟩; have Y8 := Lib.hid hown8; have B8 := Lib.hid (below_nx B7.out hb8); have X8 := Lib.hid (own_keep X7.out hb8); clear X7 hb8 hown8)
    | (go_at_call 50; refine (eqState_same _ _ _ _ _ _).mono ?_; rintro e w7 ⟨rfl, hb7⟩; have B7 := Lib.hid (below_nx (B6.out.alloc B6.out.size _) hb7); have X7 := Lib.hid (own_keep (own_keep X6.out ((Below.refl _ _).alloc (Nat.le_refl _) _)) hb7); clear X6 hb7 d0 d1 d2 d3 d4)
    | (go_at_call 60; refine (HI.out _ _ (Rows.of_own X5.out)).mono ?_; rintro e w6 ⟨rfl, hb6⟩; have B6 := Lib.hid (below_nx B5.out hb6); have X6 := Lib.hid (own_keep X5.out hb6); have Q6 := Lib.hid (Q5.out.keep hb6); have lt6 := Q6.out.lt; obtain ⟨d0, d1, d2, d3, d4, _⟩ := Q6.out; dsimp only at d0 d1 d2 d3 d4; clear X5 Q5 hb6)
    | (have q0 := Q4; go_at_call 47; refine (toState_any _ _ _ _ _ _).mono ?_; rintro e w5 ⟨rfl, hb5⟩; have B5 := Lib.hid (below_nx B4.out hb5); have X5 := Lib.hid (own_keep X4.out hb5); have Q5 := Lib.hid (Q4.out.keep hb5); clear X4 q0 Q4 hb5 a0 a1 a2 a3 a4)
    | (have q0 := S3; go_at_call 53; refine (toAtomS_any _ l _ (HR.out.keep (B3.out.alloc B3.out.size _)) HF.out.1).mono ?_; rintro e w4 ⟨x4, rfl, hown4, hb4⟩; have X4 := Lib.hid hown4; have B4 := Lib.hid (below_nx (B3.out.alloc B3.out.size _) hb4); have S4 := Lib.hid ((S3.out.alloc _).keep hb4); have Q4 := Lib.hid ((St.new w3 t' j' g' c' k' _).keep hb4); clear q0 S3 hb4 hown4; obtain ⟨a0, a1, a2, a3, a4, _⟩ := S4.out; dsimp only at a0 a1 a2 a3 a4)
    | (go_at_call 59; refine (HS.out _ _ (Rows.of_own X2.out)).mono ?_; rintro e w3 ⟨rfl, hb3⟩; have B3 := Lib.hid (below_nx B2.out hb3); have S3 := Lib.hid (S2.out.keep hb3); clear X2 S2 hb3)
    | (have q0 := T1; go_at_call 53; have HF := Lib.hid (HG.out (by omega)); refine (toAtomS_any _ l _ (HR.out.keep B1.out) HF.out.1).mono ?_; rintro e w2 ⟨x2, rfl, hown2, hb2⟩; have X2 := Lib.hid hown2; have B2 := Lib.hid (below_nx B1.out hb2); have S2 := Lib.hid (T1.out.keep hb2); clear q0 T1 hb2 hown2)
    | (go_at_call 47; refine (toState_any _ _ _ _ _ _).mono ?_; rintro e w1 ⟨rfl, hb1⟩; have B1 := Lib.hid (below_nx BB.out hb1); have T1 := Lib.hid (SB.out.keep hb1); clear hb1 SB e0 e1 e2 e3 e4)
    | (go_at_call 44; refine (szState_any _ _ _ _ _ _ _ ht (by omega) (by omega)).mono ?_; rintro e wa ⟨he, hba⟩; rw [if_neg (by omega)] at he; subst he; have BA := Lib.hid (below_nx B0.out hba); have SA := Lib.hid (S0.out.keep hba); clear hba)
    | (go_at_call 51; refine (szAtomS_gen _ h0 h1 _ l _ (HR.out.keep BA.out) HZ.out).mono ?_; rintro e wb ⟨⟨r, rfl, hfit⟩, hbb⟩; have HG := Lib.hid hfit; have BB := Lib.hid (below_nx BA.out hbb); have SB := Lib.hid (SA.out.keep hbb); clear hfit hbb SA; obtain ⟨e0, e1, e2, e3, e4, _⟩ := SB.out; dsimp only at e0 e1 e2 e3 e4))
  all_goals go_ret
  all_goals first | exact ⟨rfl, B9.out⟩ | exact ⟨rfl, BB.out⟩

namespace fnExactApplyAtoms
open Go.ChangeShapes Go.WideShapes Go.ChangeAt Go.RowKit
open Go.ChangeMaps (open_string shut_string)
set_option linter.unusedVariables false
theorem own : ownKnob Try.prog.godebug = none := by kernel_rfl
theorem laidOut : laidOutB Try.prog = true := by kernel_rfl
set_option maxRecDepth 100000 in
theorem lifted (os : Os) (started : os.Started) (H : Type) (enc : TypeId × Value → H) :
    ReturnsInHanded {} Try.checked os 11 .any (Rows.fnExactApplyAtomsSpec.pre6 enc Try.prog Try.f11 Rows.fnExactApplyAtomsRow.domain false) (Rows.fnExactApplyAtomsSpec.post enc Try.prog Try.f11 false true false false) := by
  refine returnsInHanded_of_change (C := Try.checked) own started (by kernel_rfl) Try.func11
    (ChangeSpec.witness6 (enc := enc) (C := Try.checked) false ⟨#[], #[.agg #[.string ⟨#[]⟩, .bool false, .bool false, .int .i64 0, .int .i64 0], .slice none 0 0], []⟩ 8 (by kernel_rfl) (by kernel_rfl) (by kernel_rfl) (by kernel_rfl)) ?_
  intro W base args ds gs before hval0 hW hcnd _
  have hval : ∀ (j : Nat) t v, Try.f11.params[j]? = some t → args[j]? = some v → Value.okWide Try.prog W .any base t v := hval0
  have hW' := hW
  obtain ⟨p, q, hA0, hV, rfl, hfz, hnd⟩ := hW
  have hA : DataW.TrodAll enc Try.prog W 0 (fun _ => true) true Try.f11.params.toList args.toList ds p := hA0
  rw [Try.params11] at hA hval
  obtain ⟨v0, vs0, d0, ds0, p0, q0, hargs, rfl, rfl, h0, r0⟩ := trodAll_cons hA
  obtain ⟨v1, vs1, d1, ds1, p1, q1, rfl, rfl, rfl, h1, r1⟩ := trodAll_cons r0
  obtain ⟨rfl, rfl, rfl⟩ := trodAll_nil r1
  obtain rfl : args = #[v0, v1] := by cases args; simp_all
  obtain ⟨rfl, rfl⟩ := trodVars_none hV
  have k0 := h0
  have lt0 : ∀ x ∈ p0, x.block < W.heap.size := by obtain ⟨m, hm⟩ := k0; exact DataW.trod_lt m _ _ _ hm
  obtain ⟨cs0, rfl, hl0, m0, hg0⟩ := open_agg Try.underlying54 (by kernel_rfl) (by kernel_rfl) (hval 0 54 v0 rfl rfl) h0
  obtain ⟨c0a, y0a, g0a, t0a⟩ := hg0 0 _ rfl
  obtain ⟨a0a, e0a, _, w0a⟩ := DataW.trod_string Try.underlying9 t0a
  simp only [List.cons.injEq, and_true] at e0a; subst e0a
  obtain ⟨c0b, y0b, g0b, t0b⟩ := hg0 1 _ rfl
  obtain ⟨a0b, e0b, _⟩ := DataW.trod_bool Try.underlying4 t0b
  simp only [List.cons.injEq, and_true] at e0b; subst e0b
  obtain ⟨c0c, y0c, g0c, t0c⟩ := hg0 2 _ rfl
  obtain ⟨a0c, e0c, _⟩ := DataW.trod_bool Try.underlying4 t0c
  simp only [List.cons.injEq, and_true] at e0c; subst e0c
  obtain ⟨c0d, y0d, g0d, t0d⟩ := hg0 3 _ rfl
  obtain ⟨a0d, e0d, _, w0d⟩ := DataW.trod_int Try.underlying3 t0d
  simp only [List.cons.injEq, and_true] at e0d; subst e0d
  obtain ⟨c0e, y0e, g0e, t0e⟩ := hg0 4 _ rfl
  obtain ⟨a0e, e0e, _, w0e⟩ := DataW.trod_int Try.underlying3 t0e
  simp only [List.cons.injEq, and_true] at e0e; subst e0e
  obtain rfl := list5 hl0 g0a g0b g0c g0d g0e
  have k1 := h1
  have lt1 : ∀ x ∈ p1, x.block < W.heap.size := by obtain ⟨m, hm⟩ := k1; exact DataW.trod_lt m _ _ _ hm
  obtain ⟨a1, w1⟩ := (fun W v hv h => open_foldsR (w := W) (v := v) Try.underlying67 Try.underlying56 (by kernel_rfl) rfl rfl (by kernel_rfl) (by kernel_rfl) Try.underlying3 Try.underlying9 hv h) W v1 (hval 1 67 v1 rfl rfl) h1
  clear hA0 hval0
  refine (FnExactApplyAtoms_walk a0a a0b a0c a0d a0e v1 a1 W w0a w0d w0e w1).mono fun e W' ⟨he, bel⟩ => ?_
  subst he
  exact ⟨_, rfl, _, _, _, [], _, [], hW', trodAll_mk1 (shut_bool Try.underlying4 _), (trodAll_cons_mk (Below.trod laidOut (by kernel_rfl) (of_decide_eq_true (by kernel_rfl)) k0 bel lt0) (trodAll_cons_mk (Below.trod laidOut (by kernel_rfl) (of_decide_eq_true (by kernel_rfl)) k1 bel lt1) trodAll_mk0)), rfl, bel.frame _, fun h => by cases h⟩
theorem over : Rows.fnExactApplyAtomsRow.holds Try.pinned (OpenSpec.ofChange Rows.fnExactApplyAtomsSpec) :=
  OpenClaim.holds_of_wide 11 Try.f11 rfl rfl rfl rfl rfl rfl rfl ⟨rfl, rfl, rfl, rfl, rfl⟩ rfl rfl rfl rfl rfl (by kernel_rfl) Try.func11 (by kernel_rfl)
    (of_decide_eq_true (by kernel_rfl)) (by unfold Func.isWrapper; first | (rw [if_pos (by decide +kernel)]; kernel_rfl) | (rw [if_neg (by decide +kernel)]; exact ⟨rfl, rfl⟩))
    (fun os started H enc _ => lifted os started H enc)
theorem proved : Rows.FnExactApplyAtomsSaid := over
#print axioms proved
end fnExactApplyAtoms

end Go.Proofs.Ytfakaeddkhajbaa
