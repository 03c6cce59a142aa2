/-
  THE CLAIM: the law FnExactLookupFolded returns true for every input, and its arguments read afterwards as before. Conditions: the given row's own (the listed tables of the library read as the program's text lays them; the card ties them).
-/
import Derived.Test.YtkbbcmbeafjpaaaGreatDoorLookS
import Derived.Test.YtkbbcmbeafjpaaaGreatDoorBasB
import Derived.Test.YtkbbcmbeafjpaaaGreatDoorOpenFold
import Derived.Test.YtkbbcmbeafjpaaaGreatDoorFctFnExactLookupFolded
import Derived.Test.YtkbbcmbeafjpaaaGreatDoorBasA
import Derived.Test.YtkbbcmbeafjpaaaGreatDoorTie
import Derived.Test.YtkbbcmbeafjpaaaGreatDoorCards
import Derived.ProofKit
import Derived.OpenShut
import Derived.ShutString
import Derived.ChangeOld
import Derived.Below
import Derived.WalkSmall
namespace Go.Proofs.YtkbbcmbeafjpaaaGreatDoor
open Go.RowKit

set_option maxRecDepth 20000 in
set_option maxHeartbeats 6400000 in
theorem FnExactLookupFolded_walk (v0 : Value) (l0 : List Ent) (v1 : Value) (l1 : List (Int × ByteArray)) (v2 : Value) (l2 : List Int) (W : World) (hm : ∃ m, W.cell? ⟨0, 0, none⟩ = some (.int .i64 m)) (h0 : ∃ u, v0 = .agg #[u] ∧ Ents W u l0 ∧ (∀ q ∈ l0, (∀ n ∈ q.1, (Lit.int .i64 n).wf = true) ∧ q.2.size ≤ maxLen)) (h1 : Rows W v1 l1.length 2 (folds l1) ∧ (∀ q ∈ l1, q.2.size ≤ maxLen)) (h2 : Rows W v2 l2.length 1 (ints l2) ∧ (∀ n ∈ l2, (Lit.int .i64 n).wf = true)) :
    Calls Tryz.prog 7 #[v0, v1, v2] W fun e W' => e = .returned (.bool true) ∧ Below W.heap.size W W' := by
  obtain ⟨v0, rfl, hr0, hz0⟩ := h0
  have HR0 := Lib.hid hr0
  have HR1 := Lib.hid h1.1
  have HZ1 := Lib.hid h1.2
  have HR2 := Lib.hid h2.1
  have HB0 := Lib.hid (Joins.below_alloc1 W (.cells #[v0] 55))
  have HM0 := Lib.hid (max_keepT hm HB0.out)
  obtain ⟨a0, k0, rfl, _, _⟩ := ent_form hr0
  obtain ⟨a1, k1, rfl, _, _⟩ := rows_form h1.1
  obtain ⟨a2, k2, rfl, _, _⟩ := rows_form h2.1
  have d0 := Lib.hid (show (W.alloc (.cells #[.slice a0 l0.length k0] 55)).cell? ⟨W.heap.size, 0, none⟩ = some (.slice a0 l0.length k0) by simp [go_sem])
  have HS0 := Lib.hid (fun W h1 => szDictionary_any (.slice a0 l0.length k0) l0 1048576 W h1 hz0 (by omega) (by omega))
  have HS1 := Lib.hid (fun (n : Int) W h1 h2 h3 => szFoldS_gen n h2 h3 (.slice a1 l1.length k1) l1 W h1 HZ1.out)
  unfold SzLeft at HS0 HS1
  clear hr0 hz0 hm h1 h2
  by_cases hol2 : 1048576 < l2.length
  · go_enter Tryz.func7, Tryz.ntmps7
    go_wp2
    go_ret
    exact ⟨rfl, HB0.out⟩
  have hq2 : l2.length ≤ 1048576 := by omega
  have HE0 := Lib.hid (HR0.out.keep HB0.out)
  go_enter Tryz.func7, Tryz.ntmps7
  go_upto_region 5 with (go_at_call 28; (with_reducible refine (HS0.out _ HE0.out).mono ?_); rintro e w1 ⟨⟨r0, rfl, p1, p2, p3⟩, hb1⟩; have HB1 := Lib.hid (HB0.out.trans (hb1.mono HB0.out.size)); have d1 := keepcT hb1 d0.out; have HM1 := Lib.hid (max_keepT HM0.out hb1); clear hb1)
  by_cases hneg0 : r0 < 0
  · go_wp2
    go_ret
    exact ⟨rfl, HB1.out⟩
  have HF0 := Lib.hid (p3 (by omega))
  have hr0_0 : 0 ≤ r0 := by omega
  have hr0_1 : r0 ≤ 1048576 := by omega
  clear p1 p2 p3 HS0 HE0 d0 HM0
  go_upto_region 8 with (go_at_call 40; (with_reducible refine (HS1.out _ _ (HR1.out.keep HB1.out) hr0_0 hr0_1).mono ?_); rintro e w2 ⟨⟨r1, rfl, p1, p2, p3⟩, hb2⟩; have HB2 := Lib.hid (HB1.out.trans (hb2.mono HB1.out.size)); have d2 := keepcT hb2 d1; have HM2 := Lib.hid (max_keepT HM1.out hb2); clear hb2)
  by_cases hneg1 : r1 < 0
  · go_wp2
    go_ret
    exact ⟨rfl, HB2.out⟩
  have HF1 := Lib.hid (p3 (by omega))
  have hr1_0 : 0 ≤ r1 := by omega
  have hr1_1 : r1 ≤ 1048576 := by omega
  have hq1 : l1.length ≤ 1048576 := HF1.out.1
  clear p1 p2 p3 HS1 d1
  have HT0 := Lib.hid (fun W h => toDictionary_any (.slice a0 l0.length k0) l0 W h HF0.out)
  have HT1 := Lib.hid (fun W h => toFoldS_any (.slice a1 l1.length k1) l1 W h HF1.out.1)
  have HT2 := Lib.hid (fun W h => toIntS_any (.slice a2 l2.length k2) l2 W h hq2)
  unfold RetDict at HT0
  unfold RetRow at HT1 HT2
  have HSL := Lib.hid (fun V Y Z W h1 h2 h3 => specLookupFolded_any V Y Z l0 l1 l2 W h1 HF0.out.1 HF0.out.2 h2 HF1.out h3 hq2)
  have HIL := Lib.hid (fun V Y Z W h1 h2 h3 h4 => LookupFolded_any V Y Z l0 l1 l2 W h1 HF0.out.1 HF0.out.2 h2 HF1.out h3 hq2 h4)
  generalize lfOut l0 l1 l2 = q at HSL HIL
  obtain ⟨qa, qb, qt⟩ := q
  clear hneg0 hneg1
  go_upto_region 17 with (first
    | (go_at_call 43; have hx := HB9; (with_reducible refine (HIL.out _ _ _ _ X0_9.out X1_9.out X2_9.out HM9.out).mono ?_); rintro e w10 ⟨rfl, hb10⟩; have HB10 := Lib.hid (HB9.out.trans (hb10.mono HB9.out.size)); have HM10 := Lib.hid (max_keepT HM9.out hb10); have d10 := keepcT hb10 d9; have c10 := keepcT hb10 c9; have X0_10 := Lib.hid (X0_9.out.keep hb10); have X1_10 := Lib.hid (X1_9.out.keep hb10); have X2_10 := Lib.hid (X2_9.out.keep hb10); clear hx hb10)
    | (go_at_call 16; have hx := HB8; (with_reducible refine (HT2.out _ (HR2.out.keep HB8.out)).mono ?_); rintro e w9 ⟨v9, rfl, hown9, hb9⟩; obtain ⟨g9, q9, rfl⟩ := row_formD hown9; have X2_9 := Lib.hid (Rows.of_own hown9); have HB9 := Lib.hid (HB8.out.trans (hb9.mono HB8.out.size)); have HM9 := Lib.hid (max_keepT HM8.out hb9); have d9 := keepcT hb9 d8; have c9 := keepcT hb9 c8; have X0_9 := Lib.hid (X0_8.out.keep hb9); have X1_9 := Lib.hid (X1_8.out.keep hb9); clear hx hb9)
    | (go_at_call 42; have hx := HB7; (with_reducible refine (HT1.out _ (HR1.out.keep HB7.out)).mono ?_); rintro e w8 ⟨v8, rfl, hown8, hb8⟩; obtain ⟨g8, q8, rfl⟩ := row_formD hown8; have X1_8 := Lib.hid (Rows.of_own hown8); have HB8 := Lib.hid (HB7.out.trans (hb8.mono HB7.out.size)); have HM8 := Lib.hid (max_keepT HM7.out hb8); have d8 := keepcT hb8 d7; have c8 := keepcT hb8 c7; have X0_8 := Lib.hid (X0_7.out.keep hb8); clear hx hb8)
    | (go_at_call 30; have hx := HB6; (with_reducible refine (HT0.out _ (HR0.out.keep HB6.out)).mono ?_); rintro e w7 ⟨v7, rfl, hown7, hb7⟩; have HBq := HB6.out.trans (hb7.mono HB6.out.size); have X0q := hown7.ents; obtain ⟨g7, q7, rfl, _, _⟩ := ent_form X0q; have HMq := max_keepT HM6.out hb7; have HBb := Joins.below_alloc1 w7 (.cells #[.slice g7 l0.length q7] 41); have HB7 := Lib.hid (below_on3 HBq HBb); have d7 := keepcT HBb (keepcT hb7 d6); have X0_7 := Lib.hid (X0q.keep HBb); have HM7 := Lib.hid (max_keepT HMq HBb); have c7 : (w7.alloc (.cells #[.slice g7 l0.length q7] 41)).cell? ⟨w7.heap.size, 0, none⟩ = some (.slice g7 l0.length q7) := (by simp [go_sem]); clear hx hown7 hb7 HBb X0q HMq HBq)
    | (go_at_call 41; have hx := HB5; (with_reducible refine (HSL.out _ _ _ _ S0_5.out S1_5.out S2_5.out).mono ?_); rintro e w6 ⟨rfl, hb6⟩; have HB6 := Lib.hid (HB5.out.trans (hb6.mono HB5.out.size)); have HM6 := Lib.hid (max_keepT HM5.out hb6); have d6 := keepcT hb6 d5; clear hx hb6)
    | (go_at_call 16; have hx := HB4; (with_reducible refine (HT2.out _ (HR2.out.keep HB4.out)).mono ?_); rintro e w5 ⟨v5, rfl, hown5, hb5⟩; obtain ⟨g5, q5, rfl⟩ := row_formD hown5; have S2_5 := Lib.hid (Rows.of_own hown5); have HB5 := Lib.hid (HB4.out.trans (hb5.mono HB4.out.size)); have HM5 := Lib.hid (max_keepT HM4.out hb5); have d5 := keepcT hb5 d4; have S0_5 := Lib.hid (S0_4.out.keep hb5); have S1_5 := Lib.hid (S1_4.out.keep hb5); clear hx hb5)
    | (go_at_call 42; have hx := HB3; (with_reducible refine (HT1.out _ (HR1.out.keep HB3.out)).mono ?_); rintro e w4 ⟨v4, rfl, hown4, hb4⟩; obtain ⟨g4, q4, rfl⟩ := row_formD hown4; have S1_4 := Lib.hid (Rows.of_own hown4); have HB4 := Lib.hid (HB3.out.trans (hb4.mono HB3.out.size)); have HM4 := Lib.hid (max_keepT HM3.out hb4); have d4 := keepcT hb4 d3; have S0_4 := Lib.hid (S0_3.out.keep hb4); clear hx hb4)
    | (go_at_call 30; have hx := HB2; (with_reducible refine (HT0.out _ (HR0.out.keep HB2.out)).mono ?_); rintro e w3 ⟨v3, rfl, hown3, hb3⟩; have S0_3 := Lib.hid hown3.ents; obtain ⟨g3, q3, rfl, _, _⟩ := ent_form S0_3.out; have HB3 := Lib.hid (HB2.out.trans (hb3.mono HB2.out.size)); have HM3 := Lib.hid (max_keepT HM2.out hb3); have d3 := keepcT hb3 d2; clear hx hb3))
  have Z0 := Lib.hid (show Ents w10.drew (.slice a0 l0.length k0) l0 from Ents.drew (HR0.out.keep HB10.out) 1)
  have HQ0 := Lib.hid (fun V V' W h1 h2 => eqDictionary_same V V' l0 W h1 h2 HF0.out)
  go_region_held3 (fun w' => w'.cell? ⟨w7.heap.size, 0, none⟩ = some (.slice g7 l0.length q7) ∧ w'.cell? ⟨W.heap.size, 0, none⟩ = some (.slice a0 l0.length k0)) (first | exact ⟨c12, d12⟩ | exact ⟨c11, d11⟩ | exact ⟨c10, d10⟩) (first
    | (go_at_call 30; (with_reducible refine (HT0.out _ Z0.out).mono ?_); rintro e w11 ⟨v11, rfl, hown11, hb11⟩; have Y0_11 := Lib.hid hown11.ents; obtain ⟨g11, q11, rfl, _, _⟩ := ent_form Y0_11.out; have HB11 := Lib.hid ((below_drew1 HB10.out).trans (hb11.mono HB10.out.size)); have X0_11 := Lib.hid ((show Ents w10.drew _ l0 from Ents.drew X0_10.out 1).keep hb11); have X1_11 := Lib.hid ((show Rows w10.drew _ _ _ _ from Rows.drew X1_10.out 1).keep hb11); have X2_11 := Lib.hid ((show Rows w10.drew _ _ _ _ from Rows.drew X2_10.out 1).keep hb11); have d11 := keepcT hb11 d10; have c11 := keepcT hb11 c10; clear hown11 hb11)
    | (go_at_call 33; (with_reducible refine (HQ0.out _ _ _ X0_11.out Y0_11.out).mono ?_); rintro e w12 ⟨rfl, hb12⟩; have HB12 := Lib.hid (HB11.out.trans (hb12.mono HB11.out.size)); have X1_12 := Lib.hid (X1_11.out.keep hb12); have X2_12 := Lib.hid (X2_11.out.keep hb12); have d12 := keepcT hb12 d11; have c12 := keepcT hb12 c11; clear hb12))
  go_wp2_with (first
    | (go_at_call 19; have hx := Y2_15; (with_reducible refine (eqIntS_same _ _ l2 _ X2_15.out Y2_15.out hq2).mono ?_); rintro e w16 ⟨rfl, hd16⟩; have HB16 := Lib.hid (HB15.out.trans ((hd16.below).mono HB15.out.size)); clear hx hd16)
    | (go_at_call 16; have hx := HB14; (with_reducible refine (HT2.out _ (HR2.out.keep HB14.out)).mono ?_); rintro e w15 ⟨v15, rfl, hown15, hb15⟩; obtain ⟨g15, q15, rfl⟩ := row_formD hown15; have Y2_15 := Lib.hid (Rows.of_own hown15); have HB15 := Lib.hid (HB14.out.trans (hb15.mono HB14.out.size)); have X2_15 := Lib.hid (X2_14.out.keep hb15); clear hx hown15 hb15)
    | (go_at_call 44; have hx := Y1_13; (with_reducible refine (eqFoldS_same _ _ l1 _ X1_13.out Y1_13.out hq1).mono ?_); rintro e w14 ⟨rfl, hd14⟩; have HB14 := Lib.hid (HB13.out.trans ((hd14).mono HB13.out.size)); have X2_14 := Lib.hid (X2_13.out.keep hd14); clear hx hd14)
    | (go_at_call 42; have hx := HB12; (with_reducible refine (HT1.out _ (HR1.out.keep HB12.out)).mono ?_); rintro e w13 ⟨v13, rfl, hown13, hb13⟩; obtain ⟨g13, q13, rfl⟩ := row_formD hown13; have Y1_13 := Lib.hid (Rows.of_own hown13); have HB13 := Lib.hid (HB12.out.trans (hb13.mono HB12.out.size)); have X1_13 := Lib.hid (X1_12.out.keep hb13); have X2_13 := Lib.hid (X2_12.out.keep hb13); clear hx hown13 hb13))
  go_ret
  exact ⟨rfl, HB16.out⟩

namespace fnExactLookupFolded
open Go.ChangeShapes Go.WideShapes Go.ChangeAt Go.RowKit
open Go.ChangeMaps (open_string shut_string)
set_option linter.unusedVariables false
theorem own : ownKnob Tryz.prog.godebug = none := by kernel_rfl
theorem laidOut : laidOutB Tryz.prog = true := by kernel_rfl
set_option maxRecDepth 100000 in
theorem lifted (os : Os) (started : os.Started) (H : Type) (enc : TypeId × Value → H) :
    ReturnsInHanded {} Tryz.checked os 7 .any (fun w args => (Rows.fnExactLookupFoldedSpec.pre enc Tryz.prog Tryz.f7 Rows.fnExactLookupFoldedRow.domain false w args ∧ laidMetH Tryz.prog Rows.fnExactLookupFoldedRow.laid w) ∧ sizedMet enc Tryz.prog Tryz.f7 (OpenSpec.ofChange Rows.fnExactLookupFoldedSpec) false w args)
      (Rows.fnExactLookupFoldedSpec.post enc Tryz.prog Tryz.f7 false true false false) := by
  refine returnsInHanded_and_shaped (C := Tryz.checked) (X := fun w _ => laidMetH Tryz.prog Rows.fnExactLookupFoldedRow.laid w) (fun _ _ _ hh h => h.of_heap hh) own started (by kernel_rfl) Tryz.func7
    (ChangeSpec.witness_shaped (enc := enc) (C := Tryz.checked) (os := os) (X := fun w _ => laidMetH Tryz.prog Rows.fnExactLookupFoldedRow.laid w) false (World.laidAll Tryz.prog os Rows.fnExactLookupFoldedRow.laid) #[.agg #[.slice none 0 0], .slice none 0 0, .slice none 0 0] 8 (World.laidAll_os _ _ _)
      (World.shaped_of_ZipB (by kernel_rfl) (by kernel_rfl)) (by kernel_rfl) (by kernel_rfl) (by kernel_rfl)
      (by rw [MakeChecks.laidMetH_plain _ _ _ (by kernel_rfl)]; exact laidMet_laidAll _ (by kernel_rfl) (by kernel_rfl))) ?_
  intro W base args ds gs before hval0 hW hcnd _ hL hsh _
  have hM := Go.Proofs.cell_of_shapedOpen_int (g := 0) (zero := #[.int .i64 0]) (t := 3) hsh (of_decide_eq_true (by kernel_rfl)) (by kernel_rfl) rfl (by kernel_rfl) (by kernel_rfl) Tryz.underlying3
  have hval : ∀ (j : Nat) t v, Tryz.f7.params[j]? = some t → args[j]? = some v → Value.okWide Tryz.prog W .any base t v := hval0
  have hW' := hW
  obtain ⟨p, q, hA0, hV, rfl, hfz, hnd⟩ := hW
  have hA : DataW.TrodAll enc Tryz.prog W 0 (fun _ => true) true Tryz.f7.params.toList args.toList ds p := hA0
  rw [Tryz.params7] at hA hval
  obtain ⟨v0, vs0, d0, ds0, p0, q0, hargs, rfl, rfl, h0, r0⟩ := trodAll_cons hA
  obtain ⟨v1, vs1, d1, ds1, p1, q1, rfl, rfl, rfl, h1, r1⟩ := trodAll_cons r0
  obtain ⟨v2, vs2, d2, ds2, p2, q2, rfl, rfl, rfl, h2, r2⟩ := trodAll_cons r1
  obtain ⟨rfl, rfl, rfl⟩ := trodAll_nil r2
  obtain rfl : args = #[v0, v1, v2] := by cases args; simp_all
  obtain ⟨rfl, rfl⟩ := trodVars_none hV
  have k0 := h0
  have lt0 : ∀ x ∈ p0, x.block < W.heap.size := by obtain ⟨m, hm⟩ := k0; exact DataW.trod_lt m _ _ _ hm
  obtain ⟨a0, w0⟩ := (fun W v hv h => open_dictR (w := W) (v := v) Tryz.underlying55 (by kernel_rfl) (by kernel_rfl) rfl Tryz.underlying53 Tryz.underlying171 (by kernel_rfl) rfl rfl (by kernel_rfl) (by kernel_rfl) Tryz.underlying25 Tryz.underlying3 (by kernel_rfl) Tryz.underlying9 hv h) W v0 (hval 0 55 v0 rfl rfl) h0
  have k1 := h1
  have lt1 : ∀ x ∈ p1, x.block < W.heap.size := by obtain ⟨m, hm⟩ := k1; exact DataW.trod_lt m _ _ _ hm
  obtain ⟨a1, w1⟩ := (fun W v hv h => open_foldsR (w := W) (v := v) Tryz.underlying67 Tryz.underlying133 (by kernel_rfl) rfl rfl (by kernel_rfl) (by kernel_rfl) Tryz.underlying3 Tryz.underlying9 hv h) W v1 (hval 1 67 v1 rfl rfl) h1
  have k2 := h2
  have lt2 : ∀ x ∈ p2, x.block < W.heap.size := by obtain ⟨m, hm⟩ := k2; exact DataW.trod_lt m _ _ _ hm
  obtain ⟨a2, w2⟩ := (fun W v hv h => open_intsR (w := W) (v := v) Tryz.underlying25 Tryz.underlying3 (by kernel_rfl) hv h) W v2 (hval 2 25 v2 rfl rfl) h2
  clear hA0 hval0
  refine (FnExactLookupFolded_walk v0 a0 v1 a1 v2 a2 W hM w0 w1 w2).mono fun e W' ⟨he, bel⟩ => ?_
  subst he
  exact ⟨_, rfl, _, _, _, [], _, [], hW', trodAll_mk1 (shut_bool Tryz.underlying4 _), (trodAll_cons_mk (Below.trod laidOut (by kernel_rfl) (of_decide_eq_true (by kernel_rfl)) k0 bel lt0) (trodAll_cons_mk (Below.trod laidOut (by kernel_rfl) (of_decide_eq_true (by kernel_rfl)) k1 bel lt1) (trodAll_cons_mk (Below.trod laidOut (by kernel_rfl) (of_decide_eq_true (by kernel_rfl)) k2 bel lt2) trodAll_mk0))), rfl, bel.frame _, fun h => by cases h⟩
theorem over : Rows.FnExactLookupFoldedSaid :=
  OpenClaim.holds_of_wide 7 Tryz.f7 rfl rfl rfl rfl rfl rfl rfl ⟨rfl, rfl, rfl, rfl, rfl⟩ rfl rfl rfl rfl rfl (by kernel_rfl) Tryz.func7 fctFnExactLookupFolded
    (of_decide_eq_true (by kernel_rfl)) (by unfold Func.isWrapper; first | (rw [if_pos (by decide +kernel)]; kernel_rfl) | (rw [if_neg (by decide +kernel)]; exact ⟨rfl, rfl⟩))
    (fun os started H enc _ => lifted os started H enc)
end fnExactLookupFolded

end Go.Proofs.YtkbbcmbeafjpaaaGreatDoor
