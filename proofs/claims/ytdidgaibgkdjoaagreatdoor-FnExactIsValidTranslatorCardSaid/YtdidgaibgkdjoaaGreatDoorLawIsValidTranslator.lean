/-
  THE CLAIM: the law FnExactIsValidTranslator returns true for every input, and its arguments read afterwards as before. Conditions: the given row's own (the listed tables of the library read as the program's text lays them; the card ties them).
-/
import Derived.Test.YtdidgaibgkdjoaaGreatDoorHasI
import Derived.Test.YtdidgaibgkdjoaaGreatDoorTrS
import Derived.Test.YtdidgaibgkdjoaaGreatDoorBasB
import Derived.Test.YtdidgaibgkdjoaaGreatDoorFctFnExactIsValidTranslator
import Derived.Test.YtdidgaibgkdjoaaGreatDoorBasA
import Derived.Test.YtdidgaibgkdjoaaGreatDoorTie
import Derived.Test.YtdidgaibgkdjoaaGreatDoorCards
import Derived.Deep.RegionHeld3
import Derived.Test.YtdidgaibgkdjoaaGreatDoorRows
import Derived.ProofKit
import Derived.OpenShut
import Derived.ShutString
import Derived.ChangeOld
import Derived.Below
import Derived.WalkSmall
namespace Go.Proofs.YtdidgaibgkdjoaaGreatDoor
open Go.RowKit

set_option maxRecDepth 20000 in
set_option maxHeartbeats 6400000 in
theorem FnExactIsValidTranslator_walk (v0 : Value) (l0 : List Ent) (v1 : Value) (o1 : List Int × ByteArray) (W : World) (hm : ∃ m, W.cell? ⟨0, 0, none⟩ = some (.int .i64 m)) (h0 : ∃ u, v0 = .agg #[u] ∧ Ents W u l0 ∧ (∀ q ∈ l0, (∀ n ∈ q.1, (Lit.int .i64 n).wf = true) ∧ q.2.size ≤ maxLen)) (h1 : Trn W v1 o1) :
    Calls Tryz.prog 7 #[v0, v1] W fun e W' => e = .returned (.bool true) ∧ Below W.heap.size W W' := by
  obtain ⟨v0, rfl, hr0, hz0⟩ := h0
  obtain ⟨v1, rfl, hr1, _, hw1⟩ := h1
  obtain ⟨l1, t1⟩ := o1
  dsimp only at hr1 hw1 ⊢
  have HR0 := Lib.hid hr0
  have HR1 := Lib.hid hr1
  have HB0 := Lib.hid (Joins.below_alloc2 W (.cells #[v0] 68) (.cells #[v1, .string t1] 75))
  have HM0 := Lib.hid (max_keepT hm HB0.out)
  obtain ⟨a0, k0, rfl, _, _⟩ := ent_form hr0
  obtain ⟨a1, k1, rfl, _, _⟩ := rows_form hr1
  have d0 := Lib.hid (show ((W.alloc (.cells #[.slice a0 l0.length k0] 68)).alloc (.cells #[.slice a1 l1.length k1, .string t1] 75)).cell? ⟨W.heap.size, 0, none⟩ = some (.slice a0 l0.length k0) by simp [go_sem])
  have t0 := Lib.hid (show ((W.alloc (.cells #[.slice a0 l0.length k0] 68)).alloc (.cells #[.slice a1 l1.length k1, .string t1] 75)).cell? ⟨W.heap.size + 1, 0, none⟩ = some (.slice a1 l1.length k1) by simp [go_sem])
  have s0 := Lib.hid (show ((W.alloc (.cells #[.slice a0 l0.length k0] 68)).alloc (.cells #[.slice a1 l1.length k1, .string t1] 75)).cell? ⟨W.heap.size + 1, 1, none⟩ = some (.string t1) by simp [go_sem])
  have HS0 := Lib.hid (fun W h1 => szDictionary_any (.slice a0 l0.length k0) l0 1048576 W h1 hz0 (by omega) (by omega))
  unfold SzLeft at HS0
  clear hr0 hz0 hm hr1
  have HE0 := Lib.hid (HR0.out.keep HB0.out)
  go_enter Tryz.func7, Tryz.ntmps7
  go_upto_region 3 with (go_at_call 31; (with_reducible refine (HS0.out _ HE0.out).mono ?_); rintro e w1 ⟨⟨r0, rfl, p1, p2, p3⟩, hb1⟩; have HB1 := Lib.hid (HB0.out.trans (hb1.mono HB0.out.size)); have d1 := keepcT hb1 d0.out; have t1' := keepcT hb1 t0.out; have s1 := keepcT hb1 s0.out; have HM1 := Lib.hid (max_keepT HM0.out hb1); clear hb1)
  by_cases hneg0 : r0 < 0
  · go_wp2
    go_ret
    exact ⟨rfl, HB1.out⟩
  have HF0 := Lib.hid (p3 (by omega))
  have hr0_0 : 0 ≤ r0 := by omega
  have hr0_1 : r0 ≤ 1048576 := by omega
  have HS1 := Lib.hid (fun W h1 => szTranslator_any (.slice a1 l1.length k1) l1 t1 r0 W h1 hw1 hr0_0 hr0_1)
  obtain ⟨r1, hr1e⟩ : ∃ r1 : Int, r1 = if r0 < (l1.length : Int) + (t1.size : Int) then -1 else r0 - l1.length - t1.size := ⟨_, rfl⟩
  rw [← hr1e] at HS1
  have HQ := Lib.hid (show 0 ≤ r1 → l1.length ≤ 1048576 by intro h; rw [hr1e] at h; split at h <;> omega)
  clear hr1e p1 p2 p3 HS0 HE0 d0 t0 s0 HM0
  go_upto_region 6 with (go_at_call 38; (with_reducible refine (HS1.out _ (HR1.out.keep HB1.out)).mono ?_); rintro e w2 ⟨rfl, hb2⟩; have HB2 := Lib.hid (HB1.out.trans (hb2.mono HB1.out.size)); have d2 := keepcT hb2 d1; have t2 := keepcT hb2 t1'; have s2 := keepcT hb2 s1; have HM2 := Lib.hid (max_keepT HM1.out hb2); clear hb2)
  by_cases hneg1 : r1 < 0
  · go_wp2
    go_ret
    exact ⟨rfl, HB2.out⟩
  have hq1 : l1.length ≤ 1048576 := HQ.out (by omega)
  clear HQ HS1 d1 t1' s1 HM1
  have HT0 := Lib.hid (fun W h => toDictionary_any (.slice a0 l0.length k0) l0 W h HF0.out)
  have HT1 := Lib.hid (fun W h => toTranslator_any (.slice a1 l1.length k1) l1 t1 W h hq1)
  unfold RetDict at HT0
  unfold RetTr at HT1
  have HSL := Lib.hid (fun V Y W h1 h2 => specIsValidTranslator_any V Y l0 l1 t1 W h1 HF0.out.1 HF0.out.2 h2 hq1)
  have HIL := Lib.hid (fun V Y W h1 h2 h3 => IsValidTranslator_any V Y l0 l1 t1 W h1 HF0.out.1 HF0.out.2 h2 hq1 h3)
  have HQ0 := Lib.hid (fun V V' W h1 h2 => eqDictionary_same V V' l0 W h1 h2 HF0.out)
  have HQ1 := Lib.hid (fun V V' W h1 h2 => eqTranslator_same V V' l1 t1 W h1 h2 hq1)
  generalize trOk l0 l1 t1 = y at HSL HIL
  go_wp2_with fail
  have Z0 := Lib.hid (show Ents w2.drew (.slice a0 l0.length k0) l0 from Ents.drew (HR0.out.keep HB2.out) 1)
  go_region_held3 (fun w' => w'.cell? ⟨W.heap.size, 0, none⟩ = some (.slice a0 l0.length k0) ∧ w'.cell? ⟨W.heap.size + 1, 0, none⟩ = some (.slice a1 l1.length k1) ∧ w'.cell? ⟨W.heap.size + 1, 1, none⟩ = some (.string t1)) (first | exact ⟨d5, t5, s5⟩ | exact ⟨d4, t4, s4⟩ | exact ⟨d3, t3, s3⟩ | exact ⟨d2, t2, s2⟩) (first
    | (go_at_call 39; have hx := HB4; (with_reducible refine (HSL.out _ _ _ S0_4.out S1_4.out).mono ?_); rintro e w5 ⟨rfl, hb5⟩; have HB5 := Lib.hid (HB4.out.trans (hb5.mono HB4.out.size)); have HM5 := Lib.hid (max_keepT HM4.out hb5); have d5 := keepcT hb5 d4; have t5 := keepcT hb5 t4; have s5 := keepcT hb5 s4; clear hx hb5)
    | (go_at_call 40; have hx := HB3; (with_reducible refine (HT1.out _ (HR1.out.keep HB3.out)).mono ?_); rintro e w4 ⟨v4, rfl, hown4, hb4⟩; obtain ⟨g4, q4, rfl⟩ := row_formD hown4; have S1_4 := Lib.hid (Rows.of_own hown4); have HB4 := Lib.hid (HB3.out.trans (hb4.mono HB3.out.size)); have HM4 := Lib.hid (max_keepT HM3.out hb4); have S0_4 := Lib.hid (S0_3.out.keep hb4); have d4 := keepcT hb4 d3; have t4 := keepcT hb4 t3; have s4 := keepcT hb4 s3; clear hx hb4 hown4)
    | (go_at_call 33; (with_reducible refine (HT0.out _ Z0.out).mono ?_); rintro e w3 ⟨v3, rfl, hown3, hb3⟩; have S0_3 := Lib.hid hown3.ents; obtain ⟨g3, q3, rfl, _, _⟩ := ent_form S0_3.out; have HB3 := Lib.hid ((below_drew1 HB2.out).trans (hb3.mono HB2.out.size)); have HM3 := Lib.hid (max_keepT (w := w2.drew) HM2.out hb3); have d3 := keepcT hb3 d2; have t3 := keepcT hb3 t2; have s3 := keepcT hb3 s2; clear hb3 hown3))
  clear Z0 d2 t2 s2 d3 t3 s3 d4 t4 s4 S0_3 S0_4 S1_4 HSL HB2 HB3 HB4 HM2 HM3 HM4
  go_upto_region 14 with (first
    | (go_at_call 41; have hx := HB7; (with_reducible refine (HIL.out _ _ _ X0_7.out X1_7.out HM7.out).mono ?_); rintro e w8 ⟨rfl, hb8⟩; have HB8 := Lib.hid (HB7.out.trans (hb8.mono HB7.out.size)); have d8 := keepcT hb8 d7; have t8 := keepcT hb8 t7; have s8 := keepcT hb8 s7; have c8 := keepcT hb8 c7; have x8 := keepcT hb8 x7; have y8 := keepcT hb8 y7; have X0_8 := Lib.hid (X0_7.out.keep hb8); have X1_8 := Lib.hid (X1_7.out.keep hb8); clear hx hb8)
    | (go_at_call 40; have hx := HB6; (with_reducible refine (HT1.out _ (HR1.out.keep HB6.out)).mono ?_); rintro e w7 ⟨v7, rfl, hown7, hb7⟩; obtain ⟨g7, q7, rfl⟩ := row_formD hown7; have X1q := Rows.of_own hown7; have HBq := HB6.out.trans (hb7.mono HB6.out.size); have HMq := max_keepT HM6.out hb7; have HBb := Joins.below_alloc1 w7 (.cells #[.slice g7 l1.length q7, .string t1] 78); have HB7 := Lib.hid (below_on3 HBq HBb); have d7 := keepcT HBb (keepcT hb7 d6); have t7 := keepcT HBb (keepcT hb7 t6); have s7 := keepcT HBb (keepcT hb7 s6); have c7 := keepcT HBb (keepcT hb7 c6); have X0_7 := Lib.hid ((X0_6.out.keep hb7).keep HBb); have X1_7 := Lib.hid (X1q.keep HBb); have HM7 := Lib.hid (max_keepT HMq HBb); have x7 : (w7.alloc (.cells #[.slice g7 l1.length q7, .string t1] 78)).cell? ⟨w7.heap.size, 0, none⟩ = some (.slice g7 l1.length q7) := (by simp [go_sem]); have y7 : (w7.alloc (.cells #[.slice g7 l1.length q7, .string t1] 78)).cell? ⟨w7.heap.size, 1, none⟩ = some (.string t1) := (by simp [go_sem]); clear hx hown7 hb7 HBb X1q HMq HBq)
    | (go_at_call 33; have hx := HB5; (with_reducible refine (HT0.out _ (HR0.out.keep HB5.out)).mono ?_); rintro e w6 ⟨v6, rfl, hown6, hb6⟩; have HBq := HB5.out.trans (hb6.mono HB5.out.size); have X0q := hown6.ents; obtain ⟨g6, q6, rfl, _, _⟩ := ent_form X0q; have HMq := max_keepT HM5.out hb6; have HBb := Joins.below_alloc1 w6 (.cells #[.slice g6 l0.length q6] 26); have HB6 := Lib.hid (below_on3 HBq HBb); have d6 := keepcT HBb (keepcT hb6 d5); have t6 := keepcT HBb (keepcT hb6 t5); have s6 := keepcT HBb (keepcT hb6 s5); have X0_6 := Lib.hid (X0q.keep HBb); have HM6 := Lib.hid (max_keepT HMq HBb); have c6 : (w6.alloc (.cells #[.slice g6 l0.length q6] 26)).cell? ⟨w6.heap.size, 0, none⟩ = some (.slice g6 l0.length q6) := (by simp [go_sem]); clear hx hown6 hb6 HBb X0q HMq HBq))
  have Z0 := Lib.hid (show Ents w8.drew (.slice a0 l0.length k0) l0 from Ents.drew (HR0.out.keep HB8.out) 1)
  go_region_held3 (fun w' => w'.cell? ⟨w6.heap.size, 0, none⟩ = some (.slice g6 l0.length q6) ∧ w'.cell? ⟨W.heap.size, 0, none⟩ = some (.slice a0 l0.length k0)) (first | exact ⟨c10, d10⟩ | exact ⟨c9, d9⟩ | exact ⟨c8, d8⟩) (first
    | (go_at_call 36; (with_reducible refine (HQ0.out _ _ _ X0_9.out Y0_9.out).mono ?_); rintro e w10 ⟨rfl, hb10⟩; have HB10 := Lib.hid (HB9.out.trans (hb10.mono HB9.out.size)); have X1_10 := Lib.hid (X1_9.out.keep hb10); have d10 := keepcT hb10 d9; have c10 := keepcT hb10 c9; have t10 := keepcT hb10 t9; have s10 := keepcT hb10 s9; have x10 := keepcT hb10 x9; have y10 := keepcT hb10 y9; clear hb10)
    | (go_at_call 33; (with_reducible refine (HT0.out _ Z0.out).mono ?_); rintro e w9 ⟨v9, rfl, hown9, hb9⟩; have Y0_9 := Lib.hid hown9.ents; obtain ⟨g9, q9, rfl, _, _⟩ := ent_form Y0_9.out; have HB9 := Lib.hid ((below_drew1 HB8.out).trans (hb9.mono HB8.out.size)); have X0_9 := Lib.hid ((show Ents w8.drew _ l0 from Ents.drew X0_8.out 1).keep hb9); have X1_9 := Lib.hid ((show Rows w8.drew _ _ _ _ from Rows.drew X1_8.out 1).keep hb9); have d9 := keepcT hb9 d8; have c9 := keepcT hb9 c8; have t9 := keepcT hb9 t8; have s9 := keepcT hb9 s8; have x9 := keepcT hb9 x8; have y9 := keepcT hb9 y8; clear hown9 hb9))
  clear Z0 HB8 HB9 d8 c8 t8 s8 x8 y8 d9 c9 t9 s9 x9 y9 d10 c10
  go_wp2_with fail
  have Z1 := Lib.hid (show Rows w10.drew (.slice a1 l1.length k1) l1.length 1 (ints l1) from Rows.drew (HR1.out.keep HB10.out) 1)
  go_region_held3 (fun w' => w'.cell? ⟨w7.heap.size, 0, none⟩ = some (.slice g7 l1.length q7) ∧ w'.cell? ⟨w7.heap.size, 1, none⟩ = some (.string t1) ∧ w'.cell? ⟨W.heap.size + 1, 0, none⟩ = some (.slice a1 l1.length k1) ∧ w'.cell? ⟨W.heap.size + 1, 1, none⟩ = some (.string t1)) (first | exact ⟨x12, y12, t12, s12⟩ | exact ⟨x11, y11, t11, s11⟩ | exact ⟨x10, y10, t10, s10⟩) (first
    | (go_at_call 42; (with_reducible refine (HQ1.out _ _ _ X1_11.out Y1_11.out).mono ?_); rintro e w12 ⟨rfl, hb12⟩; have HB12 := Lib.hid (HB11.out.trans (hb12.mono HB11.out.size)); have t12 := keepcT hb12 t11; have s12 := keepcT hb12 s11; have x12 := keepcT hb12 x11; have y12 := keepcT hb12 y11; clear hb12)
    | (go_at_call 40; (with_reducible refine (HT1.out _ Z1.out).mono ?_); rintro e w11 ⟨v11, rfl, hown11, hb11⟩; obtain ⟨g11, q11, rfl⟩ := row_formD hown11; have Y1_11 := Lib.hid (Rows.of_own hown11); have HB11 := Lib.hid ((below_drew1 HB10.out).trans (hb11.mono HB10.out.size)); have X1_11 := Lib.hid ((show Rows w10.drew _ _ _ _ from Rows.drew X1_10.out 1).keep hb11); have t11 := keepcT hb11 t10; have s11 := keepcT hb11 s10; have x11 := keepcT hb11 x10; have y11 := keepcT hb11 y10; clear hown11 hb11))
  go_wp2_with fail
  go_ret
  exact ⟨rfl, HB12.out⟩

namespace fnExactIsValidTranslator
open Go.ChangeShapes Go.WideShapes Go.ChangeAt Go.RowKit
open Go.ChangeMaps (open_string shut_string)
set_option linter.unusedVariables false
theorem own : ownKnob Tryz.prog.godebug = none := by kernel_rfl
theorem laidOut : laidOutB Tryz.prog = true := by kernel_rfl
set_option maxRecDepth 100000 in
theorem lifted (os : Os) (started : os.Started) (H : Type) (enc : TypeId × Value → H) :
    ReturnsInHanded {} Tryz.checked os 7 .any (fun w args => (Rows.fnExactIsValidTranslatorSpec.pre enc Tryz.prog Tryz.f7 Rows.fnExactIsValidTranslatorRow.domain false w args ∧ laidMetH Tryz.prog Rows.fnExactIsValidTranslatorRow.laid w) ∧ sizedMet enc Tryz.prog Tryz.f7 (OpenSpec.ofChange Rows.fnExactIsValidTranslatorSpec) false w args)
      (Rows.fnExactIsValidTranslatorSpec.post enc Tryz.prog Tryz.f7 false true false false) := by
  refine returnsInHanded_and_shaped (C := Tryz.checked) (X := fun w _ => laidMetH Tryz.prog Rows.fnExactIsValidTranslatorRow.laid w) (fun _ _ _ hh h => h.of_heap hh) own started (by kernel_rfl) Tryz.func7
    (ChangeSpec.witness_shaped (enc := enc) (C := Tryz.checked) (os := os) (X := fun w _ => laidMetH Tryz.prog Rows.fnExactIsValidTranslatorRow.laid w) false (World.laidAll Tryz.prog os Rows.fnExactIsValidTranslatorRow.laid) #[.agg #[.slice none 0 0], .agg #[.slice none 0 0, .string ⟨#[]⟩]] 8 (World.laidAll_os _ _ _)
      (World.shaped_of_ZipB (by kernel_rfl) (by kernel_rfl)) (by kernel_rfl) (by kernel_rfl) (by kernel_rfl)
      (by rw [MakeChecks.laidMetH_plain _ _ _ (by kernel_rfl)]; exact laidMet_laidAll _ (by kernel_rfl) (by kernel_rfl))) ?_
  intro W base args ds gs before hval0 hW hcnd _ hL hsh _
  have hM := Go.Proofs.cell_of_shapedOpen_int (g := 0) (zero := #[.int .i64 0]) (t := 3) hsh (of_decide_eq_true (by kernel_rfl)) (by kernel_rfl) rfl (by kernel_rfl) (by kernel_rfl) Tryz.underlying3
  have hval : ∀ (j : Nat) t v, Tryz.f7.params[j]? = some t → args[j]? = some v → Value.okWide Tryz.prog W .any base t v := hval0
  have hW' := hW
  obtain ⟨p, q, hA0, hV, rfl, hfz, hnd⟩ := hW
  have hA : DataW.TrodAll enc Tryz.prog W 0 (fun _ => true) true Tryz.f7.params.toList args.toList ds p := hA0
  rw [Tryz.params7] at hA hval
  obtain ⟨v0, vs0, d0, ds0, p0, q0, hargs, rfl, rfl, h0, r0⟩ := trodAll_cons hA
  obtain ⟨v1, vs1, d1, ds1, p1, q1, rfl, rfl, rfl, h1, r1⟩ := trodAll_cons r0
  obtain ⟨rfl, rfl, rfl⟩ := trodAll_nil r1
  obtain rfl : args = #[v0, v1] := by cases args; simp_all
  obtain ⟨rfl, rfl⟩ := trodVars_none hV
  have k0 := h0
  have lt0 : ∀ x ∈ p0, x.block < W.heap.size := by obtain ⟨m, hm⟩ := k0; exact DataW.trod_lt m _ _ _ hm
  obtain ⟨a0, w0⟩ := (fun W v hv h => open_dictR (w := W) (v := v) Tryz.underlying68 (by kernel_rfl) (by kernel_rfl) rfl Tryz.underlying66 Tryz.underlying154 (by kernel_rfl) rfl rfl (by kernel_rfl) (by kernel_rfl) Tryz.underlying36 Tryz.underlying3 (by kernel_rfl) Tryz.underlying9 hv h) W v0 (hval 0 68 v0 rfl rfl) h0
  have k1 := h1
  have lt1 : ∀ x ∈ p1, x.block < W.heap.size := by obtain ⟨m, hm⟩ := k1; exact DataW.trod_lt m _ _ _ hm
  obtain ⟨a1, w1⟩ := (fun W v hv h => open_trnR (w := W) (v := v) Tryz.underlying75 (by kernel_rfl) (by kernel_rfl) rfl rfl Tryz.underlying36 Tryz.underlying3 (by kernel_rfl) Tryz.underlying9 hv h) W v1 (hval 1 75 v1 rfl rfl) h1
  clear hA0 hval0
  refine (FnExactIsValidTranslator_walk v0 a0 v1 a1 W hM w0 w1).mono fun e W' ⟨he, bel⟩ => ?_
  subst he
  exact ⟨_, rfl, _, _, _, [], _, [], hW', trodAll_mk1 (shut_bool Tryz.underlying4 _), (trodAll_cons_mk (Below.trod laidOut (by kernel_rfl) (of_decide_eq_true (by kernel_rfl)) k0 bel lt0) (trodAll_cons_mk (Below.trod laidOut (by kernel_rfl) (of_decide_eq_true (by kernel_rfl)) k1 bel lt1) trodAll_mk0)), rfl, bel.frame _, fun h => by cases h⟩
theorem over : Rows.FnExactIsValidTranslatorSaid :=
  OpenClaim.holds_of_wide 7 Tryz.f7 rfl rfl rfl rfl rfl rfl rfl ⟨rfl, rfl, rfl, rfl, rfl⟩ rfl rfl rfl rfl rfl (by kernel_rfl) Tryz.func7 fctFnExactIsValidTranslator
    (of_decide_eq_true (by kernel_rfl)) (by unfold Func.isWrapper; first | (rw [if_pos (by decide +kernel)]; kernel_rfl) | (rw [if_neg (by decide +kernel)]; exact ⟨rfl, rfl⟩))
    (fun os started H enc _ => lifted os started H enc)
end fnExactIsValidTranslator

end Go.Proofs.YtdidgaibgkdjoaaGreatDoor
