/-
  THE CLAIM: the law FnExactScreenOf returns true for every input, and its arguments read afterwards as before. Conditions: the given row's own (the listed tables of the library read as the program's text lays them; the card ties them).
-/
import Derived.Test.YtdidgaibgkdjoaaGreatDoorScrT
import Derived.Test.YtdidgaibgkdjoaaGreatDoorBasB
import Derived.Test.YtdidgaibgkdjoaaGreatDoorFctFnExactScreenOf
import Derived.Test.YtdidgaibgkdjoaaGreatDoorBasA
import Derived.Test.YtdidgaibgkdjoaaGreatDoorTie
import Derived.Test.YtdidgaibgkdjoaaGreatDoorCards
import Derived.Test.YtdidgaibgkdjoaaGreatDoorRows
import Derived.ProofKit
import Derived.OpenShut
import Derived.ShutString
import Derived.ChangeOld
import Derived.Below
import Derived.WalkSmall
namespace Go.Proofs.YtdidgaibgkdjoaaGreatDoor
open Go.RowKit

set_option maxRecDepth 20000 in
set_option maxHeartbeats 6400000 in
theorem FnExactScreenOf_walk (v0 : Value) (l0 : List Ent) (v1 : Value) (l1 : List Int) (W : World) (hm : ∃ m, W.cell? ⟨0, 0, none⟩ = some (.int .i64 m)) (h0 : ∃ u, v0 = .agg #[u] ∧ Ents W u l0 ∧ (∀ q ∈ l0, (∀ n ∈ q.1, (Lit.int .i64 n).wf = true) ∧ q.2.size ≤ maxLen)) (h1 : Rows W v1 l1.length 1 (ints l1) ∧ (∀ n ∈ l1, (Lit.int .i64 n).wf = true)) :
    Calls Tryz.prog 6 #[v0, v1] W fun e W' => e = .returned (.bool true) ∧ Below W.heap.size W W' := by
  obtain ⟨v0, rfl, hr0, hz0⟩ := h0
  have HR0 := Lib.hid hr0
  have HR1 := Lib.hid h1.1
  have HB0 := Lib.hid (Joins.below_alloc1 W (.cells #[v0] 68))
  have HM0 := Lib.hid (max_keepT hm HB0.out)
  obtain ⟨a0, k0, rfl, _, _⟩ := ent_form hr0
  obtain ⟨a1, k1, rfl, _, _⟩ := rows_form h1.1
  have d0 := Lib.hid (show (W.alloc (.cells #[.slice a0 l0.length k0] 68)).cell? ⟨W.heap.size, 0, none⟩ = some (.slice a0 l0.length k0) by simp [go_sem])
  have HS0 := Lib.hid (fun W h1 => szDictionary_any (.slice a0 l0.length k0) l0 1048576 W h1 hz0 (by omega) (by omega))
  unfold SzLeft at HS0
  clear hr0 hz0 hm h1
  by_cases hol1 : 1048576 < l1.length
  · go_enter Tryz.func6, Tryz.ntmps6
    go_wp2
    go_ret
    exact ⟨rfl, HB0.out⟩
  have hq1 : l1.length ≤ 1048576 := by omega
  have HE0 := Lib.hid (HR0.out.keep HB0.out)
  go_enter Tryz.func6, Tryz.ntmps6
  go_upto_region 5 with (go_at_call 31; (with_reducible refine (HS0.out _ HE0.out).mono ?_); rintro e w1 ⟨⟨r0, rfl, p1, p2, p3⟩, hb1⟩; have HB1 := Lib.hid (HB0.out.trans (hb1.mono HB0.out.size)); have d1 := keepcT hb1 d0.out; have HM1 := Lib.hid (max_keepT HM0.out hb1); clear hb1)
  by_cases hneg0 : r0 < 0
  · go_wp2
    go_ret
    exact ⟨rfl, HB1.out⟩
  have HF0 := Lib.hid (p3 (by omega))
  have hr0_0 : 0 ≤ r0 := by omega
  have hr0_1 : r0 ≤ 1048576 := by omega
  clear p1 p2 p3 HS0 HE0 d0 HM0
  have HT0 := Lib.hid (fun W h => toDictionary_any (.slice a0 l0.length k0) l0 W h HF0.out)
  have HT1 := Lib.hid (fun W h => toIntS_any (.slice a1 l1.length k1) l1 W h hq1)
  unfold RetDict at HT0
  unfold RetRow at HT1
  have HSL := Lib.hid (fun V Y W h1 h2 => specScreenOf_any V Y l0 l1 W h1 HF0.out.1 HF0.out.2 h2 hq1)
  have HIL := Lib.hid (fun V Y W h1 h2 h3 => ScreenOf_any V Y l0 l1 W h1 HF0.out.1 HF0.out.2 h2 hq1 h3)
  generalize scOut l0 l1 = q at HSL HIL
  generalize scOk l0 l1 = y at HSL HIL
  clear hneg0
  go_upto_region 13 with (first
    | (go_at_call 35; have hx := HB6; (with_reducible refine (HIL.out _ _ _ X0_6.out X1_6.out HM6.out).mono ?_); rintro e w7 ⟨rfl, hb7⟩; have HB7 := Lib.hid (HB6.out.trans (hb7.mono HB6.out.size)); have HM7 := Lib.hid (max_keepT HM6.out hb7); have d7 := keepcT hb7 d6; have c7 := keepcT hb7 c6; have X0_7 := Lib.hid (X0_6.out.keep hb7); have X1_7 := Lib.hid (X1_6.out.keep hb7); clear hx hb7)
    | (go_at_call 34; have hx := HB5; (with_reducible refine (HT1.out _ (HR1.out.keep HB5.out)).mono ?_); rintro e w6 ⟨v6, rfl, hown6, hb6⟩; obtain ⟨g6, q6, rfl⟩ := row_formD hown6; have X1_6 := Lib.hid (Rows.of_own hown6); have HB6 := Lib.hid (HB5.out.trans (hb6.mono HB5.out.size)); have HM6 := Lib.hid (max_keepT HM5.out hb6); have d6 := keepcT hb6 d5; have c6 := keepcT hb6 c5; have X0_6 := Lib.hid (X0_5.out.keep hb6); clear hx hb6)
    | (go_at_call 33; have hx := HB4; (with_reducible refine (HT0.out _ (HR0.out.keep HB4.out)).mono ?_); rintro e w5 ⟨v5, rfl, hown5, hb5⟩; have HBq := HB4.out.trans (hb5.mono HB4.out.size); have X0q := hown5.ents; obtain ⟨g5, q5, rfl, _, _⟩ := ent_form X0q; have HMq := max_keepT HM4.out hb5; have HBb := Joins.below_alloc1 w5 (.cells #[.slice g5 l0.length q5] 26); have HB5 := Lib.hid (below_on3 HBq HBb); have d5 := keepcT HBb (keepcT hb5 d4); have X0_5 := Lib.hid (X0q.keep HBb); have HM5 := Lib.hid (max_keepT HMq HBb); have c5 : (w5.alloc (.cells #[.slice g5 l0.length q5] 26)).cell? ⟨w5.heap.size, 0, none⟩ = some (.slice g5 l0.length q5) := (by simp [go_sem]); clear hx hown5 hb5 HBb X0q HMq HBq)
    | (go_at_call 32; have hx := HB3; (with_reducible refine (HSL.out _ _ _ S0_3.out S1_3.out).mono ?_); rintro e w4 ⟨rfl, hb4⟩; have HB4 := Lib.hid (HB3.out.trans (hb4.mono HB3.out.size)); have HM4 := Lib.hid (max_keepT HM3.out hb4); have d4 := keepcT hb4 d3; clear hx hb4)
    | (go_at_call 34; have hx := HB2; (with_reducible refine (HT1.out _ (HR1.out.keep HB2.out)).mono ?_); rintro e w3 ⟨v3, rfl, hown3, hb3⟩; obtain ⟨g3, q3, rfl⟩ := row_formD hown3; have S1_3 := Lib.hid (Rows.of_own hown3); have HB3 := Lib.hid (HB2.out.trans (hb3.mono HB2.out.size)); have HM3 := Lib.hid (max_keepT HM2.out hb3); have d3 := keepcT hb3 d2; have S0_3 := Lib.hid (S0_2.out.keep hb3); clear hx hb3)
    | (go_at_call 33; have hx := HB1; (with_reducible refine (HT0.out _ (HR0.out.keep HB1.out)).mono ?_); rintro e w2 ⟨v2, rfl, hown2, hb2⟩; have S0_2 := Lib.hid hown2.ents; obtain ⟨g2, q2, rfl, _, _⟩ := ent_form S0_2.out; have HB2 := Lib.hid (HB1.out.trans (hb2.mono HB1.out.size)); have HM2 := Lib.hid (max_keepT HM1.out hb2); have d2 := keepcT hb2 d1; clear hx hb2))
  have Z0 := Lib.hid (show Ents w7.drew (.slice a0 l0.length k0) l0 from Ents.drew (HR0.out.keep HB7.out) 1)
  have HQ0 := Lib.hid (fun V V' W h1 h2 => eqDictionary_same V V' l0 W h1 h2 HF0.out)
  go_region_held3 (fun w' => w'.cell? ⟨w5.heap.size, 0, none⟩ = some (.slice g5 l0.length q5) ∧ w'.cell? ⟨W.heap.size, 0, none⟩ = some (.slice a0 l0.length k0)) (first | exact ⟨c9, d9⟩ | exact ⟨c8, d8⟩ | exact ⟨c7, d7⟩) (first
    | (go_at_call 33; (with_reducible refine (HT0.out _ Z0.out).mono ?_); rintro e w8 ⟨v8, rfl, hown8, hb8⟩; have Y0_8 := Lib.hid hown8.ents; obtain ⟨g8, q8, rfl, _, _⟩ := ent_form Y0_8.out; have HB8 := Lib.hid ((below_drew1 HB7.out).trans (hb8.mono HB7.out.size)); have X0_8 := Lib.hid ((show Ents w7.drew _ l0 from Ents.drew X0_7.out 1).keep hb8); have X1_8 := Lib.hid ((show Rows w7.drew _ _ _ _ from Rows.drew X1_7.out 1).keep hb8); have d8 := keepcT hb8 d7; have c8 := keepcT hb8 c7; clear hown8 hb8)
    | (go_at_call 36; (with_reducible refine (HQ0.out _ _ _ X0_8.out Y0_8.out).mono ?_); rintro e w9 ⟨rfl, hb9⟩; have HB9 := Lib.hid (HB8.out.trans (hb9.mono HB8.out.size)); have X1_9 := Lib.hid (X1_8.out.keep hb9); have d9 := keepcT hb9 d8; have c9 := keepcT hb9 c8; clear hb9))
  go_wp2_with (first
    | (go_at_call 37; have hx := Y1_10; (with_reducible refine (eqIntS_same _ _ l1 _ X1_10.out Y1_10.out hq1).mono ?_); rintro e w11 ⟨rfl, hd11⟩; have HB11 := Lib.hid (HB10.out.trans ((hd11.below).mono HB10.out.size)); clear hx hd11)
    | (go_at_call 34; have hx := HB9; (with_reducible refine (HT1.out _ (HR1.out.keep HB9.out)).mono ?_); rintro e w10 ⟨v10, rfl, hown10, hb10⟩; obtain ⟨g10, q10, rfl⟩ := row_formD hown10; have Y1_10 := Lib.hid (Rows.of_own hown10); have HB10 := Lib.hid (HB9.out.trans (hb10.mono HB9.out.size)); have X1_10 := Lib.hid (X1_9.out.keep hb10); clear hx hown10 hb10))
  go_ret
  exact ⟨rfl, HB11.out⟩

namespace fnExactScreenOf
open Go.ChangeShapes Go.WideShapes Go.ChangeAt Go.RowKit
open Go.ChangeMaps (open_string shut_string)
set_option linter.unusedVariables false
theorem own : ownKnob Tryz.prog.godebug = none := by kernel_rfl
theorem laidOut : laidOutB Tryz.prog = true := by kernel_rfl
set_option maxRecDepth 100000 in
theorem lifted (os : Os) (started : os.Started) (H : Type) (enc : TypeId × Value → H) :
    ReturnsInHanded {} Tryz.checked os 6 .any (fun w args => (Rows.fnExactScreenOfSpec.pre enc Tryz.prog Tryz.f6 Rows.fnExactScreenOfRow.domain false w args ∧ laidMetH Tryz.prog Rows.fnExactScreenOfRow.laid w) ∧ sizedMet enc Tryz.prog Tryz.f6 (OpenSpec.ofChange Rows.fnExactScreenOfSpec) false w args)
      (Rows.fnExactScreenOfSpec.post enc Tryz.prog Tryz.f6 false true false false) := by
  refine returnsInHanded_and_shaped (C := Tryz.checked) (X := fun w _ => laidMetH Tryz.prog Rows.fnExactScreenOfRow.laid w) (fun _ _ _ hh h => h.of_heap hh) own started (by kernel_rfl) Tryz.func6
    (ChangeSpec.witness_shaped (enc := enc) (C := Tryz.checked) (os := os) (X := fun w _ => laidMetH Tryz.prog Rows.fnExactScreenOfRow.laid w) false (World.laidAll Tryz.prog os Rows.fnExactScreenOfRow.laid) #[.agg #[.slice none 0 0], .slice none 0 0] 8 (World.laidAll_os _ _ _)
      (World.shaped_of_ZipB (by kernel_rfl) (by kernel_rfl)) (by kernel_rfl) (by kernel_rfl) (by kernel_rfl)
      (by rw [MakeChecks.laidMetH_plain _ _ _ (by kernel_rfl)]; exact laidMet_laidAll _ (by kernel_rfl) (by kernel_rfl))) ?_
  intro W base args ds gs before hval0 hW hcnd _ hL hsh _
  have hM := Go.Proofs.cell_of_shapedOpen_int (g := 0) (zero := #[.int .i64 0]) (t := 3) hsh (of_decide_eq_true (by kernel_rfl)) (by kernel_rfl) rfl (by kernel_rfl) (by kernel_rfl) Tryz.underlying3
  have hval : ∀ (j : Nat) t v, Tryz.f6.params[j]? = some t → args[j]? = some v → Value.okWide Tryz.prog W .any base t v := hval0
  have hW' := hW
  obtain ⟨p, q, hA0, hV, rfl, hfz, hnd⟩ := hW
  have hA : DataW.TrodAll enc Tryz.prog W 0 (fun _ => true) true Tryz.f6.params.toList args.toList ds p := hA0
  rw [Tryz.params6] at hA hval
  obtain ⟨v0, vs0, d0, ds0, p0, q0, hargs, rfl, rfl, h0, r0⟩ := trodAll_cons hA
  obtain ⟨v1, vs1, d1, ds1, p1, q1, rfl, rfl, rfl, h1, r1⟩ := trodAll_cons r0
  obtain ⟨rfl, rfl, rfl⟩ := trodAll_nil r1
  obtain rfl : args = #[v0, v1] := by cases args; simp_all
  obtain ⟨rfl, rfl⟩ := trodVars_none hV
  have k0 := h0
  have lt0 : ∀ x ∈ p0, x.block < W.heap.size := by obtain ⟨m, hm⟩ := k0; exact DataW.trod_lt m _ _ _ hm
  obtain ⟨a0, w0⟩ := (fun W v hv h => open_dictR (w := W) (v := v) Tryz.underlying68 (by kernel_rfl) (by kernel_rfl) rfl Tryz.underlying66 Tryz.underlying154 (by kernel_rfl) rfl rfl (by kernel_rfl) (by kernel_rfl) Tryz.underlying36 Tryz.underlying3 (by kernel_rfl) Tryz.underlying9 hv h) W v0 (hval 0 68 v0 rfl rfl) h0
  have k1 := h1
  have lt1 : ∀ x ∈ p1, x.block < W.heap.size := by obtain ⟨m, hm⟩ := k1; exact DataW.trod_lt m _ _ _ hm
  obtain ⟨a1, w1⟩ := (fun W v hv h => open_intsR (w := W) (v := v) Tryz.underlying36 Tryz.underlying3 (by kernel_rfl) hv h) W v1 (hval 1 36 v1 rfl rfl) h1
  clear hA0 hval0
  refine (FnExactScreenOf_walk v0 a0 v1 a1 W hM w0 w1).mono fun e W' ⟨he, bel⟩ => ?_
  subst he
  exact ⟨_, rfl, _, _, _, [], _, [], hW', trodAll_mk1 (shut_bool Tryz.underlying4 _), (trodAll_cons_mk (Below.trod laidOut (by kernel_rfl) (of_decide_eq_true (by kernel_rfl)) k0 bel lt0) (trodAll_cons_mk (Below.trod laidOut (by kernel_rfl) (of_decide_eq_true (by kernel_rfl)) k1 bel lt1) trodAll_mk0)), rfl, bel.frame _, fun h => by cases h⟩
theorem over : Rows.FnExactScreenOfSaid :=
  OpenClaim.holds_of_wide 6 Tryz.f6 rfl rfl rfl rfl rfl rfl rfl ⟨rfl, rfl, rfl, rfl, rfl⟩ rfl rfl rfl rfl rfl (by kernel_rfl) Tryz.func6 fctFnExactScreenOf
    (of_decide_eq_true (by kernel_rfl)) (by unfold Func.isWrapper; first | (rw [if_pos (by decide +kernel)]; kernel_rfl) | (rw [if_neg (by decide +kernel)]; exact ⟨rfl, rfl⟩))
    (fun os started H enc _ => lifted os started H enc)
end fnExactScreenOf

end Go.Proofs.YtdidgaibgkdjoaaGreatDoor
