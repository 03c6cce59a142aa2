/-
  THE CLAIM: the law FnExactShadowedEntries returns true for every input, and its arguments read afterwards as before. Conditions: the given row's own (the listed tables of the library read as the program's text lays them; the card ties them).
-/
import Derived.Test.YtdidgaibgkdjoaaGreatDoorShSp
import Derived.Test.YtdidgaibgkdjoaaGreatDoorShS
import Derived.Test.YtdidgaibgkdjoaaGreatDoorLayI
import Derived.Test.YtdidgaibgkdjoaaGreatDoorLayE
import Derived.Test.YtdidgaibgkdjoaaGreatDoorLayF
import Derived.Test.YtdidgaibgkdjoaaGreatDoorBasB
import Derived.Test.YtdidgaibgkdjoaaGreatDoorGrD
import Derived.Test.YtdidgaibgkdjoaaGreatDoorFctFnExactShadowedEntries
import Derived.Test.YtdidgaibgkdjoaaGreatDoorBasA
import Derived.Test.YtdidgaibgkdjoaaGreatDoorTie
import Derived.Test.YtdidgaibgkdjoaaGreatDoorCards
import Derived.Test.YtdidgaibgkdjoaaGreatDoorRows
import Derived.ProofKit
import Derived.OpenShut
import Derived.ShutString
import Derived.ChangeOld
import Derived.Below
import Derived.WalkSmall
namespace Go.Proofs.YtdidgaibgkdjoaaGreatDoor
open Go.RowKit

set_option maxRecDepth 20000 in
set_option maxHeartbeats 6400000 in
theorem FnExactShadowedEntries_walk (v0 : Value) (l0 : List Lay) (W : World) (hm : ∃ m, W.cell? ⟨0, 0, none⟩ = some (.int .i64 m)) (h0 : ∃ u, v0 = .agg #[u] ∧ Lays W u l0 ∧ (∀ q ∈ l0, ∀ p ∈ q.1, EntWf p)) :
    Calls Tryz.prog 4 #[v0] W fun e W' => e = .returned (.bool true) ∧ Below W.heap.size W W' := by
  obtain ⟨v0, rfl, hr0, hz0⟩ := h0
  have HR0 := Lib.hid hr0
  have HB0 := Lib.hid (Joins.below_alloc1 W (.cells #[v0] 42))
  have hmb := Lib.hid (max_block hm)
  have HM0 := Lib.hid (max_keepT hm HB0.out)
  obtain ⟨a0, k0, rfl, _, _⟩ := lay_form hr0
  have d0 := Lib.hid (show (W.alloc (.cells #[.slice a0 l0.length k0] 42)).cell? ⟨W.heap.size, 0, none⟩ = some (.slice a0 l0.length k0) by simp [go_sem])
  have HS0 := Lib.hid (fun W h1 => szStack_any (.slice a0 l0.length k0) l0 1048576 W h1 hz0 (by omega) (by omega))
  unfold SzLeft at HS0
  clear hr0 hz0 hm 
  have HE0 := Lib.hid (HR0.out.keep HB0.out)
  go_enter Tryz.func4, Tryz.ntmps4
  go_upto_region 3 with (go_at_call 16; (with_reducible refine (HS0.out _ HE0.out).mono ?_); rintro e w1 ⟨⟨r0, rfl, p1, p2, p3⟩, hb1⟩; have HB1 := Lib.hid (HB0.out.trans (hb1.mono HB0.out.size)); have hz1 := Lib.hid hb1.size; have d1 := keepcT hb1 d0.out; have HM1 := Lib.hid (max_keepT HM0.out hb1); clear hb1)
  by_cases hneg0 : r0 < 0
  · go_wp2
    go_ret
    exact ⟨rfl, HB1.out⟩
  have HF0 := Lib.hid (p3 (by omega))
  have hr0_0 : 0 ≤ r0 := by omega
  have hr0_1 : r0 ≤ 1048576 := by omega
  clear p1 p2 p3 HS0 HE0 d0 HM0
  have HT0 := Lib.hid (fun W h => toStackI_any (.slice a0 l0.length k0) l0 W h HF0.out)
  unfold RetStackI at HT0
  have HSL := Lib.hid (fun V W h1 => specShadowedEntries_any V l0 W h1 HF0.out.1 (fit_lay HF0.out))
  have HIL := Lib.hid (fun V W h1 h2 => ShadowedEntries_any V l0 W h1 HF0.out.1 (fit_lay HF0.out) h2)
  unfold RetSh at HSL HIL
  have hL : (shOut l0).length ≤ 1048576 := Nat.le_trans (shOut_len l0) (by omega)
  have hS := Lib.hid (show ∀ q ∈ shOut l0, q.2.2.length ≤ 1048576 from fun q hq => by obtain ⟨s, hs, p, hp, e⟩ := shOut_mem hq; rw [e]; exact ((fit_lay HF0.out s hs).2 p hp).1)
  generalize shOut l0 = L at HSL HIL hL hS
  generalize stackOk l0 = y at HSL HIL
  clear hneg0
  have HZ1 := Lib.hid (show W.heap.size + 1 ≤ w1.heap.size from Nat.le_trans (Nat.le_of_eq (World.size_alloc _ _).symm) hz1.out)
  have HMb := Lib.hid (show 0 < W.heap.size from hmb.out)
  go_upto_region 10 with (first
    | (go_at_call 20; have hx := HB5; (with_reducible refine (eqShadowedS_same _ _ L _ G5.out.shs W5.out.shs hL hS.out).mono ?_); rintro e w6 ⟨rfl, hb6⟩; have HB6 := Lib.hid (HB5.out.trans (hb6.mono HB5.out.size)); have HM6 := Lib.hid (max_keepT HM5.out hb6); have HZ6 := Lib.hid (hb6).size; have d6 := keepcT hb6 d5; have c6 := keepcT hb6 c5; have W6 := Lib.hid (W5.out.keep hb6); have X0_6 := Lib.hid (X0_5.out.keep hb6); have G6 := Lib.hid (G5.out.keep hb6); clear hx hb6 d5 c5 W5 X0_5 G5 HB5 HM5)
    | (go_at_call 19; have hx := HB4; (with_reducible refine (HIL.out _ _ X0_4.out.lays HM4.out).mono ?_); rintro e w5 ⟨v5, rfl, hown5, hb5⟩; have G5 := Lib.hid (hown5); clear hown5; have HB5 := Lib.hid (HB4.out.trans (hb5.mono HB4.out.size)); have HM5 := Lib.hid (max_keepT HM4.out hb5); have HZ5 := Lib.hid (hb5).size; have d5 := keepcT hb5 d4; have c5 := keepcT hb5 c4; have W5 := Lib.hid (W4.out.keep hb5); have X0_5 := Lib.hid (X0_4.out.keep hb5); clear hx hb5 d4 c4 W4 X0_4 HB4 HM4)
    | (go_at_call 18; have hx := HB3; (with_reducible refine (HT0.out _ (HR0.out.keep HB3.out)).mono ?_); rintro e w4 ⟨v4, rfl, hown4, hb4⟩; have HBq := HB3.out.trans (hb4.mono HB3.out.size); obtain ⟨g4, q4, rfl, _, _⟩ := lay_form hown4.lays; have dq := keepcT hb4 d3; have HMq := max_keepT HM3.out hb4; have HBb := Joins.below_alloc1 w4 (.cells #[.slice g4 l0.length q4] 49); have HZ4 := Lib.hid hb4.size; have HZ4b := Lib.hid (World.size_alloc w4 (.cells #[.slice g4 l0.length q4] 49)); have HB4 := Lib.hid (below_on3 HBq HBb); have d4 := keepcT HBb dq; have X0_4 := Lib.hid (hown4.keep HBb); have HM4 := Lib.hid (max_keepT HMq HBb); have W4 := Lib.hid ((W3.out.keep hb4).keep HBb); have c4 : (w4.alloc (.cells #[.slice g4 l0.length q4] 49)).cell? ⟨w4.heap.size, 0, none⟩ = some (.slice g4 l0.length q4) := (by simp [go_sem]); clear hx hown4 hb4 HBb HMq HBq dq HB3 HM3 d3 W3)
    | (go_at_call 17; have hx := HB2; (with_reducible refine (HSL.out _ _ S0_2.out.lays).mono ?_); rintro e w3 ⟨v3, rfl, hown3, hb3⟩; have W3 := Lib.hid (hown3); clear hown3; have HB3 := Lib.hid (HB2.out.trans (hb3.mono HB2.out.size)); have HM3 := Lib.hid (max_keepT HM2.out hb3); have HZ3 := Lib.hid (hb3).size; have d3 := keepcT hb3 d2; clear hx hb3 d2 S0_2 HB2 HM2)
    | (go_at_call 18; have hx := HB1; (with_reducible refine (HT0.out _ (HR0.out.keep HB1.out)).mono ?_); rintro e w2 ⟨v2, rfl, hown2, hb2⟩; have S0_2 := Lib.hid hown2; obtain ⟨g2, q2, rfl, _, _⟩ := lay_form hown2.lays; clear hown2; have HB2 := Lib.hid (HB1.out.trans (hb2.mono HB1.out.size)); have HM2 := Lib.hid (max_keepT HM1.out hb2); have HZ2 := Lib.hid (hb2).size; have d2 := keepcT hb2 d1; clear hx hb2 d1 HB1 HM1))
  have HQ0 := Lib.hid (fun V V' W h1 h2 => eqStack_same V V' l0 W h1 h2 HF0.out)
  have Z0 := Lib.hid (show Lays w6.drew (.slice a0 l0.length k0) l0 from Lays.drew (HR0.out.keep HB6.out) 1)
  go_region_held3 (fun w' => w'.cell? ⟨w4.heap.size, 0, none⟩ = some (.slice g4 l0.length q4) ∧ w'.cell? ⟨W.heap.size, 0, none⟩ = some (.slice a0 l0.length k0)) (first | exact ⟨c8, d8⟩ | exact ⟨c7, d7⟩ | exact ⟨c6, d6⟩) (first
    | (go_at_call 18; (with_reducible refine (HT0.out _ Z0.out).mono ?_); rintro e w7 ⟨v7, rfl, hown7, hb7⟩; have Y0_7 := Lib.hid hown7.lays; obtain ⟨g7, q7, rfl, _, _⟩ := lay_form Y0_7.out; have HB7 := Lib.hid ((below_drew1 HB6.out).trans (hb7.mono HB6.out.size)); have HM7 := Lib.hid (max_keepT (w := w6.drew) HM6.out hb7); have HZ7 := Lib.hid (show w6.heap.size ≤ w7.heap.size from hb7.size); have W7 := Lib.hid (W6.out.drew.keep hb7); have X0_7 := Lib.hid (X0_6.out.drew.keep hb7); have G7 := Lib.hid (G6.out.drew.keep hb7); have d7 := keepcT hb7 d6; have c7 := keepcT hb7 c6; clear hown7 hb7)
    | (go_at_call 21; (with_reducible refine (HQ0.out _ _ _ X0_7.out.lays Y0_7.out).mono ?_); rintro e w8 ⟨rfl, hb8⟩; have HB8 := Lib.hid (HB7.out.trans (hb8.mono HB7.out.size)); have HM8 := Lib.hid (max_keepT HM7.out hb8); have HZ8 := Lib.hid hb8.size; have W8 := Lib.hid (W7.out.keep hb8); have X0_8 := Lib.hid (X0_7.out.keep hb8); have G8 := Lib.hid (G7.out.keep hb8); have d8 := keepcT hb8 d7; have c8 := keepcT hb8 c7; clear hb8))
  clear HB6 HM6 d6 c6 HB7 HM7 d7 c7 Z0 Y0_7 W6 W7 X0_6 X0_7 G6 G7
  go_wp2_with (first
    | (go_at_call 24; have hx := HB15; (refine (heldShadowedS_any _ L 1 _ MG15.out.shs hL hS.out (by omega) (by omega)).mono ?_); rintro e w16 ⟨rfl, hb16⟩; have HB16 := Lib.hid (HB15.out.trans (hb16.mono HB15.out.size)); have HM16 := Lib.hid (max_keepT HM15.out hb16); have HZ16 := Lib.hid (hb16).size; have d16 := keepcT hb16 d15; clear hx hb16 d15 MG15 HB15 HM15)
    | (go_at_call 20; have hx := HB14; (with_reducible refine (eqShadowedS_same _ _ L _ H14.out.shs W14.out.shs hL hS.out).mono ?_); rintro e w15 ⟨rfl, hb15⟩; have HB15 := Lib.hid (HB14.out.trans (hb15.mono HB14.out.size)); have HM15 := Lib.hid (max_keepT HM14.out hb15); have HZ15 := Lib.hid (hb15).size; have d15 := keepcT hb15 d14; have MG15 := Lib.hid (MG14.out.keep hb15); clear hx hb15 d14 W14 MG14 H14 HB14 HM14)
    | (go_at_call 19; have hx := HB13; (with_reducible refine (HIL.out _ _ T0_13.out.lays HM13.out).mono ?_); rintro e w14 ⟨v14, rfl, hown14, hb14⟩; have H14 := Lib.hid (hown14); clear hown14; have HB14 := Lib.hid (HB13.out.trans (hb14.mono HB13.out.size)); have HM14 := Lib.hid (max_keepT HM13.out hb14); have HZ14 := Lib.hid (hb14).size; have d14 := keepcT hb14 d13; have W14 := Lib.hid (W13.out.keep hb14); have MG14 := Lib.hid (MG13.out.keep hb14); clear hx hb14 d13 W13 MG13 T0_13 HB13 HM13)
    | (go_at_call 18; have hx := HB12; (with_reducible refine (HT0.out _ (HR0.out.keep HB12.out)).mono ?_); rintro e w13 ⟨v13, rfl, hown13, hb13⟩; have T0_13 := Lib.hid hown13; obtain ⟨g13, q13, rfl, _, _⟩ := lay_form hown13.lays; clear hown13; have HB13 := Lib.hid (HB12.out.trans (hb13.mono HB12.out.size)); have HM13 := Lib.hid (max_keepT HM12.out hb13); have HZ13 := Lib.hid (hb13).size; have d13 := keepcT hb13 d12; have W13 := Lib.hid (W12.out.keep hb13); have MG13 := Lib.hid (MG12.out.keep hb13); clear hx hb13 d12 W12 MG12 HB12 HM12)
    | (go_at_call 24; have hx := HB11; (refine (heldShadowedS_any _ L 1 _ MG11.out.shs hL hS.out (by omega) (by omega)).mono ?_); rintro e w12 ⟨rfl, hb12⟩; have HB12 := Lib.hid (HB11.out.trans (hb12.mono HB11.out.size)); have HM12 := Lib.hid (max_keepT HM11.out hb12); have HZ12 := Lib.hid (hb12).size; have d12 := keepcT hb12 d11; have W12 := Lib.hid (W11.out.keep hb12); have MG12 := Lib.hid (MG11.out.keep hb12); clear hx hb12 d11 W11 MG11 HB11 HM11)
    | (go_at_call 23; have hx := HB10; (refine (markShadowedS_any _ L _ _ 1 _ G10.out hL hS.out (by omega) (by omega)).mono ?_); rintro e w11 ⟨rfl, hwn, hw⟩; have MG11 := Lib.hid hwn; clear hwn; have HZ11 := Lib.hid hw.size; have z1 := HZ1.out; have z2 := HZ2.out; have z3 := HZ3.out; have z4 := HZ4.out; have z4b := HZ4b.out; have z5 := HZ5.out; have z6 := HZ6.out; have z7 := HZ7.out; have z8 := HZ8.out; have z9 := HZ9.out; have z10 := HZ10.out; have zm := HMb.out; have zk := HB10.out.size; have HB11 := Lib.hid (HB10.out.trans (hw.below (by omega) (by omega))); have HM11 := Lib.hid (max_wid HM10.out hw (by omega)); have d11 := hw.cell d10 (by omega); have W11 := Lib.hid (W10.out.wid hw (by omega)); clear hx hw zk zm z1 z2 z3 z4 z4b z5 z6 z7 z8 z9 z10 d10 W10 G10 HB10 HM10)
    | (go_at_call 20; have hx := HB9; (with_reducible refine (eqShadowedS_same _ _ L _ G9.out.shs W9.out.shs hL hS.out).mono ?_); rintro e w10 ⟨rfl, hb10⟩; have HB10 := Lib.hid (HB9.out.trans (hb10.mono HB9.out.size)); have HM10 := Lib.hid (max_keepT HM9.out hb10); have HZ10 := Lib.hid (hb10).size; have d10 := keepcT hb10 d9; have W10 := Lib.hid (W9.out.keep hb10); have G10 := Lib.hid (G9.out.keep hb10); clear hx hb10 d9 W9 G9 HB9 HM9)
    | (go_at_call 22; have hx := HB8; (with_reducible refine (markStack_any _ l0 _ _ _ _ X0_8.out HF0.out (by omega) (by omega)).mono ?_); rintro e w9 ⟨⟨m0, rfl, u0, u1⟩, hw⟩; skip; have HZ9 := Lib.hid hw.size; have z1 := HZ1.out; have z2 := HZ2.out; have z3 := HZ3.out; have z4 := HZ4.out; have z4b := HZ4b.out; have z5 := HZ5.out; have z6 := HZ6.out; have z7 := HZ7.out; have z8 := HZ8.out; have zm := HMb.out; have zk := HB8.out.size; have HB9 := Lib.hid (HB8.out.trans (hw.below (by omega) (by omega))); have HM9 := Lib.hid (max_wid HM8.out hw (by omega)); have d9 := hw.cell d8 (by omega); have W9 := Lib.hid (W8.out.wid hw (by omega)); have G9 := Lib.hid (G8.out.wid hw (by omega)); clear hx hw zk zm z1 z2 z3 z4 z4b z5 z6 z7 z8 d8 c8 W8 X0_8 G8 HB8 HM8))
  go_ret
  exact ⟨rfl, HB16.out⟩

namespace fnExactShadowedEntries
open Go.ChangeShapes Go.WideShapes Go.ChangeAt Go.RowKit
open Go.ChangeMaps (open_string shut_string)
set_option linter.unusedVariables false
theorem own : ownKnob Tryz.prog.godebug = none := by kernel_rfl
theorem laidOut : laidOutB Tryz.prog = true := by kernel_rfl
set_option maxRecDepth 100000 in
theorem lifted (os : Os) (started : os.Started) (H : Type) (enc : TypeId × Value → H) :
    ReturnsInHanded {} Tryz.checked os 4 .any (fun w args => (Rows.fnExactShadowedEntriesSpec.pre enc Tryz.prog Tryz.f4 Rows.fnExactShadowedEntriesRow.domain false w args ∧ laidMetH Tryz.prog Rows.fnExactShadowedEntriesRow.laid w) ∧ sizedMet enc Tryz.prog Tryz.f4 (OpenSpec.ofChange Rows.fnExactShadowedEntriesSpec) false w args)
      (Rows.fnExactShadowedEntriesSpec.post enc Tryz.prog Tryz.f4 false true false false) := by
  refine returnsInHanded_and_shaped (C := Tryz.checked) (X := fun w _ => laidMetH Tryz.prog Rows.fnExactShadowedEntriesRow.laid w) (fun _ _ _ hh h => h.of_heap hh) own started (by kernel_rfl) Tryz.func4
    (ChangeSpec.witness_shaped (enc := enc) (C := Tryz.checked) (os := os) (X := fun w _ => laidMetH Tryz.prog Rows.fnExactShadowedEntriesRow.laid w) false (World.laidAll Tryz.prog os Rows.fnExactShadowedEntriesRow.laid) #[.agg #[.slice none 0 0]] 8 (World.laidAll_os _ _ _)
      (World.shaped_of_ZipB (by kernel_rfl) (by kernel_rfl)) (by kernel_rfl) (by kernel_rfl) (by kernel_rfl)
      (by rw [MakeChecks.laidMetH_plain _ _ _ (by kernel_rfl)]; exact laidMet_laidAll _ (by kernel_rfl) (by kernel_rfl))) ?_
  intro W base args ds gs before hval0 hW hcnd _ hL hsh _
  have hM := Go.Proofs.cell_of_shapedOpen_int (g := 0) (zero := #[.int .i64 0]) (t := 3) hsh (of_decide_eq_true (by kernel_rfl)) (by kernel_rfl) rfl (by kernel_rfl) (by kernel_rfl) Tryz.underlying3
  have hval : ∀ (j : Nat) t v, Tryz.f4.params[j]? = some t → args[j]? = some v → Value.okWide Tryz.prog W .any base t v := hval0
  have hW' := hW
  obtain ⟨p, q, hA0, hV, rfl, hfz, hnd⟩ := hW
  have hA : DataW.TrodAll enc Tryz.prog W 0 (fun _ => true) true Tryz.f4.params.toList args.toList ds p := hA0
  rw [Tryz.params4] at hA hval
  obtain ⟨v0, vs0, d0, ds0, p0, q0, hargs, rfl, rfl, h0, r0⟩ := trodAll_cons hA
  obtain ⟨rfl, rfl, rfl⟩ := trodAll_nil r0
  obtain rfl : args = #[v0] := by cases args; simp_all
  obtain ⟨rfl, rfl⟩ := trodVars_none hV
  have k0 := h0
  have lt0 : ∀ x ∈ p0, x.block < W.heap.size := by obtain ⟨m, hm⟩ := k0; exact DataW.trod_lt m _ _ _ hm
  obtain ⟨a0, w0⟩ := (fun W v hv h => open_stackR (w := W) (v := v) Tryz.underlying42 (by kernel_rfl) (by kernel_rfl) rfl Tryz.underlying40 Tryz.underlying137 (by kernel_rfl) rfl rfl (by kernel_rfl) (by kernel_rfl) Tryz.underlying68 Tryz.underlying4 rfl rfl (by kernel_rfl) Tryz.underlying66 Tryz.underlying154 (by kernel_rfl) rfl rfl (by kernel_rfl) (by kernel_rfl) Tryz.underlying36 Tryz.underlying3 (by kernel_rfl) Tryz.underlying9 hv h) W v0 (hval 0 42 v0 rfl rfl) h0
  clear hA0 hval0
  refine (FnExactShadowedEntries_walk v0 a0 W hM w0).mono fun e W' ⟨he, bel⟩ => ?_
  subst he
  exact ⟨_, rfl, _, _, _, [], _, [], hW', trodAll_mk1 (shut_bool Tryz.underlying4 _), (trodAll_cons_mk (Below.trod laidOut (by kernel_rfl) (of_decide_eq_true (by kernel_rfl)) k0 bel lt0) trodAll_mk0), rfl, bel.frame _, fun h => by cases h⟩
theorem over : Rows.FnExactShadowedEntriesSaid :=
  OpenClaim.holds_of_wide 4 Tryz.f4 rfl rfl rfl rfl rfl rfl rfl ⟨rfl, rfl, rfl, rfl, rfl⟩ rfl rfl rfl rfl rfl (by kernel_rfl) Tryz.func4 fctFnExactShadowedEntries
    (of_decide_eq_true (by kernel_rfl)) (by unfold Func.isWrapper; first | (rw [if_pos (by decide +kernel)]; kernel_rfl) | (rw [if_neg (by decide +kernel)]; exact ⟨rfl, rfl⟩))
    (fun os started H enc _ => lifted os started H enc)
end fnExactShadowedEntries

end Go.Proofs.YtdidgaibgkdjoaaGreatDoor
