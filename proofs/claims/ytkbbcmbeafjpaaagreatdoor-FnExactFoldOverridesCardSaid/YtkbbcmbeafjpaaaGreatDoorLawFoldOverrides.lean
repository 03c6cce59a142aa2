/-
  THE CLAIM: the law FnExactFoldOverrides returns true for every input, and its arguments read afterwards as before. Conditions: the given row's own (the listed tables of the library read as the program's text lays them; the card ties them).
-/
import Derived.Test.YtkbbcmbeafjpaaaGreatDoorFoldQ
import Derived.Test.YtkbbcmbeafjpaaaGreatDoorNestS
import Derived.Test.YtkbbcmbeafjpaaaGreatDoorMarkF
import Derived.Test.YtkbbcmbeafjpaaaGreatDoorBasB
import Derived.Test.YtkbbcmbeafjpaaaGreatDoorMarkD
import Derived.Test.YtkbbcmbeafjpaaaGreatDoorOpenFold
import Derived.Test.YtkbbcmbeafjpaaaGreatDoorFctFnExactFoldOverrides
import Derived.Test.YtkbbcmbeafjpaaaGreatDoorBasA
import Derived.Test.YtkbbcmbeafjpaaaGreatDoorTie
import Derived.Test.YtkbbcmbeafjpaaaGreatDoorCards
import Derived.ProofKit
import Derived.OpenShut
import Derived.ShutString
import Derived.ChangeOld
import Derived.Below
import Derived.WalkSmall
namespace Go.Proofs.YtkbbcmbeafjpaaaGreatDoor
open Go.RowKit

set_option maxRecDepth 20000 in
set_option maxHeartbeats 6400000 in
theorem FnExactFoldOverrides_walk (v0 : Value) (l0 : List Ent) (v1 : Value) (l1 : List (Int × ByteArray)) (W : World) (hm : ∃ m, W.cell? ⟨0, 0, none⟩ = some (.int .i64 m)) (h0 : ∃ u, v0 = .agg #[u] ∧ Ents W u l0 ∧ (∀ q ∈ l0, (∀ n ∈ q.1, (Lit.int .i64 n).wf = true) ∧ q.2.size ≤ maxLen)) (h1 : Rows W v1 l1.length 2 (folds l1) ∧ (∀ q ∈ l1, q.2.size ≤ maxLen)) :
    Calls Tryz.prog 8 #[v0, v1] W fun e W' => e = .returned (.bool true) ∧ Below W.heap.size W W' := by
  obtain ⟨v0, rfl, hr0, hz0⟩ := h0
  have HR0 := Lib.hid hr0
  have HR1 := Lib.hid h1.1
  have HZ1 := Lib.hid h1.2
  have HB0 := Lib.hid (Joins.below_alloc1 W (.cells #[v0] 55))
  have hmb := Lib.hid (max_block hm)
  have HM0 := Lib.hid (max_keepT hm HB0.out)
  obtain ⟨a0, k0, rfl, _, _⟩ := ent_form hr0
  obtain ⟨a1, k1, rfl, _, _⟩ := rows_form h1.1
  have d0 := Lib.hid (show (W.alloc (.cells #[.slice a0 l0.length k0] 55)).cell? ⟨W.heap.size, 0, none⟩ = some (.slice a0 l0.length k0) by simp [go_sem])
  have HS0 := Lib.hid (fun W h1 => szDictionary_any (.slice a0 l0.length k0) l0 1048576 W h1 hz0 (by omega) (by omega))
  have HS1 := Lib.hid (fun (n : Int) W h1 h2 h3 => szFoldS_gen n h2 h3 (.slice a1 l1.length k1) l1 W h1 HZ1.out)
  unfold SzLeft at HS0 HS1
  clear hr0 hz0 hm h1
  have HE0 := Lib.hid (HR0.out.keep HB0.out)
  go_enter Tryz.func8, Tryz.ntmps8
  go_upto_region 3 with (go_at_call 28; (with_reducible refine (HS0.out _ HE0.out).mono ?_); rintro e w1 ⟨⟨r0, rfl, p1, p2, p3⟩, hb1⟩; have HB1 := Lib.hid (HB0.out.trans (hb1.mono HB0.out.size)); have hz1 := Lib.hid hb1.size; have d1 := keepcT hb1 d0.out; have HM1 := Lib.hid (max_keepT HM0.out hb1); clear hb1)
  by_cases hneg0 : r0 < 0
  · go_wp2
    go_ret
    exact ⟨rfl, HB1.out⟩
  have HF0 := Lib.hid (p3 (by omega))
  have hr0_0 : 0 ≤ r0 := by omega
  have hr0_1 : r0 ≤ 1048576 := by omega
  clear p1 p2 p3 HS0 HE0 d0 HM0
  go_upto_region 6 with (go_at_call 40; (with_reducible refine (HS1.out _ _ (HR1.out.keep HB1.out) hr0_0 hr0_1).mono ?_); rintro e w2 ⟨⟨r1, rfl, p1, p2, p3⟩, hb2⟩; have HB2 := Lib.hid (HB1.out.trans (hb2.mono HB1.out.size)); have hz2 := Lib.hid (Nat.le_trans hz1.out hb2.size); have d2 := keepcT hb2 d1; have HM2 := Lib.hid (max_keepT HM1.out hb2); clear hb2)
  by_cases hneg1 : r1 < 0
  · go_wp2
    go_ret
    exact ⟨rfl, HB2.out⟩
  have HF1 := Lib.hid (p3 (by omega))
  have hr1_0 : 0 ≤ r1 := by omega
  have hr1_1 : r1 ≤ 1048576 := by omega
  have hq1 : l1.length ≤ 1048576 := HF1.out.1
  clear p1 p2 p3 HS1 d1
  have HT0 := Lib.hid (fun W h => toDictionary_any (.slice a0 l0.length k0) l0 W h HF0.out)
  have HT1 := Lib.hid (fun W h => toFoldS_any (.slice a1 l1.length k1) l1 W h HF1.out.1)
  unfold RetDict at HT0
  unfold RetRow at HT1
  have HSL := Lib.hid (fun V Y W h1 h2 => specFoldOverrides_any V Y l0 l1 W h1 HF0.out.1 HF0.out.2 h2 HF1.out)
  have HIL := Lib.hid (fun V Y W h1 h2 h3 => FoldOverrides_any V Y l0 l1 W h1 HF0.out.1 HF0.out.2 h2 HF1.out h3)
  unfold RetII at HSL HIL
  have hL : (foOut l0 l1).length ≤ 1048576 := Nat.le_trans (foOut_len l0 l1) HF0.out.1
  have hS := Lib.hid (fun q hq => foOut_fit HF0.out (F := l1) q hq)
  generalize foOut l0 l1 = L at HSL HIL hL hS
  generalize foOk l0 l1 = y at HSL HIL
  clear hneg0 hneg1
  have HZ2 := Lib.hid (show W.heap.size + 1 ≤ w2.heap.size from Nat.le_trans (Nat.le_of_eq (World.size_alloc _ _).symm) hz2.out)
  have HMb := Lib.hid (show 0 < W.heap.size from hmb.out)
  go_upto_region 14 with (first
    | (go_at_call 47; have hx := HB8; (with_reducible refine (eqIntSS_same _ _ L _ G8.out.nests W8.out.nests hL hS.out).mono ?_); rintro e w9 ⟨rfl, hb9⟩; have HB9 := Lib.hid (HB8.out.trans (hb9.mono HB8.out.size)); have HM9 := Lib.hid (max_keepT HM8.out hb9); have HZ9 := Lib.hid (hb9).size; have d9 := keepcT hb9 d8; have c9 := keepcT hb9 c8; have W9 := Lib.hid (W8.out.keep hb9); have X0_9 := Lib.hid (X0_8.out.keep hb9); have X1_9 := Lib.hid (X1_8.out.keep hb9); have G9 := Lib.hid (G8.out.keep hb9); clear hx hb9 d8 c8 W8 X0_8 X1_8 G8 HB8 HM8)
    | (go_at_call 46; have hx := HB7; (with_reducible refine (HIL.out _ _ _ X0_7.out.ents X1_7.out.rows HM7.out).mono ?_); rintro e w8 ⟨v8, xs8, rfl, hown8, hb8⟩; have G8 := Lib.hid (hown8); clear hown8; have HB8 := Lib.hid (HB7.out.trans (hb8.mono HB7.out.size)); have HM8 := Lib.hid (max_keepT HM7.out hb8); have HZ8 := Lib.hid (hb8).size; have d8 := keepcT hb8 d7; have c8 := keepcT hb8 c7; have W8 := Lib.hid (W7.out.keep hb8); have X0_8 := Lib.hid (X0_7.out.keep hb8); have X1_8 := Lib.hid (X1_7.out.keep hb8); clear hx hb8 d7 c7 W7 X0_7 X1_7 HB7 HM7)
    | (go_at_call 42; have hx := HB6; (with_reducible refine (HT1.out _ (HR1.out.keep HB6.out)).mono ?_); rintro e w7 ⟨v7, rfl, hown7, hb7⟩; obtain ⟨g7, q7, rfl⟩ := row_formD hown7; have X1_7 := Lib.hid (OwnRow.of hown7); clear hown7; have HB7 := Lib.hid (HB6.out.trans (hb7.mono HB6.out.size)); have HM7 := Lib.hid (max_keepT HM6.out hb7); have HZ7 := Lib.hid (hb7).size; have d7 := keepcT hb7 d6; have c7 := keepcT hb7 c6; have W7 := Lib.hid (W6.out.keep hb7); have X0_7 := Lib.hid (X0_6.out.keep hb7); clear hx hb7 d6 c6 W6 X0_6 HB6 HM6)
    | (go_at_call 30; have hx := HB5; (with_reducible refine (HT0.out _ (HR0.out.keep HB5.out)).mono ?_); rintro e w6 ⟨v6, rfl, hown6, hb6⟩; have HBq := HB5.out.trans (hb6.mono HB5.out.size); obtain ⟨g6, q6, rfl, _, _⟩ := ent_form hown6.ents; have dq := keepcT hb6 d5; have HMq := max_keepT HM5.out hb6; have HBb := Joins.below_alloc1 w6 (.cells #[.slice g6 l0.length q6] 41); have HZ6 := Lib.hid hb6.size; have HZ6b := Lib.hid (World.size_alloc w6 (.cells #[.slice g6 l0.length q6] 41)); have HB6 := Lib.hid (below_on3 HBq HBb); have d6 := keepcT HBb dq; have X0_6 := Lib.hid (hown6.keep HBb); have HM6 := Lib.hid (max_keepT HMq HBb); have W6 := Lib.hid ((W5.out.keep hb6).keep HBb); have c6 : (w6.alloc (.cells #[.slice g6 l0.length q6] 41)).cell? ⟨w6.heap.size, 0, none⟩ = some (.slice g6 l0.length q6) := (by simp [go_sem]); clear hx hown6 hb6 HBb HMq HBq dq HB5 HM5 d5 W5)
    | (go_at_call 45; have hx := HB4; (with_reducible refine (HSL.out _ _ _ S0_4.out.ents S1_4.out.rows).mono ?_); rintro e w5 ⟨v5, xs5, rfl, hown5, hb5⟩; have W5 := Lib.hid (hown5); clear hown5; have HB5 := Lib.hid (HB4.out.trans (hb5.mono HB4.out.size)); have HM5 := Lib.hid (max_keepT HM4.out hb5); have HZ5 := Lib.hid (hb5).size; have d5 := keepcT hb5 d4; clear hx hb5 d4 S0_4 S1_4 HB4 HM4)
    | (go_at_call 42; have hx := HB3; (with_reducible refine (HT1.out _ (HR1.out.keep HB3.out)).mono ?_); rintro e w4 ⟨v4, rfl, hown4, hb4⟩; obtain ⟨g4, q4, rfl⟩ := row_formD hown4; have S1_4 := Lib.hid (OwnRow.of hown4); clear hown4; have HB4 := Lib.hid (HB3.out.trans (hb4.mono HB3.out.size)); have HM4 := Lib.hid (max_keepT HM3.out hb4); have HZ4 := Lib.hid (hb4).size; have d4 := keepcT hb4 d3; have S0_4 := Lib.hid (S0_3.out.keep hb4); clear hx hb4 d3 S0_3 HB3 HM3)
    | (go_at_call 30; have hx := HB2; (with_reducible refine (HT0.out _ (HR0.out.keep HB2.out)).mono ?_); rintro e w3 ⟨v3, rfl, hown3, hb3⟩; have S0_3 := Lib.hid hown3; obtain ⟨g3, q3, rfl, _, _⟩ := ent_form hown3.ents; clear hown3; have HB3 := Lib.hid (HB2.out.trans (hb3.mono HB2.out.size)); have HM3 := Lib.hid (max_keepT HM2.out hb3); have HZ3 := Lib.hid (hb3).size; have d3 := keepcT hb3 d2; clear hx hb3 d2 HB2 HM2))
  have HQ0 := Lib.hid (fun V V' W h1 h2 => eqDictionary_same V V' l0 W h1 h2 HF0.out)
  have Z0 := Lib.hid (show Ents w9.drew (.slice a0 l0.length k0) l0 from Ents.drew (HR0.out.keep HB9.out) 1)
  go_region_held3 (fun w' => w'.cell? ⟨w6.heap.size, 0, none⟩ = some (.slice g6 l0.length q6) ∧ w'.cell? ⟨W.heap.size, 0, none⟩ = some (.slice a0 l0.length k0)) (first | exact ⟨c11, d11⟩ | exact ⟨c10, d10⟩ | exact ⟨c9, d9⟩) (first
    | (go_at_call 30; (with_reducible refine (HT0.out _ Z0.out).mono ?_); rintro e w10 ⟨v10, rfl, hown10, hb10⟩; have Y0_10 := Lib.hid hown10.ents; obtain ⟨g10, q10, rfl, _, _⟩ := ent_form Y0_10.out; have HB10 := Lib.hid ((below_drew1 HB9.out).trans (hb10.mono HB9.out.size)); have HM10 := Lib.hid (max_keepT (w := w9.drew) HM9.out hb10); have HZ10 := Lib.hid (show w9.heap.size ≤ w10.heap.size from hb10.size); have W10 := Lib.hid (W9.out.drew.keep hb10); have X0_10 := Lib.hid (X0_9.out.drew.keep hb10); have X1_10 := Lib.hid (X1_9.out.drew.keep hb10); have G10 := Lib.hid (G9.out.drew.keep hb10); have d10 := keepcT hb10 d9; have c10 := keepcT hb10 c9; clear hown10 hb10)
    | (go_at_call 33; (with_reducible refine (HQ0.out _ _ _ X0_10.out.ents Y0_10.out).mono ?_); rintro e w11 ⟨rfl, hb11⟩; have HB11 := Lib.hid (HB10.out.trans (hb11.mono HB10.out.size)); have HM11 := Lib.hid (max_keepT HM10.out hb11); have HZ11 := Lib.hid hb11.size; have W11 := Lib.hid (W10.out.keep hb11); have X0_11 := Lib.hid (X0_10.out.keep hb11); have X1_11 := Lib.hid (X1_10.out.keep hb11); have G11 := Lib.hid (G10.out.keep hb11); have d11 := keepcT hb11 d10; have c11 := keepcT hb11 c10; clear hb11))
  clear HB9 HM9 d9 c9 HB10 HM10 d10 c10 Z0 Y0_10 W9 W10 X0_9 X0_10 X1_9 X1_10 G9 G10
  go_wp2_with (first
    | (go_at_call 50; have hx := HB22; (refine (heldIntSS_any _ L 1 _ MG22.out.nests hL hS.out (by omega) (by omega)).mono ?_); rintro e w23 ⟨rfl, hb23⟩; have HB23 := Lib.hid (HB22.out.trans (hb23.mono HB22.out.size)); have HM23 := Lib.hid (max_keepT HM22.out hb23); have HZ23 := Lib.hid (hb23).size; have d23 := keepcT hb23 d22; clear hx hb23 d22 MG22 HB22 HM22)
    | (go_at_call 47; have hx := HB21; (with_reducible refine (eqIntSS_same _ _ L _ H21.out.nests W21.out.nests hL hS.out).mono ?_); rintro e w22 ⟨rfl, hb22⟩; have HB22 := Lib.hid (HB21.out.trans (hb22.mono HB21.out.size)); have HM22 := Lib.hid (max_keepT HM21.out hb22); have HZ22 := Lib.hid (hb22).size; have d22 := keepcT hb22 d21; have MG22 := Lib.hid (MG21.out.keep hb22); clear hx hb22 d21 W21 MG21 H21 HB21 HM21)
    | (go_at_call 46; have hx := HB20; (with_reducible refine (HIL.out _ _ _ T0_20.out.ents T1_20.out.rows HM20.out).mono ?_); rintro e w21 ⟨v21, xs21, rfl, hown21, hb21⟩; have H21 := Lib.hid (hown21); clear hown21; have HB21 := Lib.hid (HB20.out.trans (hb21.mono HB20.out.size)); have HM21 := Lib.hid (max_keepT HM20.out hb21); have HZ21 := Lib.hid (hb21).size; have d21 := keepcT hb21 d20; have W21 := Lib.hid (W20.out.keep hb21); have MG21 := Lib.hid (MG20.out.keep hb21); clear hx hb21 d20 W20 MG20 T0_20 T1_20 HB20 HM20)
    | (go_at_call 42; have hx := HB19; (with_reducible refine (HT1.out _ (HR1.out.keep HB19.out)).mono ?_); rintro e w20 ⟨v20, rfl, hown20, hb20⟩; obtain ⟨g20, q20, rfl⟩ := row_formD hown20; have T1_20 := Lib.hid (OwnRow.of hown20); clear hown20; have HB20 := Lib.hid (HB19.out.trans (hb20.mono HB19.out.size)); have HM20 := Lib.hid (max_keepT HM19.out hb20); have HZ20 := Lib.hid (hb20).size; have d20 := keepcT hb20 d19; have W20 := Lib.hid (W19.out.keep hb20); have MG20 := Lib.hid (MG19.out.keep hb20); have T0_20 := Lib.hid (T0_19.out.keep hb20); clear hx hb20 d19 W19 MG19 T0_19 HB19 HM19)
    | (go_at_call 30; have hx := HB18; (with_reducible refine (HT0.out _ (HR0.out.keep HB18.out)).mono ?_); rintro e w19 ⟨v19, rfl, hown19, hb19⟩; have T0_19 := Lib.hid hown19; obtain ⟨g19, q19, rfl, _, _⟩ := ent_form hown19.ents; clear hown19; have HB19 := Lib.hid (HB18.out.trans (hb19.mono HB18.out.size)); have HM19 := Lib.hid (max_keepT HM18.out hb19); have HZ19 := Lib.hid (hb19).size; have d19 := keepcT hb19 d18; have W19 := Lib.hid (W18.out.keep hb19); have MG19 := Lib.hid (MG18.out.keep hb19); clear hx hb19 d18 W18 MG18 HB18 HM18)
    | (go_at_call 50; have hx := HB17; (refine (heldIntSS_any _ L 1 _ MG17.out.nests hL hS.out (by omega) (by omega)).mono ?_); rintro e w18 ⟨rfl, hb18⟩; have HB18 := Lib.hid (HB17.out.trans (hb18.mono HB17.out.size)); have HM18 := Lib.hid (max_keepT HM17.out hb18); have HZ18 := Lib.hid (hb18).size; have d18 := keepcT hb18 d17; have W18 := Lib.hid (W17.out.keep hb18); have MG18 := Lib.hid (MG17.out.keep hb18); clear hx hb18 d17 W17 MG17 HB17 HM17)
    | (go_at_call 49; have hx := HB16; (refine (markIntSS_any _ L _ _ _ 1 _ G16.out hL hS.out (by omega) (by omega)).mono ?_); rintro e w17 ⟨rfl, hwn, hw⟩; have MG17 := Lib.hid hwn; clear hwn; have HZ17 := Lib.hid hw.size; have z2 := HZ2.out; have z3 := HZ3.out; have z4 := HZ4.out; have z5 := HZ5.out; have z6 := HZ6.out; have z6b := HZ6b.out; have z7 := HZ7.out; have z8 := HZ8.out; have z9 := HZ9.out; have z10 := HZ10.out; have z11 := HZ11.out; have z12 := HZ12.out; have z13 := HZ13.out; have z14 := HZ14.out; have z15 := HZ15.out; have z16 := HZ16.out; have zm := HMb.out; have zk := HB16.out.size; have HB17 := Lib.hid (HB16.out.trans (hw.below (by omega) (by omega))); have HM17 := Lib.hid (max_wid HM16.out hw (by omega)); have d17 := hw.cell d16 (by omega); have W17 := Lib.hid (W16.out.wid hw (by omega)); clear hx hw zk zm z2 z3 z4 z5 z6 z6b z7 z8 z9 z10 z11 z12 z13 z14 z15 z16 d16 W16 G16 HB16 HM16)
    | (go_at_call 47; have hx := HB15; (with_reducible refine (eqIntSS_same _ _ L _ G15.out.nests W15.out.nests hL hS.out).mono ?_); rintro e w16 ⟨rfl, hb16⟩; have HB16 := Lib.hid (HB15.out.trans (hb16.mono HB15.out.size)); have HM16 := Lib.hid (max_keepT HM15.out hb16); have HZ16 := Lib.hid (hb16).size; have d16 := keepcT hb16 d15; have W16 := Lib.hid (W15.out.keep hb16); have G16 := Lib.hid (G15.out.keep hb16); clear hx hb16 d15 W15 G15 HB15 HM15)
    | (go_at_call 48; have hx := HB14; (refine (markFoldS_w _ _ _ _ _ _ _ X1_14.out HF1.out.1 (by omega) (by omega)).mono ?_); rintro e w15 ⟨⟨m1, rfl, u2, u3⟩, hw⟩; skip; have HZ15 := Lib.hid hw.size; have z2 := HZ2.out; have z3 := HZ3.out; have z4 := HZ4.out; have z5 := HZ5.out; have z6 := HZ6.out; have z6b := HZ6b.out; have z7 := HZ7.out; have z8 := HZ8.out; have z9 := HZ9.out; have z10 := HZ10.out; have z11 := HZ11.out; have z12 := HZ12.out; have z13 := HZ13.out; have z14 := HZ14.out; have zm := HMb.out; have zk := HB14.out.size; have HB15 := Lib.hid (HB14.out.trans (hw.below (by omega) (by omega))); have HM15 := Lib.hid (max_wid HM14.out hw (by omega)); have d15 := hw.cell d14 (by omega); have W15 := Lib.hid (W14.out.wid hw (by omega)); have G15 := Lib.hid (G14.out.wid hw (by omega)); clear hx hw zk zm z2 z3 z4 z5 z6 z6b z7 z8 z9 z10 z11 z12 z13 z14 d14 W14 X1_14 G14 HB14 HM14)
    | (go_at_call 34; have hx := HB13; (with_reducible refine (markDictionary_any _ l0 _ _ _ _ X0_13.out HF0.out (by omega) (by omega)).mono ?_); rintro e w14 ⟨⟨m0, rfl, u0, u1⟩, hw⟩; skip; have HZ14 := Lib.hid hw.size; have z2 := HZ2.out; have z3 := HZ3.out; have z4 := HZ4.out; have z5 := HZ5.out; have z6 := HZ6.out; have z6b := HZ6b.out; have z7 := HZ7.out; have z8 := HZ8.out; have z9 := HZ9.out; have z10 := HZ10.out; have z11 := HZ11.out; have z12 := HZ12.out; have z13 := HZ13.out; have zm := HMb.out; have zk := HB13.out.size; have HB14 := Lib.hid (HB13.out.trans (hw.below (by omega) (by omega))); have HM14 := Lib.hid (max_wid HM13.out hw (by omega)); have d14 := hw.cell d13 (by omega); have W14 := Lib.hid (W13.out.wid hw (by omega)); have X1_14 := Lib.hid (X1_13.out.wid hw (by omega)); have G14 := Lib.hid (G13.out.wid hw (by omega)); clear hx hw zk zm z2 z3 z4 z5 z6 z6b z7 z8 z9 z10 z11 z12 z13 d13 c13 W13 X0_13 X1_13 G13 HB13 HM13)
    | (go_at_call 44; have hx := HB12; (with_reducible refine (eqFoldS_same _ _ l1 _ X1_12.out.rows Y1_12.out.rows hq1).mono ?_); rintro e w13 ⟨rfl, hb13⟩; have HB13 := Lib.hid (HB12.out.trans (hb13.mono HB12.out.size)); have HM13 := Lib.hid (max_keepT HM12.out hb13); have HZ13 := Lib.hid (hb13).size; have d13 := keepcT hb13 d12; have c13 := keepcT hb13 c12; have W13 := Lib.hid (W12.out.keep hb13); have X0_13 := Lib.hid (X0_12.out.keep hb13); have X1_13 := Lib.hid (X1_12.out.keep hb13); have G13 := Lib.hid (G12.out.keep hb13); clear hx hb13 d12 c12 W12 X0_12 X1_12 G12 Y1_12 HB12 HM12)
    | (go_at_call 42; have hx := HB11; (with_reducible refine (HT1.out _ (HR1.out.keep HB11.out)).mono ?_); rintro e w12 ⟨v12, rfl, hown12, hb12⟩; obtain ⟨g12, q12, rfl⟩ := row_formD hown12; have Y1_12 := Lib.hid (OwnRow.of hown12); clear hown12; have HB12 := Lib.hid (HB11.out.trans (hb12.mono HB11.out.size)); have HM12 := Lib.hid (max_keepT HM11.out hb12); have HZ12 := Lib.hid (hb12).size; have d12 := keepcT hb12 d11; have c12 := keepcT hb12 c11; have W12 := Lib.hid (W11.out.keep hb12); have X0_12 := Lib.hid (X0_11.out.keep hb12); have X1_12 := Lib.hid (X1_11.out.keep hb12); have G12 := Lib.hid (G11.out.keep hb12); clear hx hb12 d11 c11 W11 X0_11 X1_11 G11 HB11 HM11))
  go_ret
  exact ⟨rfl, HB23.out⟩

namespace fnExactFoldOverrides
open Go.ChangeShapes Go.WideShapes Go.ChangeAt Go.RowKit
open Go.ChangeMaps (open_string shut_string)
set_option linter.unusedVariables false
theorem own : ownKnob Tryz.prog.godebug = none := by kernel_rfl
theorem laidOut : laidOutB Tryz.prog = true := by kernel_rfl
set_option maxRecDepth 100000 in
theorem lifted (os : Os) (started : os.Started) (H : Type) (enc : TypeId × Value → H) :
    ReturnsInHanded {} Tryz.checked os 8 .any (fun w args => (Rows.fnExactFoldOverridesSpec.pre enc Tryz.prog Tryz.f8 Rows.fnExactFoldOverridesRow.domain false w args ∧ laidMetH Tryz.prog Rows.fnExactFoldOverridesRow.laid w) ∧ sizedMet enc Tryz.prog Tryz.f8 (OpenSpec.ofChange Rows.fnExactFoldOverridesSpec) false w args)
      (Rows.fnExactFoldOverridesSpec.post enc Tryz.prog Tryz.f8 false true false false) := by
  refine returnsInHanded_and_shaped (C := Tryz.checked) (X := fun w _ => laidMetH Tryz.prog Rows.fnExactFoldOverridesRow.laid w) (fun _ _ _ hh h => h.of_heap hh) own started (by kernel_rfl) Tryz.func8
    (ChangeSpec.witness_shaped (enc := enc) (C := Tryz.checked) (os := os) (X := fun w _ => laidMetH Tryz.prog Rows.fnExactFoldOverridesRow.laid w) false (World.laidAll Tryz.prog os Rows.fnExactFoldOverridesRow.laid) #[.agg #[.slice none 0 0], .slice none 0 0] 8 (World.laidAll_os _ _ _)
      (World.shaped_of_ZipB (by kernel_rfl) (by kernel_rfl)) (by kernel_rfl) (by kernel_rfl) (by kernel_rfl)
      (by rw [MakeChecks.laidMetH_plain _ _ _ (by kernel_rfl)]; exact laidMet_laidAll _ (by kernel_rfl) (by kernel_rfl))) ?_
  intro W base args ds gs before hval0 hW hcnd _ hL hsh _
  have hM := Go.Proofs.cell_of_shapedOpen_int (g := 0) (zero := #[.int .i64 0]) (t := 3) hsh (of_decide_eq_true (by kernel_rfl)) (by kernel_rfl) rfl (by kernel_rfl) (by kernel_rfl) Tryz.underlying3
  have hval : ∀ (j : Nat) t v, Tryz.f8.params[j]? = some t → args[j]? = some v → Value.okWide Tryz.prog W .any base t v := hval0
  have hW' := hW
  obtain ⟨p, q, hA0, hV, rfl, hfz, hnd⟩ := hW
  have hA : DataW.TrodAll enc Tryz.prog W 0 (fun _ => true) true Tryz.f8.params.toList args.toList ds p := hA0
  rw [Tryz.params8] at hA hval
  obtain ⟨v0, vs0, d0, ds0, p0, q0, hargs, rfl, rfl, h0, r0⟩ := trodAll_cons hA
  obtain ⟨v1, vs1, d1, ds1, p1, q1, rfl, rfl, rfl, h1, r1⟩ := trodAll_cons r0
  obtain ⟨rfl, rfl, rfl⟩ := trodAll_nil r1
  obtain rfl : args = #[v0, v1] := by cases args; simp_all
  obtain ⟨rfl, rfl⟩ := trodVars_none hV
  have k0 := h0
  have lt0 : ∀ x ∈ p0, x.block < W.heap.size := by obtain ⟨m, hm⟩ := k0; exact DataW.trod_lt m _ _ _ hm
  obtain ⟨a0, w0⟩ := (fun W v hv h => open_dictR (w := W) (v := v) Tryz.underlying55 (by kernel_rfl) (by kernel_rfl) rfl Tryz.underlying53 Tryz.underlying171 (by kernel_rfl) rfl rfl (by kernel_rfl) (by kernel_rfl) Tryz.underlying25 Tryz.underlying3 (by kernel_rfl) Tryz.underlying9 hv h) W v0 (hval 0 55 v0 rfl rfl) h0
  have k1 := h1
  have lt1 : ∀ x ∈ p1, x.block < W.heap.size := by obtain ⟨m, hm⟩ := k1; exact DataW.trod_lt m _ _ _ hm
  obtain ⟨a1, w1⟩ := (fun W v hv h => open_foldsR (w := W) (v := v) Tryz.underlying67 Tryz.underlying133 (by kernel_rfl) rfl rfl (by kernel_rfl) (by kernel_rfl) Tryz.underlying3 Tryz.underlying9 hv h) W v1 (hval 1 67 v1 rfl rfl) h1
  clear hA0 hval0
  refine (FnExactFoldOverrides_walk v0 a0 v1 a1 W hM w0 w1).mono fun e W' ⟨he, bel⟩ => ?_
  subst he
  exact ⟨_, rfl, _, _, _, [], _, [], hW', trodAll_mk1 (shut_bool Tryz.underlying4 _), (trodAll_cons_mk (Below.trod laidOut (by kernel_rfl) (of_decide_eq_true (by kernel_rfl)) k0 bel lt0) (trodAll_cons_mk (Below.trod laidOut (by kernel_rfl) (of_decide_eq_true (by kernel_rfl)) k1 bel lt1) trodAll_mk0)), rfl, bel.frame _, fun h => by cases h⟩
theorem over : Rows.FnExactFoldOverridesSaid :=
  OpenClaim.holds_of_wide 8 Tryz.f8 rfl rfl rfl rfl rfl rfl rfl ⟨rfl, rfl, rfl, rfl, rfl⟩ rfl rfl rfl rfl rfl (by kernel_rfl) Tryz.func8 fctFnExactFoldOverrides
    (of_decide_eq_true (by kernel_rfl)) (by unfold Func.isWrapper; first | (rw [if_pos (by decide +kernel)]; kernel_rfl) | (rw [if_neg (by decide +kernel)]; exact ⟨rfl, rfl⟩))
    (fun os started H enc _ => lifted os started H enc)
end fnExactFoldOverrides

end Go.Proofs.YtkbbcmbeafjpaaaGreatDoor
