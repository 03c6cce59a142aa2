/-
  THE CLAIM: the law FnExactSegment returns true for every input, and its arguments read afterwards as before. Conditions: the given row's own (the listed tables of the library read as the program's text lays them; the card ties them).
-/
import Derived.Test.YtkbbcmbeafjpaaaGreatDoorSegB
import Derived.Test.YtkbbcmbeafjpaaaGreatDoorBasB
import Derived.Test.YtkbbcmbeafjpaaaGreatDoorMarkD
import Derived.Test.YtkbbcmbeafjpaaaGreatDoorFctFnExactSegment
import Derived.Test.YtkbbcmbeafjpaaaGreatDoorBasA
import Derived.Test.YtkbbcmbeafjpaaaGreatDoorTie
import Derived.Test.YtkbbcmbeafjpaaaGreatDoorCards
import Derived.ProofKit
import Derived.OpenShut
import Derived.ShutString
import Derived.ChangeOld
import Derived.Below
import Derived.WalkSmall
namespace Go.Proofs.YtkbbcmbeafjpaaaGreatDoor
open Go.RowKit

set_option maxRecDepth 20000 in
set_option maxHeartbeats 6400000 in
theorem FnExactSegment_walk (v0 : Value) (l0 : List Ent) (v1 : Value) (l1 : List Int) (W : World) (hm : ∃ m, W.cell? ⟨0, 0, none⟩ = some (.int .i64 m)) (h0 : ∃ u, v0 = .agg #[u] ∧ Ents W u l0 ∧ (∀ q ∈ l0, (∀ n ∈ q.1, (Lit.int .i64 n).wf = true) ∧ q.2.size ≤ maxLen)) (h1 : Rows W v1 l1.length 1 (ints l1) ∧ (∀ n ∈ l1, (Lit.int .i64 n).wf = true)) :
    Calls Tryz.prog 5 #[v0, v1] W fun e W' => e = .returned (.bool true) ∧ Below W.heap.size W W' := by
  obtain ⟨v0, rfl, hr0, hz0⟩ := h0
  have HR0 := Lib.hid hr0
  have HR1 := Lib.hid h1.1
  have HB0 := Lib.hid (Joins.below_alloc1 W (.cells #[v0] 55))
  have hmb := Lib.hid (max_block hm)
  have HM0 := Lib.hid (max_keepT hm HB0.out)
  obtain ⟨a0, k0, rfl, _, _⟩ := ent_form hr0
  obtain ⟨a1, k1, rfl, _, _⟩ := rows_form h1.1
  have d0 := Lib.hid (show (W.alloc (.cells #[.slice a0 l0.length k0] 55)).cell? ⟨W.heap.size, 0, none⟩ = some (.slice a0 l0.length k0) by simp [go_sem])
  have HS0 := Lib.hid (fun W h1 => szDictionary_any (.slice a0 l0.length k0) l0 1048576 W h1 hz0 (by omega) (by omega))
  unfold SzLeft at HS0
  clear hr0 hz0 hm h1
  by_cases hol1 : 1048576 < l1.length
  · go_enter Tryz.func5, Tryz.ntmps5
    go_wp2
    go_ret
    exact ⟨rfl, HB0.out⟩
  have hq1 : l1.length ≤ 1048576 := by omega
  have HE0 := Lib.hid (HR0.out.keep HB0.out)
  go_enter Tryz.func5, Tryz.ntmps5
  go_upto_region 5 with (go_at_call 28; (with_reducible refine (HS0.out _ HE0.out).mono ?_); rintro e w1 ⟨⟨r0, rfl, p1, p2, p3⟩, hb1⟩; have HB1 := Lib.hid (HB0.out.trans (hb1.mono HB0.out.size)); have hz1 := Lib.hid hb1.size; have d1 := keepcT hb1 d0.out; have HM1 := Lib.hid (max_keepT HM0.out hb1); clear hb1)
  by_cases hneg0 : r0 < 0
  · go_wp2
    go_ret
    exact ⟨rfl, HB1.out⟩
  have HF0 := Lib.hid (p3 (by omega))
  have hr0_0 : 0 ≤ r0 := by omega
  have hr0_1 : r0 ≤ 1048576 := by omega
  clear p1 p2 p3 HS0 HE0 d0 HM0
  have HT0 := Lib.hid (fun W h => toDictionary_any (.slice a0 l0.length k0) l0 W h HF0.out)
  have HT1 := Lib.hid (fun W h => toIntS_any (.slice a1 l1.length k1) l1 W h hq1)
  unfold RetDict at HT0
  unfold RetRow at HT1
  have HSL := Lib.hid (fun V Y W h1 h2 => specSegment_any V Y l0 l1 W h1 HF0.out.1 HF0.out.2 h2 hq1)
  have HIL := Lib.hid (fun V Y W h1 h2 h3 => Segment_any V Y l0 l1 W h1 HF0.out.1 HF0.out.2 h2 hq1 h3)
  unfold RetPcs at HSL HIL
  have hL : (segOut l0 l1).length ≤ 1048576 := Nat.le_trans (segOut_len l0 l1) hq1
  generalize segOut l0 l1 = L at HSL HIL hL
  generalize matOk l0 l1 = y at HSL HIL
  clear hneg0
  have HZ1 := Lib.hid (show W.heap.size + 1 ≤ w1.heap.size from Nat.le_trans (Nat.le_of_eq (World.size_alloc _ _).symm) hz1.out)
  have HMb := Lib.hid (show 0 < W.heap.size from hmb.out)
  go_upto_region 13 with (first
    | (go_at_call 32; have hx := HB7; (with_reducible refine (eqPieceS_same _ _ L _ G7.out.rows W7.out.rows hL).mono ?_); rintro e w8 ⟨rfl, hb8⟩; have HB8 := Lib.hid (HB7.out.trans (hb8.mono HB7.out.size)); have HM8 := Lib.hid (max_keepT HM7.out hb8); have HZ8 := Lib.hid (hb8).size; have d8 := keepcT hb8 d7; have c8 := keepcT hb8 c7; have W8 := Lib.hid (W7.out.keep hb8); have X0_8 := Lib.hid (X0_7.out.keep hb8); have X1_8 := Lib.hid (X1_7.out.keep hb8); have G8 := Lib.hid (G7.out.keep hb8); clear hx hb8 d7 c7 W7 X0_7 X1_7 G7 HB7 HM7)
    | (go_at_call 31; have hx := HB6; (with_reducible refine (HIL.out _ _ _ X0_6.out.ents X1_6.out.rows HM6.out).mono ?_); rintro e w7 ⟨v7, rfl, hown7, hb7⟩; have G7 := Lib.hid (OwnRow.of hown7); clear hown7; have HB7 := Lib.hid (HB6.out.trans (hb7.mono HB6.out.size)); have HM7 := Lib.hid (max_keepT HM6.out hb7); have HZ7 := Lib.hid (hb7).size; have d7 := keepcT hb7 d6; have c7 := keepcT hb7 c6; have W7 := Lib.hid (W6.out.keep hb7); have X0_7 := Lib.hid (X0_6.out.keep hb7); have X1_7 := Lib.hid (X1_6.out.keep hb7); clear hx hb7 d6 c6 W6 X0_6 X1_6 HB6 HM6)
    | (go_at_call 16; have hx := HB5; (with_reducible refine (HT1.out _ (HR1.out.keep HB5.out)).mono ?_); rintro e w6 ⟨v6, rfl, hown6, hb6⟩; obtain ⟨g6, q6, rfl⟩ := row_formD hown6; have X1_6 := Lib.hid (OwnRow.of hown6); clear hown6; have HB6 := Lib.hid (HB5.out.trans (hb6.mono HB5.out.size)); have HM6 := Lib.hid (max_keepT HM5.out hb6); have HZ6 := Lib.hid (hb6).size; have d6 := keepcT hb6 d5; have c6 := keepcT hb6 c5; have W6 := Lib.hid (W5.out.keep hb6); have X0_6 := Lib.hid (X0_5.out.keep hb6); clear hx hb6 d5 c5 W5 X0_5 HB5 HM5)
    | (go_at_call 30; have hx := HB4; (with_reducible refine (HT0.out _ (HR0.out.keep HB4.out)).mono ?_); rintro e w5 ⟨v5, rfl, hown5, hb5⟩; have HBq := HB4.out.trans (hb5.mono HB4.out.size); obtain ⟨g5, q5, rfl, _, _⟩ := ent_form hown5.ents; have dq := keepcT hb5 d4; have HMq := max_keepT HM4.out hb5; have HBb := Joins.below_alloc1 w5 (.cells #[.slice g5 l0.length q5] 41); have HZ5 := Lib.hid hb5.size; have HZ5b := Lib.hid (World.size_alloc w5 (.cells #[.slice g5 l0.length q5] 41)); have HB5 := Lib.hid (below_on3 HBq HBb); have d5 := keepcT HBb dq; have X0_5 := Lib.hid (hown5.keep HBb); have HM5 := Lib.hid (max_keepT HMq HBb); have W5 := Lib.hid ((W4.out.keep hb5).keep HBb); have c5 : (w5.alloc (.cells #[.slice g5 l0.length q5] 41)).cell? ⟨w5.heap.size, 0, none⟩ = some (.slice g5 l0.length q5) := (by simp [go_sem]); clear hx hown5 hb5 HBb HMq HBq dq HB4 HM4 d4 W4)
    | (go_at_call 29; have hx := HB3; (with_reducible refine (HSL.out _ _ _ S0_3.out.ents S1_3.out.rows).mono ?_); rintro e w4 ⟨v4, rfl, hown4, hb4⟩; have W4 := Lib.hid (OwnRow.of hown4); clear hown4; have HB4 := Lib.hid (HB3.out.trans (hb4.mono HB3.out.size)); have HM4 := Lib.hid (max_keepT HM3.out hb4); have HZ4 := Lib.hid (hb4).size; have d4 := keepcT hb4 d3; clear hx hb4 d3 S0_3 S1_3 HB3 HM3)
    | (go_at_call 16; have hx := HB2; (with_reducible refine (HT1.out _ (HR1.out.keep HB2.out)).mono ?_); rintro e w3 ⟨v3, rfl, hown3, hb3⟩; obtain ⟨g3, q3, rfl⟩ := row_formD hown3; have S1_3 := Lib.hid (OwnRow.of hown3); clear hown3; have HB3 := Lib.hid (HB2.out.trans (hb3.mono HB2.out.size)); have HM3 := Lib.hid (max_keepT HM2.out hb3); have HZ3 := Lib.hid (hb3).size; have d3 := keepcT hb3 d2; have S0_3 := Lib.hid (S0_2.out.keep hb3); clear hx hb3 d2 S0_2 HB2 HM2)
    | (go_at_call 30; have hx := HB1; (with_reducible refine (HT0.out _ (HR0.out.keep HB1.out)).mono ?_); rintro e w2 ⟨v2, rfl, hown2, hb2⟩; have S0_2 := Lib.hid hown2; obtain ⟨g2, q2, rfl, _, _⟩ := ent_form hown2.ents; clear hown2; have HB2 := Lib.hid (HB1.out.trans (hb2.mono HB1.out.size)); have HM2 := Lib.hid (max_keepT HM1.out hb2); have HZ2 := Lib.hid (hb2).size; have d2 := keepcT hb2 d1; clear hx hb2 d1 HB1 HM1))
  have HQ0 := Lib.hid (fun V V' W h1 h2 => eqDictionary_same V V' l0 W h1 h2 HF0.out)
  have Z0 := Lib.hid (show Ents w8.drew (.slice a0 l0.length k0) l0 from Ents.drew (HR0.out.keep HB8.out) 1)
  go_region_held3 (fun w' => w'.cell? ⟨w5.heap.size, 0, none⟩ = some (.slice g5 l0.length q5) ∧ w'.cell? ⟨W.heap.size, 0, none⟩ = some (.slice a0 l0.length k0)) (first | exact ⟨c10, d10⟩ | exact ⟨c9, d9⟩ | exact ⟨c8, d8⟩) (first
    | (go_at_call 30; (with_reducible refine (HT0.out _ Z0.out).mono ?_); rintro e w9 ⟨v9, rfl, hown9, hb9⟩; have Y0_9 := Lib.hid hown9.ents; obtain ⟨g9, q9, rfl, _, _⟩ := ent_form Y0_9.out; have HB9 := Lib.hid ((below_drew1 HB8.out).trans (hb9.mono HB8.out.size)); have HM9 := Lib.hid (max_keepT (w := w8.drew) HM8.out hb9); have HZ9 := Lib.hid (show w8.heap.size ≤ w9.heap.size from hb9.size); have W9 := Lib.hid (W8.out.drew.keep hb9); have X0_9 := Lib.hid (X0_8.out.drew.keep hb9); have X1_9 := Lib.hid (X1_8.out.drew.keep hb9); have G9 := Lib.hid (G8.out.drew.keep hb9); have d9 := keepcT hb9 d8; have c9 := keepcT hb9 c8; clear hown9 hb9)
    | (go_at_call 33; (with_reducible refine (HQ0.out _ _ _ X0_9.out.ents Y0_9.out).mono ?_); rintro e w10 ⟨rfl, hb10⟩; have HB10 := Lib.hid (HB9.out.trans (hb10.mono HB9.out.size)); have HM10 := Lib.hid (max_keepT HM9.out hb10); have HZ10 := Lib.hid hb10.size; have W10 := Lib.hid (W9.out.keep hb10); have X0_10 := Lib.hid (X0_9.out.keep hb10); have X1_10 := Lib.hid (X1_9.out.keep hb10); have G10 := Lib.hid (G9.out.keep hb10); have d10 := keepcT hb10 d9; have c10 := keepcT hb10 c9; clear hb10))
  clear HB8 HM8 d8 c8 HB9 HM9 d9 c9 Z0 Y0_9 W8 W9 X0_8 X0_9 X1_8 X1_9 G8 G9
  go_wp2_with (first
    | (go_at_call 37; have hx := HB21; (refine (heldPieceS_any _ _ 1 _ MG21.out.rows hL (by omega) (by omega)).mono ?_); rintro e w22 ⟨rfl, hb22⟩; have HB22 := Lib.hid (HB21.out.trans (hb22.mono HB21.out.size)); have HM22 := Lib.hid (max_keepT HM21.out hb22); have HZ22 := Lib.hid (hb22).size; have d22 := keepcT hb22 d21; clear hx hb22 d21 MG21 HB21 HM21)
    | (go_at_call 32; have hx := HB20; (with_reducible refine (eqPieceS_same _ _ L _ H20.out.rows W20.out.rows hL).mono ?_); rintro e w21 ⟨rfl, hb21⟩; have HB21 := Lib.hid (HB20.out.trans (hb21.mono HB20.out.size)); have HM21 := Lib.hid (max_keepT HM20.out hb21); have HZ21 := Lib.hid (hb21).size; have d21 := keepcT hb21 d20; have MG21 := Lib.hid (MG20.out.keep hb21); clear hx hb21 d20 W20 MG20 H20 HB20 HM20)
    | (go_at_call 31; have hx := HB19; (with_reducible refine (HIL.out _ _ _ T0_19.out.ents T1_19.out.rows HM19.out).mono ?_); rintro e w20 ⟨v20, rfl, hown20, hb20⟩; have H20 := Lib.hid (OwnRow.of hown20); clear hown20; have HB20 := Lib.hid (HB19.out.trans (hb20.mono HB19.out.size)); have HM20 := Lib.hid (max_keepT HM19.out hb20); have HZ20 := Lib.hid (hb20).size; have d20 := keepcT hb20 d19; have W20 := Lib.hid (W19.out.keep hb20); have MG20 := Lib.hid (MG19.out.keep hb20); clear hx hb20 d19 W19 MG19 T0_19 T1_19 HB19 HM19)
    | (go_at_call 16; have hx := HB18; (with_reducible refine (HT1.out _ (HR1.out.keep HB18.out)).mono ?_); rintro e w19 ⟨v19, rfl, hown19, hb19⟩; obtain ⟨g19, q19, rfl⟩ := row_formD hown19; have T1_19 := Lib.hid (OwnRow.of hown19); clear hown19; have HB19 := Lib.hid (HB18.out.trans (hb19.mono HB18.out.size)); have HM19 := Lib.hid (max_keepT HM18.out hb19); have HZ19 := Lib.hid (hb19).size; have d19 := keepcT hb19 d18; have W19 := Lib.hid (W18.out.keep hb19); have MG19 := Lib.hid (MG18.out.keep hb19); have T0_19 := Lib.hid (T0_18.out.keep hb19); clear hx hb19 d18 W18 MG18 T0_18 HB18 HM18)
    | (go_at_call 30; have hx := HB17; (with_reducible refine (HT0.out _ (HR0.out.keep HB17.out)).mono ?_); rintro e w18 ⟨v18, rfl, hown18, hb18⟩; have T0_18 := Lib.hid hown18; obtain ⟨g18, q18, rfl, _, _⟩ := ent_form hown18.ents; clear hown18; have HB18 := Lib.hid (HB17.out.trans (hb18.mono HB17.out.size)); have HM18 := Lib.hid (max_keepT HM17.out hb18); have HZ18 := Lib.hid (hb18).size; have d18 := keepcT hb18 d17; have W18 := Lib.hid (W17.out.keep hb18); have MG18 := Lib.hid (MG17.out.keep hb18); clear hx hb18 d17 W17 MG17 HB17 HM17)
    | (go_at_call 37; have hx := HB16; (refine (heldPieceS_any _ _ 1 _ MG16.out.rows hL (by omega) (by omega)).mono ?_); rintro e w17 ⟨rfl, hb17⟩; have HB17 := Lib.hid (HB16.out.trans (hb17.mono HB16.out.size)); have HM17 := Lib.hid (max_keepT HM16.out hb17); have HZ17 := Lib.hid (hb17).size; have d17 := keepcT hb17 d16; have W17 := Lib.hid (W16.out.keep hb17); have MG17 := Lib.hid (MG16.out.keep hb17); clear hx hb17 d16 W16 MG16 HB16 HM16)
    | (go_at_call 36; have hx := HB15; (refine (markPieceS_any _ _ _ _ 1 _ G15.out.1 hL (by omega) (by omega)).mono ?_); rintro e w16 ⟨rfl, hwr⟩; have MG16 := Lib.hid (G15.out.wrote hwr).1; have hw := (G15.out.wrote hwr).2; clear hwr; have HZ16 := Lib.hid hw.size; have z1 := HZ1.out; have z2 := HZ2.out; have z3 := HZ3.out; have z4 := HZ4.out; have z5 := HZ5.out; have z5b := HZ5b.out; have z6 := HZ6.out; have z7 := HZ7.out; have z8 := HZ8.out; have z9 := HZ9.out; have z10 := HZ10.out; have z11 := HZ11.out; have z12 := HZ12.out; have z13 := HZ13.out; have z14 := HZ14.out; have z15 := HZ15.out; have zm := HMb.out; have zk := HB15.out.size; have HB16 := Lib.hid (HB15.out.trans (hw.below (by omega) (by omega))); have HM16 := Lib.hid (max_wid HM15.out hw (by omega)); have d16 := hw.cell d15 (by omega); have W16 := Lib.hid (W15.out.wid hw (by omega)); clear hx hw zk zm z1 z2 z3 z4 z5 z5b z6 z7 z8 z9 z10 z11 z12 z13 z14 z15 d15 W15 G15 HB15 HM15)
    | (go_at_call 32; have hx := HB14; (with_reducible refine (eqPieceS_same _ _ L _ G14.out.rows W14.out.rows hL).mono ?_); rintro e w15 ⟨rfl, hb15⟩; have HB15 := Lib.hid (HB14.out.trans (hb15.mono HB14.out.size)); have HM15 := Lib.hid (max_keepT HM14.out hb15); have HZ15 := Lib.hid (hb15).size; have d15 := keepcT hb15 d14; have W15 := Lib.hid (W14.out.keep hb15); have G15 := Lib.hid (G14.out.keep hb15); clear hx hb15 d14 W14 G14 HB14 HM14)
    | (go_at_call 35; have hx := HB13; (refine (markIntS_any _ _ _ _ _ _ X1_13.out.1 hq1 (by omega) (by omega)).mono ?_); rintro e w14 ⟨rfl, hwr⟩; have hw := (X1_13.out.wrote hwr).2; clear hwr; have HZ14 := Lib.hid hw.size; have z1 := HZ1.out; have z2 := HZ2.out; have z3 := HZ3.out; have z4 := HZ4.out; have z5 := HZ5.out; have z5b := HZ5b.out; have z6 := HZ6.out; have z7 := HZ7.out; have z8 := HZ8.out; have z9 := HZ9.out; have z10 := HZ10.out; have z11 := HZ11.out; have z12 := HZ12.out; have z13 := HZ13.out; have zm := HMb.out; have zk := HB13.out.size; have HB14 := Lib.hid (HB13.out.trans (hw.below (by omega) (by omega))); have HM14 := Lib.hid (max_wid HM13.out hw (by omega)); have d14 := hw.cell d13 (by omega); have W14 := Lib.hid (W13.out.wid hw (by omega)); have G14 := Lib.hid (G13.out.wid hw (by omega)); clear hx hw zk zm z1 z2 z3 z4 z5 z5b z6 z7 z8 z9 z10 z11 z12 z13 d13 W13 X1_13 G13 HB13 HM13)
    | (go_at_call 34; have hx := HB12; (with_reducible refine (markDictionary_any _ l0 _ _ _ _ X0_12.out HF0.out (by omega) (by omega)).mono ?_); rintro e w13 ⟨⟨m0, rfl, u0, u1⟩, hw⟩; skip; have HZ13 := Lib.hid hw.size; have z1 := HZ1.out; have z2 := HZ2.out; have z3 := HZ3.out; have z4 := HZ4.out; have z5 := HZ5.out; have z5b := HZ5b.out; have z6 := HZ6.out; have z7 := HZ7.out; have z8 := HZ8.out; have z9 := HZ9.out; have z10 := HZ10.out; have z11 := HZ11.out; have z12 := HZ12.out; have zm := HMb.out; have zk := HB12.out.size; have HB13 := Lib.hid (HB12.out.trans (hw.below (by omega) (by omega))); have HM13 := Lib.hid (max_wid HM12.out hw (by omega)); have d13 := hw.cell d12 (by omega); have W13 := Lib.hid (W12.out.wid hw (by omega)); have X1_13 := Lib.hid (X1_12.out.wid hw (by omega)); have G13 := Lib.hid (G12.out.wid hw (by omega)); clear hx hw zk zm z1 z2 z3 z4 z5 z5b z6 z7 z8 z9 z10 z11 z12 d12 c12 W12 X0_12 X1_12 G12 HB12 HM12)
    | (go_at_call 19; have hx := HB11; (with_reducible refine (eqIntS_same _ _ l1 _ X1_11.out.rows Y1_11.out.rows hq1).mono ?_); rintro e w12 ⟨rfl, hd12⟩; have hb12 := hd12.below; clear hd12; have HB12 := Lib.hid (HB11.out.trans (hb12.mono HB11.out.size)); have HM12 := Lib.hid (max_keepT HM11.out hb12); have HZ12 := Lib.hid (hb12).size; have d12 := keepcT hb12 d11; have c12 := keepcT hb12 c11; have W12 := Lib.hid (W11.out.keep hb12); have X0_12 := Lib.hid (X0_11.out.keep hb12); have X1_12 := Lib.hid (X1_11.out.keep hb12); have G12 := Lib.hid (G11.out.keep hb12); clear hx hb12 d11 c11 W11 X0_11 X1_11 G11 Y1_11 HB11 HM11)
    | (go_at_call 16; have hx := HB10; (with_reducible refine (HT1.out _ (HR1.out.keep HB10.out)).mono ?_); rintro e w11 ⟨v11, rfl, hown11, hb11⟩; obtain ⟨g11, q11, rfl⟩ := row_formD hown11; have Y1_11 := Lib.hid (OwnRow.of hown11); clear hown11; have HB11 := Lib.hid (HB10.out.trans (hb11.mono HB10.out.size)); have HM11 := Lib.hid (max_keepT HM10.out hb11); have HZ11 := Lib.hid (hb11).size; have d11 := keepcT hb11 d10; have c11 := keepcT hb11 c10; have W11 := Lib.hid (W10.out.keep hb11); have X0_11 := Lib.hid (X0_10.out.keep hb11); have X1_11 := Lib.hid (X1_10.out.keep hb11); have G11 := Lib.hid (G10.out.keep hb11); clear hx hb11 d10 c10 W10 X0_10 X1_10 G10 HB10 HM10))
  go_ret
  exact ⟨rfl, HB22.out⟩

namespace fnExactSegment
open Go.ChangeShapes Go.WideShapes Go.ChangeAt Go.RowKit
open Go.ChangeMaps (open_string shut_string)
set_option linter.unusedVariables false
theorem own : ownKnob Tryz.prog.godebug = none := by kernel_rfl
theorem laidOut : laidOutB Tryz.prog = true := by kernel_rfl
set_option maxRecDepth 100000 in
theorem lifted (os : Os) (started : os.Started) (H : Type) (enc : TypeId × Value → H) :
    ReturnsInHanded {} Tryz.checked os 5 .any (fun w args => (Rows.fnExactSegmentSpec.pre enc Tryz.prog Tryz.f5 Rows.fnExactSegmentRow.domain false w args ∧ laidMetH Tryz.prog Rows.fnExactSegmentRow.laid w) ∧ sizedMet enc Tryz.prog Tryz.f5 (OpenSpec.ofChange Rows.fnExactSegmentSpec) false w args)
      (Rows.fnExactSegmentSpec.post enc Tryz.prog Tryz.f5 false true false false) := by
  refine returnsInHanded_and_shaped (C := Tryz.checked) (X := fun w _ => laidMetH Tryz.prog Rows.fnExactSegmentRow.laid w) (fun _ _ _ hh h => h.of_heap hh) own started (by kernel_rfl) Tryz.func5
    (ChangeSpec.witness_shaped (enc := enc) (C := Tryz.checked) (os := os) (X := fun w _ => laidMetH Tryz.prog Rows.fnExactSegmentRow.laid w) false (World.laidAll Tryz.prog os Rows.fnExactSegmentRow.laid) #[.agg #[.slice none 0 0], .slice none 0 0] 8 (World.laidAll_os _ _ _)
      (World.shaped_of_ZipB (by kernel_rfl) (by kernel_rfl)) (by kernel_rfl) (by kernel_rfl) (by kernel_rfl)
      (by rw [MakeChecks.laidMetH_plain _ _ _ (by kernel_rfl)]; exact laidMet_laidAll _ (by kernel_rfl) (by kernel_rfl))) ?_
  intro W base args ds gs before hval0 hW hcnd _ hL hsh _
  have hM := Go.Proofs.cell_of_shapedOpen_int (g := 0) (zero := #[.int .i64 0]) (t := 3) hsh (of_decide_eq_true (by kernel_rfl)) (by kernel_rfl) rfl (by kernel_rfl) (by kernel_rfl) Tryz.underlying3
  have hval : ∀ (j : Nat) t v, Tryz.f5.params[j]? = some t → args[j]? = some v → Value.okWide Tryz.prog W .any base t v := hval0
  have hW' := hW
  obtain ⟨p, q, hA0, hV, rfl, hfz, hnd⟩ := hW
  have hA : DataW.TrodAll enc Tryz.prog W 0 (fun _ => true) true Tryz.f5.params.toList args.toList ds p := hA0
  rw [Tryz.params5] at hA hval
  obtain ⟨v0, vs0, d0, ds0, p0, q0, hargs, rfl, rfl, h0, r0⟩ := trodAll_cons hA
  obtain ⟨v1, vs1, d1, ds1, p1, q1, rfl, rfl, rfl, h1, r1⟩ := trodAll_cons r0
  obtain ⟨rfl, rfl, rfl⟩ := trodAll_nil r1
  obtain rfl : args = #[v0, v1] := by cases args; simp_all
  obtain ⟨rfl, rfl⟩ := trodVars_none hV
  have k0 := h0
  have lt0 : ∀ x ∈ p0, x.block < W.heap.size := by obtain ⟨m, hm⟩ := k0; exact DataW.trod_lt m _ _ _ hm
  obtain ⟨a0, w0⟩ := (fun W v hv h => open_dictR (w := W) (v := v) Tryz.underlying55 (by kernel_rfl) (by kernel_rfl) rfl Tryz.underlying53 Tryz.underlying171 (by kernel_rfl) rfl rfl (by kernel_rfl) (by kernel_rfl) Tryz.underlying25 Tryz.underlying3 (by kernel_rfl) Tryz.underlying9 hv h) W v0 (hval 0 55 v0 rfl rfl) h0
  have k1 := h1
  have lt1 : ∀ x ∈ p1, x.block < W.heap.size := by obtain ⟨m, hm⟩ := k1; exact DataW.trod_lt m _ _ _ hm
  obtain ⟨a1, w1⟩ := (fun W v hv h => open_intsR (w := W) (v := v) Tryz.underlying25 Tryz.underlying3 (by kernel_rfl) hv h) W v1 (hval 1 25 v1 rfl rfl) h1
  clear hA0 hval0
  refine (FnExactSegment_walk v0 a0 v1 a1 W hM w0 w1).mono fun e W' ⟨he, bel⟩ => ?_
  subst he
  exact ⟨_, rfl, _, _, _, [], _, [], hW', trodAll_mk1 (shut_bool Tryz.underlying4 _), (trodAll_cons_mk (Below.trod laidOut (by kernel_rfl) (of_decide_eq_true (by kernel_rfl)) k0 bel lt0) (trodAll_cons_mk (Below.trod laidOut (by kernel_rfl) (of_decide_eq_true (by kernel_rfl)) k1 bel lt1) trodAll_mk0)), rfl, bel.frame _, fun h => by cases h⟩
theorem over : Rows.FnExactSegmentSaid :=
  OpenClaim.holds_of_wide 5 Tryz.f5 rfl rfl rfl rfl rfl rfl rfl ⟨rfl, rfl, rfl, rfl, rfl⟩ rfl rfl rfl rfl rfl (by kernel_rfl) Tryz.func5 fctFnExactSegment
    (of_decide_eq_true (by kernel_rfl)) (by unfold Func.isWrapper; first | (rw [if_pos (by decide +kernel)]; kernel_rfl) | (rw [if_neg (by decide +kernel)]; exact ⟨rfl, rfl⟩))
    (fun os started H enc _ => lifted os started H enc)
end fnExactSegment

end Go.Proofs.YtkbbcmbeafjpaaaGreatDoor
