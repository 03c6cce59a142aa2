/-
  CONTRACT: IsSegmentation of the reference.
-/
import Derived.Test.YtkbbcmbeafjpaaaDoorSegI
namespace Go.Proofs.YtkbbcmbeafjpaaaDoor
open Go.RowKit

theorem and_empty {y : Bool} {pt tx : ByteArray} (h : pt.toList.isEmpty = true) (hp : y = true → 1 ≤ tx.size) : (y && (pt.toList == tx.toList)) = false := by
  cases y with
  | false => rfl
  | true =>
    have h1 := hp rfl
    rw [Bool.true_and, beq_eq_false_iff_ne]
    intro e
    rw [e] at h
    rw [Pl.some_list (show 0 < tx.size by omega)] at h
    exact absurd h (by decide)

set_option maxRecDepth 20000 in
set_option maxHeartbeats 3200000 in
theorem specIsSegmentation_any (v vo vp : Value) (l : List Ent) (o : List Int) (P : List Pc) (w : World) (hr : Ents w v l) (hl : l.length ≤ 1048576) (hs : ∀ p ∈ l, p.1.length ≤ 1048576 ∧ p.2.size ≤ 1048576) (ho : Rows w vo o.length 1 (ints o)) (hol : o.length ≤ 1048576) (hp : Rows w vp P.length 3 (pieces P)) (hpl : P.length ≤ 1048576) :
    Calls Tryd.prog 14 #[.agg #[v], vo, vp] w fun e w' => e = .returned (.tuple #[.bool (segRes l o P), .bool (matOk l o)]) ∧ Below w.heap.size w w' := by
  have HB0 := Lib.hid (Joins.below_alloc1 w (.cells #[v] 33))
  have HE := Lib.hid (hr.keep HB0.out)
  have HO := Lib.hid (ho.keep HB0.out)
  have HF := Lib.hid (fun p hp => (hs p hp).1)
  have HV := Lib.hid (l6Good_any v l _ HE.out hl hs)
  have HS := Lib.hid (fun W h => l11Strokes_any vo o W h hol)
  have E0 := Lib.hid (show matOk l o = (Pl.dictOk l && strokesOk o) from rfl)
  have E1 := Lib.hid (show segRes l o P = (matOk l o && segB l o 0 P) from rfl)
  obtain ⟨a, cap, rfl, _, _⟩ := ent_form hr
  obtain ⟨ao, co, rfl, hco, _⟩ := rows_form ho
  obtain ⟨ap, cp, rfl, _, _⟩ := rows_form hp
  have HAO := Lib.hid (show 0 < o.length → ∃ bo oo, ao = some ⟨bo, oo, none⟩ by
    intro h
    obtain ⟨a1, c1, h1, _, _, _, _, h6⟩ := ho
    cases h1
    obtain ⟨b1, o1, e1, _⟩ := h6 _ _ (ints_at o 0 h)
    exact ⟨b1, o1, e1⟩)
  have HP := Lib.hid (show CellsAt (w.alloc (.cells #[.slice a l.length cap] 33)) ap (pieces P) by
    obtain ⟨a1, c1, h1, _, _, _, _, h6⟩ := hp.keep HB0.out
    cases h1
    exact h6)
  clear hr hs ho hp
  have HC := Lib.hid (show (w.alloc (.cells #[.slice a l.length cap] 33)).cell? ⟨w.heap.size, 0, none⟩ = some (.slice a l.length cap) by simp [go_sem])
  cases hx : Pl.dictOk l
  · have h1 : matOk l o = false := by rw [E0.out, hx, Bool.false_and]
    have F1 := Lib.hid (show segRes l o P = false by rw [E1.out, h1, Bool.false_and])
    have F2 := Lib.hid h1
    rw [hx] at HV
    clear h1 hx E0 E1
    go_enter Tryd.func14, Tryd.ntmps14
    go_wp2_with (go_at_call 19; (with_reducible refine HV.out.mono ?_); rintro e w1 ⟨rfl, hb1⟩; have HB1 := Lib.hid (HB0.out.trans (hb1.mono HB0.out.size)); clear hb1)
    go_ret2
    exact ⟨ret_bb F1.out.symm F2.out.symm, HB1.out⟩
  cases hy : strokesOk o
  · have h1 : matOk l o = false := by rw [E0.out, hx, hy]; rfl
    have F1 := Lib.hid (show segRes l o P = false by rw [E1.out, h1, Bool.false_and])
    have F2 := Lib.hid h1
    rw [hx] at HV; rw [hy] at HS
    clear h1 hx hy E0 E1
    go_enter Tryd.func14, Tryd.ntmps14
    go_wp2_with (first
      | (go_at_call 19; (with_reducible refine HV.out.mono ?_); rintro e w1 ⟨rfl, hb1⟩; have HB1 := Lib.hid (HB0.out.trans (hb1.mono HB0.out.size)); have HO1 := Lib.hid (HO.out.keep hb1); clear hb1)
      | (go_at_call 20; (with_reducible refine (HS.out _ HO1.out).mono ?_); rintro e w' ⟨rfl, rfl⟩))
    go_ret2
    exact ⟨ret_bb F1.out.symm F2.out.symm, HB1.out⟩
  have h1 : matOk l o = true := by rw [E0.out, hx, hy]; rfl
  have HNE := Lib.hid (fun q => text_pos (o := q) hx)
  have F2 := Lib.hid h1
  have F1 := Lib.hid (show segRes l o P = segB l o 0 P by rw [E1.out, h1]; rfl)
  rw [hx] at HV; rw [hy] at HS
  clear h1 hx hy E0 E1
  go_enter Tryd.func14, Tryd.ntmps14
  go_upto_region 5 with (first
    | (go_at_call 20; (with_reducible refine (HS.out _ HO1.out).mono ?_); rintro e w' ⟨rfl, rfl⟩)
    | (go_at_call 19; (with_reducible refine HV.out.mono ?_); rintro e W0 ⟨rfl, hb1⟩; have HB1 := Lib.hid (HB0.out.trans (hb1.mono HB0.out.size)); have HO1 := Lib.hid (HO.out.keep hb1); have HE1 := Lib.hid (HE.out.keep hb1); have HP1 := Lib.hid (HP.out.keep hb1); have HC1 := Lib.hid (keepcT hb1 HC.out); clear hb1))
  clear HB0 HO HE HP HC HV HS
  have HB0 := HB1; have HO := HO1; have HE := HE1; have HP := HP1; have HC := HC1
  clear HB1 HO1 HE1 HP1 HC1
  have HW := Lib.hid (show w.heap.size ≤ W0.heap.size from HB0.out.size)
  go_loopw [8, 9] (fun f i wr => ∃ (k b : Nat), k ≤ P.length ∧ b ≤ o.length ∧ i = .int .i64 k ∧ f = .int .i64 b ∧ Hid (segB l o 0 P = segB l o b (P.drop k)) ∧ Below W0.heap.size W0 wr) (fun _ i _ => P.length - (intOf i).toNat)
  case atStart => exact ⟨0, 0, Nat.zero_le _, Nat.zero_le _, rfl, rfl, Lib.hid rfl, Below.refl _ _⟩
  case round =>
    obtain ⟨k, b, hk, hb, rfl, rfl, HA, hbw⟩ := hrel
    have HB := Lib.hid hbw; clear hbw
    by_cases hlt : k < P.length
    · obtain ⟨bp, op, rfl, c1, c2, c3⟩ := piece_cells (HP.out.keep HB.out) k hlt
      have hki : (k : Int) < (P.length : Int) := by omega
      have hk0 : (0 : Int) ≤ (k : Int) := by omega
      generalize hpk : P[k] = p at c1 c2 c3
      have HPK := Lib.hid hpk; clear hpk
      obtain ⟨pf, pc, pt⟩ := p
      have c1' : wr.cell? ⟨bp, op + k * 3, none⟩ = some (.int .i64 pf) := c1
      have c2' : wr.cell? ⟨bp, op + k * 3 + 1, none⟩ = some (.int .i64 pc) := c2
      have c3' : wr.cell? ⟨bp, op + k * 3 + 2, none⟩ = some (.string pt) := c3
      clear c1 c2 c3
      have q0 := keepcT HB.out HC.out
      have HB1 := Lib.hid (below_on3 HB.out (Joins.below_alloc1 wr (.cells #[.int .i64 pf, .int .i64 pc, .string pt] 28)))
      have hw1 : IntKind.i64.wrap ((o.length : Int) - (b : Int)) = (o.length : Int) - (b : Int) := IntWalk.i64_in _ (by omega)
      by_cases hf : pf = (b : Int)
      · subst hf
        have HN := Lib.hid (fun W => l1In_any pc 1 ((o.length : Int) - (b : Int)) W)
        cases hin : Pl.inB pc 1 ((o.length : Int) - (b : Int))
        · have E := Lib.hid (HA.out.trans (seg_in hlt HPK.out hin))
          rw [hin] at HN
          clear hin HA
          go_wp2_with (go_at_call 21; (with_reducible refine (HN.out _).mono ?_); rintro e w2 ⟨rfl, rfl⟩)
          go_ret2
          exact ⟨ret_bb (F1.out.trans E.out).symm F2.out.symm, HB0.out.trans (HB1.out.mono HW.out)⟩
        · have HIN := Lib.hid hin
          obtain ⟨n, rfl, hn1, hn2⟩ := inB_nat hin
          obtain ⟨bo, oo, rfl⟩ := HAO.out (by omega)
          rw [hin] at HN
          clear hin
          have HRP := Lib.hid (rows_part (HO.out.keep HB1.out) b n hn2)
          have HF2 := Lib.hid (fun W h1 h2 => l6Find_any (.slice a l.length cap) (.slice (some ⟨bo, oo + b, none⟩) n (co - b)) l ((o.drop b).take n) W h1 hl HF.out h2)
          have E := Lib.hid (show pcOk l o b n pt = ((Pl.hasD l ((o.drop b).take n) && (pt.toList == (Pl.textD l ((o.drop b).take n)).toList)) || (decide (n = 1) && pt.toList.isEmpty)) from rfl)
          have HNO := Lib.hid (fun h => HA.out.trans (seg_pc hlt HPK.out rfl (n := n) h))
          have HYES := Lib.hid (fun h => HA.out.trans (seg_next hlt HPK.out rfl (n := n) rfl HIN.out h))
          clear HA HPK HIN
          have HNT := Lib.hid (HNE.out ((o.drop b).take n))
          generalize Pl.hasD l ((o.drop b).take n) = y at HF2 E HNT
          generalize Pl.textD l ((o.drop b).take n) = tx at HF2 E HNT
          go_upto_region 8 with fail
          have hw2 : IntKind.i64.wrap ((b : Int) + (n : Int)) = (b : Int) + (n : Int) := IntWalk.i64_in _ (by omega)
          have hf2 : (b : Int) + (n : Int) ≤ (o.length : Int) := by omega
          have hf3 : (b : Int) ≤ (b : Int) + (n : Int) := by omega
          have hf4 : (0 : Int) ≤ (b : Int) := by omega
          have hf5 : (o.length : Int) ≤ (co : Int) := by omega
          have hf6 : ¬ co = b := by omega
          have hf7 : ¬ b = co := by omega
          have hf8 : b < co := by omega
          have hf9 : ¬ co - b = 0 := by omega
          have hf10 : ¬ co ≤ b := by omega
          have hf11 : (b : Int) + (n : Int) ≤ (co : Int) := by omega
          have hf12 : ((b : Int) + (n : Int)).toNat - b = n := by omega
          obtain ⟨W1, hW1⟩ : ∃ W1, W1 = wr.alloc (.cells #[.int .i64 (b : Int), .int .i64 (n : Int), .string pt] 28) := ⟨_, rfl⟩
          have e0 : W1.cell? ⟨wr.heap.size, 0, none⟩ = some (.int .i64 (b : Int)) := by rw [hW1]; simp [go_sem]
          have e1 : W1.cell? ⟨wr.heap.size, 1, none⟩ = some (.int .i64 (n : Int)) := by rw [hW1]; simp [go_sem]
          have e2 : W1.cell? ⟨wr.heap.size, 2, none⟩ = some (.string pt) := by rw [hW1]; simp [go_sem]
          have q1 : W1.cell? ⟨w.heap.size, 0, none⟩ = some (.slice a l.length cap) := by rw [hW1]; exact keepcT (Joins.below_alloc1 wr _) q0
          rw [← hW1] at HB1 HRP ⊢
          have HE1 := Lib.hid (HE.out.keep HB1.out)
          clear hW1 q0 c1' c2' c3'
          go_upto_region 10 with (go_at_call 21; (with_reducible refine (HN.out _).mono ?_); rintro e w2 ⟨rfl, rfl⟩)
          have HEr := Lib.hid (show Ents W1.drew (.slice a l.length cap) l from Ents.drew HE1.out 1)
          have HRr := Lib.hid (show Rows W1.drew _ _ _ _ from Rows.drew HRP.out 1)
          go_region_held3 (fun w' => w'.cell? ⟨w.heap.size, 0, none⟩ = some (.slice a l.length cap) ∧ w'.cell? ⟨wr.heap.size, 1, none⟩ = some (.int .i64 (n : Int)) ∧ w'.cell? ⟨wr.heap.size, 2, none⟩ = some (.string pt)) (first | exact ⟨q2, g1, g2⟩ | exact ⟨q1, e1, e2⟩) (first | (go_at_call 29; (with_reducible refine (HF2.out _ HEr.out HRr.out).mono ?_); rintro e w2 ⟨rfl, hb2⟩; have q2 := keepcT hb2 q1; have g1 := keepcT hb2 e1; have g2 := keepcT hb2 e2; have HB2 := Lib.hid ((below_drew1 HB1.out).trans (hb2.mono HB1.out.size)); clear hb2))
          cases hx2 : pt.toList.isEmpty
          · cases y
            · have HX := Lib.hid (HNO.out (or_no E.out rfl (and_no2 hx2)))
              go_wp2
              go_ret2
              exact ⟨ret_bb (F1.out.trans HX.out).symm F2.out.symm, HB0.out.trans (HB2.out.mono HW.out)⟩
            · cases hx1 : (pt.toList == tx.toList)
              · have HX := Lib.hid (HNO.out (or_no E.out hx1 (and_no2 hx2)))
                go_wp2
                go_ret2
                exact ⟨ret_bb (F1.out.trans HX.out).symm F2.out.symm, HB0.out.trans (HB2.out.mono HW.out)⟩
              · have HX := Lib.hid (HYES.out (or_y1 E.out hx1))
                go_wp2
                go_roundw
                case rel => exact ⟨k + 1, b + n, by omega, by omega, by go_num, by go_num, HX, HB2.out⟩
                case measure => simp [intOf]; omega
          · by_cases hnn : n = 1
            · have hni : (n : Int) = 1 := by omega
              have HX := Lib.hid (HYES.out (or_y2 E.out (and_yes hnn hx2)))
              go_wp2
              go_roundw
              case rel => exact ⟨k + 1, b + n, by omega, by omega, by go_num, by go_num, HX, HB2.out⟩
              case measure => simp [intOf]; omega
            · have hni : ¬ (n : Int) = 1 := by omega
              have hni2 : ((n : Int) != 1) = true := bne_iff_ne.2 hni
              have HZ := Lib.hid (and_empty (tx := tx) hx2 HNT.out)
              have HX := Lib.hid (HNO.out (or_no E.out HZ.out (and_no1 hnn)))
              go_wp2
              go_ret2
              exact ⟨ret_bb (F1.out.trans HX.out).symm F2.out.symm, HB0.out.trans (HB2.out.mono HW.out)⟩
      · have E := Lib.hid (HA.out.trans (seg_from hlt HPK.out hf))
        have hf2 : (pf != (b : Int)) = true := by simpa using hf
        clear HA
        go_wp2
        go_ret2
        exact ⟨ret_bb (F1.out.trans E.out).symm F2.out.symm, HB0.out.trans (HB1.out.mono HW.out)⟩
    · obtain rfl : k = P.length := by omega
      have E := Lib.hid (HA.out.trans (seg_end l o b P))
      have hki : ¬ (P.length : Int) < (P.length : Int) := by omega
      clear HA
      by_cases he : b = o.length
      · have E2 := Lib.hid (E.out.trans (decide_eq_true he))
        have hei : (b : Int) = (o.length : Int) := by omega
        have hei2 : ((b : Int) == (o.length : Int)) = true := beq_iff_eq.2 hei
        clear he
        go_wp2
        go_ret2
        exact ⟨ret_bb (F1.out.trans E2.out).symm F2.out.symm, HB0.out.trans (HB.out.mono HW.out)⟩
      · have E2 := Lib.hid (E.out.trans (decide_eq_false he))
        have hei : ¬ (b : Int) = (o.length : Int) := by omega
        have hei2 : ((b : Int) == (o.length : Int)) = false := beq_eq_false_iff_ne.2 hei
        clear he
        go_wp2
        go_ret2
        exact ⟨ret_bb (F1.out.trans E2.out).symm F2.out.symm, HB0.out.trans (HB.out.mono HW.out)⟩

end Go.Proofs.YtkbbcmbeafjpaaaDoor
