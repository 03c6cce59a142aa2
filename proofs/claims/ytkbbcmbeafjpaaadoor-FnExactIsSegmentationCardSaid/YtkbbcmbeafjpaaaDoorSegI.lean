/-
  CONTRACT: isSegmentation of the program.
-/
import Derived.Test.YtkbbcmbeafjpaaaDoorPlainSeg
import Derived.Test.YtkbbcmbeafjpaaaDoorBasB
namespace Go.Proofs.YtkbbcmbeafjpaaaDoor
open Go.RowKit

theorem or_no {x y x1 d x2 : Bool} (E : x = ((y && x1) || (d && x2))) (h1 : (y && x1) = false) (h2 : (d && x2) = false) : x = false := by rw [E, h1, h2]; rfl
theorem or_y1 {x y x1 d x2 : Bool} (E : x = ((y && x1) || (d && x2))) (h1 : (y && x1) = true) : x = true := by rw [E, h1]; rfl
theorem or_y2 {x y x1 d x2 : Bool} (E : x = ((y && x1) || (d && x2))) (h2 : (d && x2) = true) : x = true := by rw [E, h2, Bool.or_true]
theorem and_no1 {n : Nat} {x : Bool} (h : ¬ n = 1) : (decide (n = 1) && x) = false := by rw [decide_eq_false h]; rfl
theorem and_no2 {d x : Bool} (h : x = false) : (d && x) = false := by rw [h, Bool.and_false]
theorem and_yes {n : Nat} {x : Bool} (h : n = 1) (h2 : x = true) : (decide (n = 1) && x) = true := by rw [decide_eq_true h, h2]; rfl

set_option maxRecDepth 20000 in
set_option maxHeartbeats 3200000 in
theorem isSegmentation_any (v vo vp : Value) (l : List Ent) (o : List Int) (P : List Pc) (w : World) (hr : Ents w v l) (hl : l.length ≤ 1048576) (hs : ∀ p ∈ l, p.1.length ≤ 1048576) (ho : Rows w vo o.length 1 (ints o)) (hol : o.length ≤ 1048576) (hp : Rows w vp P.length 3 (pieces P)) (hpl : P.length ≤ 1048576) :
    Calls Tryd.prog 31 #[.agg #[v], vo, vp] w fun e w' => e = .returned (.bool (segB l o 0 P)) ∧ Below w.heap.size w w' := by
  have HB0 := Lib.hid (Joins.below_alloc1 w (.cells #[v] 33))
  have HE := Lib.hid (hr.keep HB0.out)
  have HO := Lib.hid (ho.keep HB0.out)
  have HF := Lib.hid hs
  obtain ⟨a, cap, rfl, _, _⟩ := ent_form hr
  obtain ⟨ao, co, rfl, hco, _⟩ := rows_form ho
  obtain ⟨ap, cp, rfl, _, _⟩ := rows_form hp
  have HAO := Lib.hid (show 0 < o.length → ∃ bo oo, ao = some ⟨bo, oo, none⟩ by
    intro h
    obtain ⟨a1, c1, h1, _, _, _, _, h6⟩ := ho
    cases h1
    obtain ⟨b1, o1, e1, _⟩ := h6 _ _ (ints_at o 0 h)
    exact ⟨b1, o1, e1⟩)
  have HP := Lib.hid (show CellsAt (w.alloc (.cells #[.slice a l.length cap] 33)) ap (pieces P) by
    obtain ⟨a1, c1, h1, _, _, _, _, h6⟩ := hp.keep HB0.out
    cases h1
    exact h6)
  clear hr hs ho hp
  have HC := Lib.hid (show (w.alloc (.cells #[.slice a l.length cap] 33)).cell? ⟨w.heap.size, 0, none⟩ = some (.slice a l.length cap) by simp [go_sem])
  go_enter Tryd.func31, Tryd.ntmps31
  go_upto_region 3 with fail
  obtain ⟨W0, hW0⟩ : ∃ W0, W0 = w.alloc (.cells #[.slice a l.length cap] 33) := ⟨_, rfl⟩
  rw [← hW0] at HB0 HE HC HO HP ⊢
  have HW := Lib.hid (show w.heap.size ≤ W0.heap.size from HB0.out.size)
  clear hW0
  go_loopw [7, 14] (fun f i wr => ∃ (k b : Nat), k ≤ P.length ∧ b ≤ o.length ∧ i = .int .i64 k ∧ f = .int .i64 b ∧ Hid (segB l o 0 P = segB l o b (P.drop k)) ∧ Below W0.heap.size W0 wr) (fun _ i _ => P.length - (intOf i).toNat)
  case atStart => exact ⟨0, 0, Nat.zero_le _, Nat.zero_le _, rfl, rfl, Lib.hid rfl, Below.refl _ _⟩
  case round =>
    obtain ⟨k, b, hk, hb, rfl, rfl, HA, hbw⟩ := hrel
    have HB := Lib.hid hbw; clear hbw
    by_cases hlt : k < P.length
    · obtain ⟨bp, op, rfl, c1, c2, c3⟩ := piece_cells (HP.out.keep HB.out) k hlt
      have hki : (k : Int) < (P.length : Int) := by omega
      have hk0 : (0 : Int) ≤ (k : Int) := by omega
      generalize hpk : P[k] = p at c1 c2 c3
      have HPK := Lib.hid hpk; clear hpk
      obtain ⟨pf, pc, pt⟩ := p
      have c1' : wr.cell? ⟨bp, op + k * 3, none⟩ = some (.int .i64 pf) := c1
      have c2' : wr.cell? ⟨bp, op + k * 3 + 1, none⟩ = some (.int .i64 pc) := c2
      have c3' : wr.cell? ⟨bp, op + k * 3 + 2, none⟩ = some (.string pt) := c3
      clear c1 c2 c3
      have q0 := keepcT HB.out HC.out
      have HB1 := Lib.hid (below_on3 HB.out (Joins.below_alloc1 wr (.cells #[.int .i64 pf, .int .i64 pc, .string pt] 28)))
      have hw1 : IntKind.i64.wrap ((o.length : Int) - (b : Int)) = (o.length : Int) - (b : Int) := IntWalk.i64_in _ (by omega)
      by_cases hf : pf = (b : Int)
      · subst hf
        have HN := Lib.hid (fun W => in_any pc 1 ((o.length : Int) - (b : Int)) W)
        cases hin : Pl.inB pc 1 ((o.length : Int) - (b : Int))
        · have E := Lib.hid (HA.out.trans (seg_in hlt HPK.out hin))
          rw [hin] at HN
          clear hin HA
          go_wp2_with (go_at_call 25; (with_reducible refine (HN.out _).mono ?_); rintro e w2 ⟨rfl, rfl⟩)
          go_ret
          exact ⟨ret_bool E.out.symm, HB0.out.trans (HB1.out.mono HW.out)⟩
        · have HIN := Lib.hid hin
          obtain ⟨n, rfl, hn1, hn2⟩ := inB_nat hin
          obtain ⟨bo, oo, rfl⟩ := HAO.out (by omega)
          rw [hin] at HN
          clear hin
          have HRP := Lib.hid (rows_part (HO.out.keep HB1.out) b n hn2)
          have HF2 := Lib.hid (fun W h1 h2 => lookup_any (.slice a l.length cap) (.slice (some ⟨bo, oo + b, none⟩) n (co - b)) l ((o.drop b).take n) W h1 hl HF.out h2)
          have E := Lib.hid (show pcOk l o b n pt = ((Pl.hasD l ((o.drop b).take n) && (pt.toList == (Pl.textD l ((o.drop b).take n)).toList)) || (decide (n = 1) && pt.toList.isEmpty)) from rfl)
          have HNO := Lib.hid (fun h => HA.out.trans (seg_pc hlt HPK.out rfl (n := n) h))
          have HYES := Lib.hid (fun h => HA.out.trans (seg_next hlt HPK.out rfl (n := n) rfl HIN.out h))
          clear HA HPK HIN
          generalize Pl.hasD l ((o.drop b).take n) = y at HF2 E
          generalize Pl.textD l ((o.drop b).take n) = tx at HF2 E
          go_upto_region 5 with fail
          have hw2 : IntKind.i64.wrap ((b : Int) + (n : Int)) = (b : Int) + (n : Int) := IntWalk.i64_in _ (by omega)
          have hf2 : (b : Int) + (n : Int) ≤ (o.length : Int) := by omega
          have hf3 : (b : Int) ≤ (b : Int) + (n : Int) := by omega
          have hf4 : (0 : Int) ≤ (b : Int) := by omega
          have hf5 : (o.length : Int) ≤ (co : Int) := by omega
          have hf6 : ¬ co = b := by omega
          have hf7 : ¬ b = co := by omega
          have hf8 : b < co := by omega
          have hf9 : ¬ co - b = 0 := by omega
          have hf10 : ¬ co ≤ b := by omega
          have hf11 : (b : Int) + (n : Int) ≤ (co : Int) := by omega
          have hf12 : ((b : Int) + (n : Int)).toNat - b = n := by omega
          obtain ⟨W1, hW1⟩ : ∃ W1, W1 = wr.alloc (.cells #[.int .i64 (b : Int), .int .i64 (n : Int), .string pt] 28) := ⟨_, rfl⟩
          have e0 : W1.cell? ⟨wr.heap.size, 0, none⟩ = some (.int .i64 (b : Int)) := by rw [hW1]; simp [go_sem]
          have e1 : W1.cell? ⟨wr.heap.size, 1, none⟩ = some (.int .i64 (n : Int)) := by rw [hW1]; simp [go_sem]
          have e2 : W1.cell? ⟨wr.heap.size, 2, none⟩ = some (.string pt) := by rw [hW1]; simp [go_sem]
          have q1 : W1.cell? ⟨w.heap.size, 0, none⟩ = some (.slice a l.length cap) := by rw [hW1]; exact keepcT (Joins.below_alloc1 wr _) q0
          rw [← hW1] at HB1 HRP ⊢
          have HE1 := Lib.hid (HE.out.keep HB1.out)
          clear hW1 q0 c1' c2' c3'
          go_upto_region 7 with (go_at_call 25; (with_reducible refine (HN.out _).mono ?_); rintro e w2 ⟨rfl, rfl⟩)
          have HEr := Lib.hid (show Ents W1.drew (.slice a l.length cap) l from Ents.drew HE1.out 1)
          have HRr := Lib.hid (show Rows W1.drew _ _ _ _ from Rows.drew HRP.out 1)
          go_region_held3 (fun w' => w'.cell? ⟨w.heap.size, 0, none⟩ = some (.slice a l.length cap) ∧ w'.cell? ⟨wr.heap.size, 1, none⟩ = some (.int .i64 (n : Int)) ∧ w'.cell? ⟨wr.heap.size, 2, none⟩ = some (.string pt)) (first | exact ⟨q2, g1, g2⟩ | exact ⟨q1, e1, e2⟩) (first | (go_at_call 39; (with_reducible refine (HF2.out _ HEr.out HRr.out).mono ?_); rintro e w2 ⟨rfl, hb2⟩; have q2 := keepcT hb2 q1; have g1 := keepcT hb2 e1; have g2 := keepcT hb2 e2; have HB2 := Lib.hid ((below_drew1 HB1.out).trans (hb2.mono HB1.out.size)); clear hb2))
          cases y
          · by_cases hnn : n = 1
            · have hni : (n : Int) = 1 := by omega
              cases hx2 : pt.toList.isEmpty
              · have HX := Lib.hid (HNO.out (or_no E.out rfl (and_no2 hx2)))
                go_wp2
                go_ret
                exact ⟨ret_bool HX.out.symm, HB0.out.trans (HB2.out.mono HW.out)⟩
              · have HX := Lib.hid (HYES.out (or_y2 E.out (and_yes hnn hx2)))
                go_wp2
                go_roundw
                case rel => exact ⟨k + 1, b + n, by omega, by omega, by go_num, by go_num, HX, HB2.out⟩
                case measure => simp [intOf]; omega
            · have hni : ¬ (n : Int) = 1 := by omega
              have HX := Lib.hid (HNO.out (or_no E.out rfl (and_no1 hnn)))
              go_wp2
              go_ret
              exact ⟨ret_bool HX.out.symm, HB0.out.trans (HB2.out.mono HW.out)⟩
          · cases hx1 : (pt.toList == tx.toList)
            · by_cases hnn : n = 1
              · have hni : (n : Int) = 1 := by omega
                cases hx2 : pt.toList.isEmpty
                · have HX := Lib.hid (HNO.out (or_no E.out hx1 (and_no2 hx2)))
                  go_wp2
                  go_ret
                  exact ⟨ret_bool HX.out.symm, HB0.out.trans (HB2.out.mono HW.out)⟩
                · have HX := Lib.hid (HYES.out (or_y2 E.out (and_yes hnn hx2)))
                  go_wp2
                  go_roundw
                  case rel => exact ⟨k + 1, b + n, by omega, by omega, by go_num, by go_num, HX, HB2.out⟩
                  case measure => simp [intOf]; omega
              · have hni : ¬ (n : Int) = 1 := by omega
                have HX := Lib.hid (HNO.out (or_no E.out hx1 (and_no1 hnn)))
                go_wp2
                go_ret
                exact ⟨ret_bool HX.out.symm, HB0.out.trans (HB2.out.mono HW.out)⟩
            · have HX := Lib.hid (HYES.out (or_y1 E.out hx1))
              go_wp2
              go_roundw
              case rel => exact ⟨k + 1, b + n, by omega, by omega, by go_num, by go_num, HX, HB2.out⟩
              case measure => simp [intOf]; omega
      · have E := Lib.hid (HA.out.trans (seg_from hlt HPK.out hf))
        have hf2 : (pf != (b : Int)) = true := by simpa using hf
        clear HA
        go_wp2
        go_ret
        exact ⟨ret_bool E.out.symm, HB0.out.trans (HB1.out.mono HW.out)⟩
    · obtain rfl : k = P.length := by omega
      have E := Lib.hid (HA.out.trans (seg_end l o b P))
      have hki : ¬ (P.length : Int) < (P.length : Int) := by omega
      clear HA
      by_cases he : b = o.length
      · have E2 := Lib.hid (E.out.trans (decide_eq_true he))
        have hei : (b : Int) = (o.length : Int) := by omega
        have hei2 : ((b : Int) == (o.length : Int)) = true := beq_iff_eq.2 hei
        clear he
        go_wp2
        go_ret
        exact ⟨ret_bool E2.out.symm, HB0.out.trans (HB.out.mono HW.out)⟩
      · have E2 := Lib.hid (E.out.trans (decide_eq_false he))
        have hei : ¬ (b : Int) = (o.length : Int) := by omega
        have hei2 : ((b : Int) == (o.length : Int)) = false := beq_eq_false_iff_ne.2 hei
        clear he
        go_wp2
        go_ret
        exact ⟨ret_bool E2.out.symm, HB0.out.trans (HB.out.mono HW.out)⟩

def segRes (l : List Ent) (o : List Int) (P : List Pc) : Bool := matOk l o && segB l o 0 P
theorem ret_bb {a b c d : Bool} (h1 : a = c) (h2 : b = d) : Ending.returned (.tuple #[.bool a, .bool b]) = .returned (.tuple #[.bool c, .bool d]) := by rw [h1, h2]

set_option maxRecDepth 20000 in
set_option maxHeartbeats 1600000 in
theorem IsSegmentation_any (v vo vp : Value) (l : List Ent) (o : List Int) (P : List Pc) (w : World) (hr : Ents w v l) (hl : l.length ≤ 1048576) (hs : ∀ p ∈ l, p.1.length ≤ 1048576 ∧ p.2.size ≤ 1048576) (ho : Rows w vo o.length 1 (ints o)) (hol : o.length ≤ 1048576) (hp : Rows w vp P.length 3 (pieces P)) (hpl : P.length ≤ 1048576) (hm : ∃ m, w.cell? ⟨0, 0, none⟩ = some (.int .i64 m)) :
    Calls Tryd.prog 16 #[.agg #[v], vo, vp] w fun e w' => e = .returned (.tuple #[.bool (segRes l o P), .bool (matOk l o)]) ∧ Below w.heap.size w w' := by
  have HB0 := Lib.hid (Joins.below_alloc1 w (.cells #[v] 33))
  have HE := Lib.hid (hr.keep HB0.out)
  have HO := Lib.hid (ho.keep HB0.out)
  have HP := Lib.hid (hp.keep HB0.out)
  have HV := Lib.hid (isMatched_any v vo l o _ HE.out hl hs HO.out hol (max_keepT hm HB0.out))
  have HG := Lib.hid (fun W h1 h2 h3 => isSegmentation_any v vo vp l o P W h1 hl (fun p hp => (hs p hp).1) h2 hol h3 hpl)
  have E := Lib.hid (show segRes l o P = (matOk l o && segB l o 0 P) from rfl)
  obtain ⟨a, cap, rfl, _, _⟩ := ent_form hr
  obtain ⟨ao, co, rfl, _, _⟩ := rows_form ho
  obtain ⟨ap, cp, rfl, _, _⟩ := rows_form hp
  have HC := Lib.hid (show (w.alloc (.cells #[.slice a l.length cap] 33)).cell? ⟨w.heap.size, 0, none⟩ = some (.slice a l.length cap) by simp [go_sem])
  clear hr hs ho hp hm
  generalize matOk l o = x at HV E ⊢
  generalize segB l o 0 P = y at HG E
  cases x
  all_goals
    go_enter Tryd.func16, Tryd.ntmps16
    go_wp2_with (first
      | (go_at_call 31; (with_reducible refine (HG.out _ HE1.out HO1.out HP1.out).mono ?_); rintro e w2 ⟨rfl, hb2⟩; have HB2 := Lib.hid (HB1.out.trans (hb2.mono HB1.out.size)); clear hb2)
      | (go_at_call 24; (with_reducible refine HV.out.mono ?_); rintro e w1 ⟨rfl, hb1⟩; have HB1 := Lib.hid (HB0.out.trans (hb1.mono HB0.out.size)); have d1 := keepcT hb1 HC.out; have HE1 := Lib.hid (HE.out.keep hb1); have HO1 := Lib.hid (HO.out.keep hb1); have HP1 := Lib.hid (HP.out.keep hb1); clear hb1))
    go_ret2
    exact ⟨ret_bb (by rw [E.out]; rfl) rfl, by first | exact HB2.out | exact HB1.out⟩

end Go.Proofs.YtkbbcmbeafjpaaaDoor
