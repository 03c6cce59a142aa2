/-
  CONTRACT: FewestPieces of the program.
-/
import Derived.Test.YtkbbcmbeafjpaaaGreatDoorFewM
import Derived.Deep.DeepCutAuto
namespace Go.Proofs.YtkbbcmbeafjpaaaGreatDoor
open Go.RowKit

set_option maxRecDepth 100000 in
set_option maxHeartbeats 6400000 in
theorem FewestPieces_any (v vo : Value) (l : List Ent) (o : List Int) (w : World) (hr : Ents w v l) (hl : l.length ≤ 1048576) (hs : ∀ p ∈ l, p.1.length ≤ 1048576 ∧ p.2.size ≤ 1048576) (ho : Rows w vo o.length 1 (ints o)) (hol : o.length ≤ 1048576) (hm : ∃ m, w.cell? ⟨0, 0, none⟩ = some (.int .i64 m)) :
    Calls Tryz.prog 39 #[.agg #[v], vo] w (RetPcs w (fewOut l o) (matOk l o)) := by
  have HB0 := Lib.hid (Joins.below_alloc1 w (.cells #[v] 41))
  have HE := Lib.hid (hr.keep HB0.out)
  have HO := Lib.hid (ho.keep HB0.out)
  have HV := Lib.hid (isMatched_any v vo l o _ HE.out hl hs HO.out hol (max_keepT hm HB0.out))
  have HF := Lib.hid (fun p hp => (hs p hp).1)
  have E := Lib.hid (show fewOut l o = if matOk l o = true then fews l o else [] from rfl)
  obtain ⟨a, cap, rfl, _, _⟩ := ent_form hr
  obtain ⟨ao, co, rfl, hco, _⟩ := rows_form ho
  have HAO := Lib.hid (show 0 < o.length → ∃ bo oo, ao = some ⟨bo, oo, none⟩ by
    intro h
    obtain ⟨a1, c1, h1, _, _, _, _, h6⟩ := ho
    cases h1
    obtain ⟨b1, o1, e1, _⟩ := h6 _ _ (ints_at o 0 h)
    exact ⟨b1, o1, e1⟩)
  have HC := Lib.hid (show (w.alloc (.cells #[.slice a l.length cap] 41)).cell? ⟨w.heap.size, 0, none⟩ = some (.slice a l.length cap) by simp [go_sem])
  clear hr hs ho hm
  cases hx : matOk l o
  · rw [hx] at HV
    have E1 : fewOut l o = [] := by rw [E.out, hx]; rfl
    rw [E1]
    clear E E1 hx
    go_enter Tryz.func39, Tryz.ntmps39
    go_wp2_with (go_at_call 90; (with_reducible refine HV.out.mono ?_); rintro e w1 ⟨rfl, hb1⟩; have HB1 := Lib.hid (HB0.out.trans (hb1.mono HB0.out.size)); clear hb1)
    go_ret2
    exact ⟨.slice none 0 0, rfl, World.ownsRow_nil _ _ _ _, HB1.out⟩
  have ho60 := (matOk_told hx).2.1
  rw [hx] at HV
  have E1 : fewOut l o = fews l o := by rw [E.out, hx]; rfl
  rw [E1]
  clear E E1 hx
  go_enter Tryz.func39, Tryz.ntmps39
  go_upto_region 4 with (go_at_call 90; (with_reducible refine HV.out.mono ?_); rintro e W0 ⟨rfl, hb1⟩; have HE1 := Lib.hid (HE.out.keep hb1); have HO1 := Lib.hid (HO.out.keep hb1); have HC1 := Lib.hid (keepcT hb1 HC.out); have HZ := Lib.hid (show w.heap.size < W0.heap.size from Nat.lt_of_lt_of_le (by rw [World.size_alloc]; exact Nat.lt_succ_self _) hb1.size); have HB1 := Lib.hid (HB0.out.trans (hb1.mono HB0.out.size)); clear hb1)
  clear HB0 HE HO HC HV
  have HMK1 : ∀ W : World, (Instr.makeSlice 25 (.int .i64 ((o.length : Int) + 1)) (.int .i64 ((o.length : Int) + 1))).run Tryz.prog W = .ok (.slice (some ⟨W.heap.size, 0, none⟩) (o.length + 1) (o.length + 1)) (W.alloc (.cells (madeCells #[.int .i64 0] ((o.length + 1) * 1)) 3)) := fun W => run_ints (o.length + 1) (by omega) W
  have HMK2 : ∀ W : World, (Instr.makeSlice 57 (.int .i64 (o.length : Int)) (.int .i64 (o.length : Int))).run Tryz.prog W = .ok (.slice (some ⟨W.heap.size, 0, none⟩) o.length o.length) (W.alloc (.cells (madeCells #[.int .i64 0, .int .i64 0, .string ⟨#[]⟩] (o.length * 3)) 127)) := fun W => run_pcs o.length (by omega) W
  go_cut [7, 8] (fun s7 s8 wx => ∃ (ga gb : Nat) (xs ys : List Value), s7 = .slice (some ⟨ga, 0, none⟩) (o.length + 1) (o.length + 1) ∧ s8 = .slice (some ⟨gb, 0, none⟩) o.length o.length ∧ Hid (ga ≠ gb) ∧ Hid (wx.ownsRow W0.heap.size 3 1 (.slice (some ⟨ga, 0, none⟩) (o.length + 1) (o.length + 1)) (o.length + 1) xs) ∧ Hid (wx.ownsRow W0.heap.size 127 3 (.slice (some ⟨gb, 0, none⟩) o.length o.length) o.length ys) ∧ Hid (CTo cN l o xs o.length) ∧ Below W0.heap.size W0 wx)
  case first =>
    go_region
    all_goals go_wp2_with fail
    all_goals go_meet
    all_goals (case rel => first
      | (obtain ⟨q1, q2, q3⟩ := own_two (W0 := W0) (E1 := 3) (E2 := 127) (s1 := 1) (s2 := 3) (n1 := o.length + 1) (n2 := o.length) (z1 := #[.int .i64 0]) (z2 := #[.int .i64 0, .int .i64 0, .string ⟨#[]⟩]) (by unfold maxLen; omega) (by unfold maxLen; omega) (madeCells #[.int .i64 0] (o.length + 1)) _ (by rw [Nat.mul_one]) rfl
         exact ⟨W0.heap.size, W0.heap.size + 1, _, _, rfl, rfl, Lib.hid (by omega), Lib.hid (own_drewN q1 1), Lib.hid (own_drewN q2 1), Lib.hid (CTo.start rfl (made_zero1 _ _ (by omega))), below_drew1 q3⟩)
      | (obtain ⟨q1, q2, q3⟩ := own_two (W0 := W0) (E1 := 127) (E2 := 3) (s1 := 3) (s2 := 1) (n1 := o.length) (n2 := o.length + 1) (z1 := #[.int .i64 0, .int .i64 0, .string ⟨#[]⟩]) (z2 := #[.int .i64 0]) (by unfold maxLen; omega) (by unfold maxLen; omega) _ (madeCells #[.int .i64 0] (o.length + 1)) rfl (by rw [Nat.mul_one])
         exact ⟨W0.heap.size + 1, W0.heap.size, _, _, rfl, rfl, Lib.hid (by omega), Lib.hid (own_drewN q2 1), Lib.hid (own_drewN q1 1), Lib.hid (CTo.start rfl (made_zero1 _ _ (by omega))), below_drew1 q3⟩))
  obtain ⟨ga, gb, xs0, ys0, rfl, rfl, HNE, HA, HY, HT, hb⟩ := hcut
  have HBW := Lib.hid hb; clear hb
  clear HMK1 HMK2
  have hne : ga ≠ gb := HNE.out
  have hne2 : gb ≠ ga := Ne.symm HNE.out
  go_upto_region 6 with fail
  go_loopw [9] (fun f wr => ∃ (j : Nat) (xs ys : List Value), j ≤ o.length ∧ f = .int .i64 ((j : Int) - 1) ∧ Hid (wr.ownsRow W0.heap.size 3 1 (.slice (some ⟨ga, 0, none⟩) (o.length + 1) (o.length + 1)) (o.length + 1) xs) ∧ Hid (wr.ownsRow W0.heap.size 127 3 (.slice (some ⟨gb, 0, none⟩) o.length o.length) o.length ys) ∧ Hid (CTo cN l o xs j) ∧ Hid (PTo l o ys j) ∧ Below W0.heap.size W0 wr) (fun f _ => (intOf f + 1).toNat)
  case atStart => exact ⟨o.length, xs0, ys0, Nat.le_refl _, rfl, HA, HY, HT, Lib.hid (PTo.start l o ys0), HBW.out⟩
  clear HA HY HT HBW
  case round =>
    obtain ⟨j, xs, ys, hj, hf, HA, HY, HT, HP, hb⟩ := hrel
    have HB := Lib.hid hb; clear hb
    have hxl : xs.length = o.length + 1 := by have := HA.out.1; omega
    have hyl : ys.length = o.length * 3 := HY.out.1
    cases j with
    | zero =>
      have hf' := hf.trans (congrArg (Value.int .i64) (show ((0 : Nat) : Int) - 1 = -1 by omega))
      clear hf
      subst hf'
      clear hj HA HT hxl
      obtain ⟨W2, rfl⟩ : ∃ W2, W2 = wr := ⟨wr, rfl⟩
      have HGB := Lib.hid (HY.out.lt gb rfl).2
      have HR0 := Lib.hid (World.ownsRow_made (base := W2.heap.size) (e := 127) (size := 3) W2 #[] 0 (Nat.le_refl _) (by unfold maxLen; omega) rfl)
      go_upto_region 18 with fail
      go_loopw [14, 15] (fun out f wr => ∃ (L : List Pc) (b : Nat), b ≤ o.length ∧ f = .int .i64 b ∧ Hid (wr.ownsRow W2.heap.size 127 3 out L.length (pieces L)) ∧ Hid (FewTo l o L b) ∧ Hid (wr.ownsRow W0.heap.size 127 3 (.slice (some ⟨gb, 0, none⟩) o.length o.length) o.length ys) ∧ Below W2.heap.size W2 wr) (fun _ f _ => o.length - (intOf f).toNat)
      case atStart => exact ⟨[], 0, Nat.zero_le _, rfl, HR0, Lib.hid (few_start l o), Lib.hid (own_keep HY.out (Joins.below_alloc1 _ _)), Joins.below_alloc1 _ _⟩
      clear HR0 HY
      case round =>
        obtain ⟨L, b, hb, rfl, HL, HT, HY, hbw⟩ := hrel
        have HBi := Lib.hid hbw; clear hbw
        obtain ⟨al, cl, rfl⟩ := row_formD HL.out
        by_cases hlt : b < o.length
        · have hki : (b : Int) < (o.length : Int) := by omega
          have hb0 : (0 : Int) ≤ (b : Int) := by omega
          obtain ⟨p1, p2, p3⟩ := HP.out b (Nat.zero_le _) hlt
          have HS := Lib.hid (few_step HT.out hlt)
          obtain ⟨hn1, hn2⟩ := few_next_le l o b hlt
          have hll : L.length ≤ b := HT.out.2
          have hpt := pcOf_told l o b (cst l o b).2.2
          rw [hpt] at p1 p2 p3 HS
          dsimp only at p1 p2 p3
          generalize pcN (cst l o b).2.2 = c at p2 HS hn1 hn2
          generalize (pcOf l o b (cst l o b).2.2).2.2 = pt at p3 HS
          clear hpt HT
          have c1 : wr.cell? ⟨gb, b * 3, none⟩ = some (.int .i64 (b : Int)) := by rw [HY.out.cellAt (b * 3) (by omega)]; exact p1
          have c2 : wr.cell? ⟨gb, b * 3 + 1, none⟩ = some (.int .i64 (c : Int)) := by rw [HY.out.cellAt (b * 3 + 1) (by omega)]; exact p2
          have c3 : wr.cell? ⟨gb, b * 3 + 2, none⟩ = some (.string pt) := by rw [HY.out.cellAt (b * 3 + 2) (by omega)]; exact p3
          have P2 := Lib.hid p2
          clear p1 p2 p3
          go_wp2_with (at_builtin; have HL2 := HL; refine app_piece rfl _ _ rfl W2.heap.size _ L.length (pieces L) rfl (HL2.out.alloc _) ⟨_, 0, none⟩ 1 (b : Int) (c : Int) pt rfl (piece_news _ _ _ _ _) (by omega) (by have := HBi.out.size; simp; omega) ?_; intro v2 w2 hown2 hg2; have HY4 := Lib.hid ((own_keep HY.out (Joins.below_alloc1 _ (.cells #[.int .i64 (b : Int), .int .i64 (c : Int), .string pt] 127))).kept hg2 (.inr (fun e => absurd (HL2.out.lt gb e.symm).1 (by have := HGB.out; omega)))); have pc1 : w2.cell? ⟨gb, b * 3 + 1, none⟩ = some (.int .i64 (c : Int)) := (by rw [HY4.out.cellAt (b * 3 + 1) (by omega)]; exact P2.out))
          go_roundw
          case rel =>
            have h2 : w2.ownsRow W2.heap.size 127 3 v2 (L ++ [((b : Int), (c : Int), pt)]).length (pieces (L ++ [((b : Int), (c : Int), pt)])) := by
              rw [List.length_append, pieces_snoc]; exact hown2
            exact ⟨_, b + c, by omega, by go_num, Lib.hid h2, HS, HY4, (HBi.out.alloc HBi.out.size _).grown hg2 (by have := HBi.out.size; simp; omega) (fun j hj => (HL.out.lt j hj).1)⟩
          case measure => simp [intOf]; omega
        · have E := Lib.hid (few_done HT.out (by omega))
          go_wp2
          go_ret2
          rw [← E.out]
          exact ⟨_, rfl, own_base HL.out (Nat.le_trans (Nat.le_of_lt HZ.out) HB.out.size), HB1.out.trans ((HB.out.trans (HBi.out.mono HB.out.size)).mono (Nat.le_of_lt HZ.out))⟩
    | succ i =>
      have hf' := hf.trans (congrArg (Value.int .i64) (show ((i + 1 : Nat) : Int) - 1 = (i : Int) by omega))
      clear hf
      subst hf'
      have hi : i < o.length := by omega
      have hi0 : (0 : Int) ≤ (i : Int) := by omega
      have hi1 : (i : Int) < (o.length : Int) := by omega
      have hq := cN_bd (l := l) ho60 (i + 1)
      have hx1 : xs[i + 1]? = some (.int .i64 (cN (cst l o (i + 1)))) := HT.out (i + 1) (Nat.le_refl _) (by omega)
      have c1 : wr.cell? ⟨ga, i + 1, none⟩ = some (.int .i64 (cN (cst l o (i + 1)))) := by rw [HA.out.cellAt (i + 1) (by omega)]; exact hx1
      clear hx1
      have HS0 := Lib.hid (cN_zero (l := l) hi)
      have HS1 := Lib.hid (sc_zero_n (l := l) hi)
      obtain ⟨z0, d0⟩ : ∃ z, wr.cell? ⟨ga, i, none⟩ = some z := by
        rw [HA.out.cellAt i (by omega)]; exact ⟨_, List.getElem?_eq_getElem (by omega)⟩
      obtain ⟨z1, e1⟩ : ∃ z, wr.cell? ⟨gb, i * 3, none⟩ = some z := by
        rw [HY.out.cellAt (i * 3) (by omega)]; exact ⟨_, List.getElem?_eq_getElem (by omega)⟩
      obtain ⟨z2, e2⟩ : ∃ z, wr.cell? ⟨gb, i * 3 + 1, none⟩ = some z := by
        rw [HY.out.cellAt (i * 3 + 1) (by omega)]; exact ⟨_, List.getElem?_eq_getElem (by omega)⟩
      obtain ⟨z3, e3⟩ : ∃ z, wr.cell? ⟨gb, i * 3 + 2, none⟩ = some z := by
        rw [HY.out.cellAt (i * 3 + 2) (by omega)]; exact ⟨_, List.getElem?_eq_getElem (by omega)⟩
      have f0 := HA.out.frozenAt i
      have f1 := HY.out.frozenAt (i * 3)
      have f2 := HY.out.frozenAt (i * 3 + 1)
      have f3 := HY.out.frozenAt (i * 3 + 2)
      generalize cN (cst l o (i + 1)) = q at c1 hq HS0
      obtain ⟨hq0, hq1⟩ := hq
      have HXL := Lib.hid hxl; have HYL := Lib.hid hyl
      clear hxl hyl
      go_upto_region 10 with fail
      have sA := HA.out.stored i (.int .i64 (q + 1001))
      have hY1 := HY.out.kept sA.2 (.inr (fun e => hne2 (Option.some.inj e)))
      have sB1 := hY1.stored (i * 3) (.int .i64 (i : Int))
      have hA2 := sA.1.kept sB1.2 (.inr (fun e => hne (Option.some.inj e)))
      have sB2 := sB1.1.stored (i * 3 + 1) (.int .i64 1)
      have hA3 := hA2.kept sB2.2 (.inr (fun e => hne (Option.some.inj e)))
      have sB3 := sB2.1.stored (i * 3 + 2) (.string ⟨#[]⟩)
      have hA4 := hA3.kept sB3.2 (.inr (fun e => hne (Option.some.inj e)))
      have HA4 := Lib.hid hA4; have HY4 := Lib.hid sB3.1
      have HGA := Lib.hid (HA.out.lt ga rfl).1; have HGB := Lib.hid (HY.out.lt gb rfl).1
      clear sA hY1 sB1 hA2 sB2 hA3 sB3 hA4 c1 d0 e1 e2 e3 f0 f1 f2 f3
      go_loopw [10] (fun c wr => ∃ (k : Nat) (xs ys : List Value), 1 ≤ k ∧ k ≤ min 6 (o.length - i) + 1 ∧ c = .int .i64 (k : Int) ∧ Hid (wr.ownsRow W0.heap.size 3 1 (.slice (some ⟨ga, 0, none⟩) (o.length + 1) (o.length + 1)) (o.length + 1) xs) ∧ Hid (wr.ownsRow W0.heap.size 127 3 (.slice (some ⟨gb, 0, none⟩) o.length o.length) o.length ys) ∧ Hid (CTo cN l o xs (i + 1)) ∧ Hid (PTo l o ys (i + 1)) ∧ Hid (xs[i]? = some (.int .i64 (cN (sc l o i (k - 1))))) ∧ Hid (PcAt ys i (pcOf l o i (sc l o i (k - 1)).2.2)) ∧ Below W0.heap.size W0 wr) (fun c _ => (7 - intOf c).toNat)
      case atStart =>
        refine ⟨1, _, _, Nat.le_refl _, by omega, rfl, HA4, HY4, Lib.hid HT.out.set, Lib.hid (HP.out.set (p := ((i : Int), 1, ⟨#[]⟩))), Lib.hid ?_, Lib.hid ?_, ?_⟩
        · show (xs.set i _)[i]? = _
          rw [List.getElem?_set_self (by rw [HXL.out]; omega)]
          show _ = some (Value.int .i64 (cN (sc l o i 0)))
          rw [HS0.out]
        · show PcAt _ i (pcOf l o i (sc l o i 0).2.2)
          rw [HS1.out, pcOf_zero]
          exact PcAt.set (p := ((i : Int), 1, ⟨#[]⟩)) (by rw [HYL.out]; omega)
        · exact (((HB.out.setCell HGA.out _).setCell HGB.out _).setCell HGB.out _).setCell HGB.out _
      clear HA4 HY4 HS0 HS1 HA HY HT HP HB HXL HYL
      case round =>
        obtain ⟨k, xs, ys, hk1, hk2, rfl, HA, HY, HT, HP, HX, HPx, hb⟩ := hrel
        have HB := Lib.hid hb; clear hb
        by_cases hkm : k ≤ min 6 (o.length - i)
        · have htest : (k : Int) ≤ min 6 ((o.length : Int) - (i : Int)) := by omega
          have hfit : i + k ≤ o.length := by omega
          obtain ⟨bo, oo, rfl⟩ := HAO.out (by omega)
          have hw2 : IntKind.i64.wrap ((i : Int) + (k : Int)) = (i : Int) + (k : Int) := IntWalk.i64_in _ (by omega)
          have hf1 : ¬ (o.length : Int) < (i : Int) + (k : Int) := by omega
          have hf2 : (i : Int) + (k : Int) ≤ (o.length : Int) := by omega
          have hf3 : (i : Int) ≤ (i : Int) + (k : Int) := by omega
          have hf5 : (o.length : Int) ≤ (co : Int) := by omega
          have hf6 : ¬ co = i := by omega
          have hf7 : ¬ i = co := by omega
          have hf8 : i < co := by omega
          have hf9 : ¬ co - i = 0 := by omega
          have hf10 : ¬ co ≤ i := by omega
          have hf11 : (i : Int) + (k : Int) ≤ (co : Int) := by omega
          have hf12 : ((i : Int) + (k : Int)).toNat - i = k := by omega
          have HRP := Lib.hid (rows_part (show Rows wr.drew (.slice (some ⟨bo, oo, none⟩) o.length co) o.length 1 (ints o) from Rows.drew (HO1.out.keep HB.out) 1) i k hfit)
          have HF2 := Lib.hid (fun W h1 h2 => lookup_any (.slice a l.length cap) (.slice (some ⟨bo, oo + i, none⟩) k (co - i)) l ((o.drop i).take k) W h1 hl HF.out h2)
          have HEr := Lib.hid (show Ents wr.drew (.slice a l.length cap) l from Ents.drew (HE1.out.keep HB.out) 1)
          have q0 := keepcT HB.out HC1.out
          have hqa := cN_bd (l := l) ho60 (i + k)
          have hqb := cN_scbd (l := l) ho60 hi (show k - 1 ≤ 6 by omega) (by omega)
          have hxa : xs[i + k]? = some (.int .i64 (cN (cst l o (i + k)))) := HT.out (i + k) (by omega) hfit
          have HPS := Lib.hid (pcOf_some l o i k hk1)
          have EY : Pl.hasD l ((o.drop i).take k) = true → cN (cst l o (i + k)) + 1 ≤ cN (sc l o i (k - 1)) → cN (sc l o i k) = cN (cst l o (i + k)) + 1 ∧ (sc l o i k).2.2 = k := by
            obtain ⟨m, rfl⟩ : ∃ m, k = m + 1 := ⟨k - 1, by omega⟩
            exact fun h1 h2 => ⟨(cN_yes hfit h1 h2).1, (cN_yes hfit h1 h2).2.2⟩
          have EN : ¬ (Pl.hasD l ((o.drop i).take k) = true ∧ cN (cst l o (i + k)) + 1 ≤ cN (sc l o i (k - 1))) → sc l o i k = sc l o i (k - 1) := by
            obtain ⟨m, rfl⟩ : ∃ m, k = m + 1 := ⟨k - 1, by omega⟩
            exact fun h => cN_no hfit h
          replace EY := Lib.hid EY
          replace EN := Lib.hid EN
          obtain ⟨qb, hqbE⟩ : ∃ q, cN (sc l o i (k - 1)) = q := ⟨_, rfl⟩
          rw [hqbE] at hqb EY EN HX
          have HQB := Lib.hid hqbE
          clear hqbE
          generalize cN (cst l o (i + k)) = qa at hqa hxa EY EN
          generalize Pl.textD l ((o.drop i).take k) = tx at HF2 HPS
          generalize Pl.hasD l ((o.drop i).take k) = y at HF2 EY EN
          obtain ⟨hqa0, hqa1⟩ := hqa
          obtain ⟨hqb0, hqb1⟩ := hqb
          have HXA := Lib.hid hxa
          clear hxa
          have HXL := Lib.hid (show xs.length = o.length + 1 by have := HA.out.1; omega)
          have HYL := Lib.hid (show ys.length = o.length * 3 from HY.out.1)
          go_upto_region 12 with fail
          go_region_held3 (fun w' => w'.cell? ⟨w.heap.size, 0, none⟩ = some (.slice a l.length cap)) (first | exact q1 | exact q0) (first | (go_at_call 85; (with_reducible refine (HF2.out _ HEr.out HRP.out).mono ?_); rintro e w2 ⟨rfl, hb2⟩; have q1 := keepcT hb2 q0; have HA2 := Lib.hid (own_keep (own_drewN HA.out 1) hb2); have HY2 := Lib.hid (own_keep (own_drewN HY.out 1) hb2); have HB2 := Lib.hid ((below_drew1 HB.out).trans (hb2.mono HB.out.size)); clear hb2))
          have ca : w2.cell? ⟨ga, i + k, none⟩ = some (.int .i64 qa) := by rw [HA2.out.cellAt (i + k) (by omega)]; exact HXA.out
          have cb : w2.cell? ⟨ga, i, none⟩ = some (.int .i64 qb) := by rw [HA2.out.cellAt i (by omega)]; exact HX.out
          have hi2 : (i : Int) + (k : Int) < (o.length : Int) + 1 := by omega
          have hi3 : (0 : Int) ≤ (i : Int) + (k : Int) := by omega
          have hi4 : (i : Int) < (o.length : Int) + 1 := by omega
          clear hf1 hf3 hf5 hf6 hf7 hf8 hf9 hf10 hf11 hf12 HRP HF2 HEr HA HY HB
          cases y
          · have E := Lib.hid (EN.out (fun h => absurd h.1 (by decide)))
            go_wp2
            go_roundw
            case rel => exact ⟨k + 1, xs, ys, by omega, by omega, by go_num, HA2, HY2, HT, HP, Lib.hid (by show xs[i]? = some (Value.int .i64 (cN (sc l o i k))); rw [E.out, HQB.out]; exact HX.out), Lib.hid (by show PcAt ys i (pcOf l o i (sc l o i k).2.2); rw [E.out]; exact HPx.out), HB2.out⟩
            case measure => simp [intOf]; omega
          · by_cases hle : qa + 1 ≤ qb
            · obtain ⟨E1, E2⟩ := EY.out rfl hle
              replace E1 := Lib.hid E1
              replace E2 := Lib.hid E2
              obtain ⟨z1, e1⟩ : ∃ z, w2.cell? ⟨gb, i * 3, none⟩ = some z := by
                rw [HY2.out.cellAt (i * 3) (by omega)]; exact ⟨_, List.getElem?_eq_getElem (by rw [HYL.out]; omega)⟩
              obtain ⟨z2, e2⟩ : ∃ z, w2.cell? ⟨gb, i * 3 + 1, none⟩ = some z := by
                rw [HY2.out.cellAt (i * 3 + 1) (by omega)]; exact ⟨_, List.getElem?_eq_getElem (by rw [HYL.out]; omega)⟩
              obtain ⟨z3, e3⟩ : ∃ z, w2.cell? ⟨gb, i * 3 + 2, none⟩ = some z := by
                rw [HY2.out.cellAt (i * 3 + 2) (by omega)]; exact ⟨_, List.getElem?_eq_getElem (by rw [HYL.out]; omega)⟩
              have f0 := HA2.out.frozenAt i
              have f1 := HY2.out.frozenAt (i * 3)
              have f2 := HY2.out.frozenAt (i * 3 + 1)
              have f3 := HY2.out.frozenAt (i * 3 + 2)
              go_wp2
              go_roundw
              case rel =>
                have sA := HA2.out.stored i (.int .i64 (qa + 1))
                have hY1 := HY2.out.kept sA.2 (.inr (fun e => hne2 (Option.some.inj e)))
                have sB1 := hY1.stored (i * 3) (.int .i64 (i : Int))
                have hA2 := sA.1.kept sB1.2 (.inr (fun e => hne (Option.some.inj e)))
                have sB2 := sB1.1.stored (i * 3 + 1) (.int .i64 (k : Int))
                have hA3 := hA2.kept sB2.2 (.inr (fun e => hne (Option.some.inj e)))
                have sB3 := sB2.1.stored (i * 3 + 2) (.string tx)
                have hA4 := hA3.kept sB3.2 (.inr (fun e => hne (Option.some.inj e)))
                refine ⟨k + 1, _, _, by omega, by omega, by go_num, Lib.hid hA4, Lib.hid sB3.1, Lib.hid HT.out.set, Lib.hid (HP.out.set (p := ((i : Int), (k : Int), tx))), Lib.hid ?_, Lib.hid ?_, ?_⟩
                · show (xs.set i _)[i]? = some (Value.int .i64 (cN (sc l o i k)))
                  rw [List.getElem?_set_self (by rw [HXL.out]; omega), E1.out]
                · show PcAt _ i (pcOf l o i (sc l o i k).2.2)
                  rw [E2.out, HPS.out]
                  exact PcAt.set (p := ((i : Int), (k : Int), tx)) (by rw [HYL.out]; omega)
                · exact (((HB2.out.setCell HGA.out _).setCell HGB.out _).setCell HGB.out _).setCell HGB.out _
              case measure => simp [intOf]; omega
            · have E := Lib.hid (EN.out (fun h => hle h.2))
              go_wp2
              go_roundw
              case rel => exact ⟨k + 1, xs, ys, by omega, by omega, by go_num, HA2, HY2, HT, HP, Lib.hid (by show xs[i]? = some (Value.int .i64 (cN (sc l o i k))); rw [E.out, HQB.out]; exact HX.out), Lib.hid (by show PcAt ys i (pcOf l o i (sc l o i k).2.2); rw [E.out]; exact HPx.out), HB2.out⟩
              case measure => simp [intOf]; omega
        · have htest : ¬ (k : Int) ≤ min 6 ((o.length : Int) - (i : Int)) := by omega
          have hk3 : min 6 (o.length - i) = k - 1 := by omega
          have EC := Lib.hid (show cst l o i = sc l o i (k - 1) by rw [cst_sc l o i hi, hk3])
          clear hk3
          go_wp2
          go_roundw
          case rel => exact ⟨i, xs, ys, by omega, rfl, HA, HY, Lib.hid (HT.out.done (by rw [EC.out]; exact HX.out)), Lib.hid (HP.out.done (by rw [EC.out]; exact HPx.out)), HB.out⟩
          case measure => first | (simp [intOf]; done) | (simp [intOf]; omega)

end Go.Proofs.YtkbbcmbeafjpaaaGreatDoor
