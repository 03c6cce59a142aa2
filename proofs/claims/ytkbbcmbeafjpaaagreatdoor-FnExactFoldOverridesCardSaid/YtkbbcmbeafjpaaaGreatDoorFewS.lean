/-
  CONTRACT: FewestPieces of the reference.
-/
import Derived.Test.YtkbbcmbeafjpaaaGreatDoorFewI
import Derived.Test.YtkbbcmbeafjpaaaGreatDoorNestM
namespace Go.Proofs.YtkbbcmbeafjpaaaGreatDoor
open Go.RowKit

/-- a table of the first pieces' lengths, filled from j on -/
def TTo (l : List Ent) (o : List Int) (xs : List Value) (j : Nat) : Prop := ∀ i, j ≤ i → i < o.length → xs[i]? = some (.int .i64 ((cst l o i).2.2 : Nat))
theorem TTo.set {l : List Ent} {o : List Int} {xs : List Value} {i : Nat} {v : Value} (h : TTo l o xs (i + 1)) : TTo l o (xs.set i v) (i + 1) := fun j h1 h2 => by
  rw [List.getElem?_set_ne (by omega)]; exact h j h1 h2
theorem TTo.done {l : List Ent} {o : List Int} {xs : List Value} {i : Nat} (h : TTo l o xs (i + 1)) (hx : xs[i]? = some (.int .i64 ((cst l o i).2.2 : Nat))) : TTo l o xs i := fun j h1 h2 => by
  by_cases e : j = i
  · rw [e]; exact hx
  · exact h j (by omega) h2
theorem TTo.start (l : List Ent) (o : List Int) (ys : List Value) : TTo l o ys o.length := fun i h1 h2 => by omega

set_option maxHeartbeats 400000 in
theorem l1Most_any (a b : Int) (w : World) :
    Calls Tryz.prog 96 #[.int .i64 a, .int .i64 b] w fun e w' => e = .returned (.int .i64 (if b < a then a else b)) ∧ w = w' := by
  by_cases h : b < a
  · have E := Lib.hid (show (if b < a then a else b) = a from if_pos h)
    go_enter Tryz.func96, Tryz.ntmps96
    go_wp2
    go_ret
    exact ⟨by first | rfl | exact ret_int E.out.symm, rfl⟩
  · have E := Lib.hid (show (if b < a then a else b) = b from if_neg h)
    go_enter Tryz.func96, Tryz.ntmps96
    go_wp2
    go_ret
    exact ⟨by first | rfl | exact ret_int E.out.symm, rfl⟩
theorem keepb {B : Nat} {w w' : World} (hb : Below B w w') {b o : Nat} {u : Value} (h : w.cell? ⟨b, o, none⟩ = some u) (hB : b < B) : w'.cell? ⟨b, o, none⟩ = some u := (hb.cell (p := ⟨b, o, none⟩) hB).trans h
theorem grown_setF (w : World) (g i : Nat) (u : Value) : w.grownBy (w.setCell ⟨g, i, none⟩ u) (some g) :=
  ⟨rfl, rfl, rfl, by simp [World.setCell], fun j _ hne => Below.heap_setCell _ _ _ _ (fun e => hne (by rw [e]))⟩
theorem cell_set_ne {w : World} {B i b o : Nat} {u x : Value} (h : w.cell? ⟨b, o, none⟩ = some u) (hne : b ≠ B) : (w.setCell ⟨B, i, none⟩ x).cell? ⟨b, o, none⟩ = some u := (grown_setF w B i x).cell h (fun e => hne (Option.some.inj e))
theorem own_not {w : World} {base : Nat} {E : TypeId} {size n B : Nat} {v : Value} {xs : List Value} (h : w.ownsRow base E size v n xs) (hB : w.heap.size ≤ B) : v.ownBlock = none ∨ v.ownBlock ≠ some B := by
  rcases own_block h with h | ⟨g, h, _, h3⟩
  · exact .inl h
  · exact .inr (fun e => by rw [h] at e; have := Option.some.inj e; omega)
theorem most_pcN (n : Nat) : (if (1 : Int) < (n : Int) then (n : Int) else 1) = (pcN n : Nat) := by
  unfold pcN
  by_cases h : n = 0
  · subst h; rfl
  · rw [if_neg h]
    split <;> omega

set_option maxRecDepth 100000 in
set_option maxHeartbeats 6400000 in
theorem specFewestPieces_any (v vo : Value) (l : List Ent) (o : List Int) (w : World) (hr : Ents w v l) (hl : l.length ≤ 1048576) (hs : ∀ p ∈ l, p.1.length ≤ 1048576 ∧ p.2.size ≤ 1048576) (ho : Rows w vo o.length 1 (ints o)) (hol : o.length ≤ 1048576) :
    Calls Tryz.prog 38 #[.agg #[v], vo] w (RetPcs w (fewOut l o) (matOk l o)) := by
  have HB0 := Lib.hid (Joins.below_alloc2 w (.cells #[v] 41) (.cells #[] 127))
  have HE := Lib.hid (hr.keep HB0.out)
  have HO := Lib.hid (ho.keep HB0.out)
  have HV := Lib.hid (l6Good_any v l _ HE.out hl hs)
  have HS := Lib.hid (fun W h => l11Strokes_any vo o W h hol)
  have HF := Lib.hid (fun p hp => (hs p hp).1)
  have E0 := Lib.hid (show matOk l o = (Pl.dictOk l && strokesOk o) from rfl)
  have E := Lib.hid (show fewOut l o = if matOk l o = true then fews l o else [] from rfl)
  obtain ⟨a, cap, rfl, _, _⟩ := ent_form hr
  obtain ⟨ao, co, rfl, hco, _⟩ := rows_form ho
  have HAO := Lib.hid (show 0 < o.length → ∃ bo oo, ao = some ⟨bo, oo, none⟩ by
    intro h
    obtain ⟨a1, c1, h1, _, _, _, _, h6⟩ := ho
    cases h1
    obtain ⟨b1, o1, e1, _⟩ := h6 _ _ (ints_at o 0 h)
    exact ⟨b1, o1, e1⟩)
  have HC := Lib.hid (show ((w.alloc (.cells #[.slice a l.length cap] 41)).alloc (.cells #[] 127)).cell? ⟨w.heap.size, 0, none⟩ = some (.slice a l.length cap) by simp [go_sem])
  have HR := Lib.hid (show ((w.alloc (.cells #[.slice a l.length cap] 41)).alloc (.cells #[] 127)).ownsRow (w.heap.size + 1) 127 3 (.slice (some ⟨w.heap.size + 1, 0, none⟩) 0 0) 0 [] by
    have h := World.ownsRow_made (base := w.heap.size + 1) (e := 127) (size := 3) (w.alloc (.cells #[.slice a l.length cap] 41)) #[] 0 (by rw [World.size_alloc]; exact Nat.le_refl _) (by unfold maxLen; omega) rfl
    rw [World.size_alloc] at h
    exact h)
  have HE00 := Lib.hid hr; have HO00 := Lib.hid ho
  clear hr hs ho
  cases hx : Pl.dictOk l
  · rw [hx] at HV
    have hmx : matOk l o = false := by rw [E0.out, hx]; rfl
    have E1 : fewOut l o = [] := by rw [E.out, hmx]; rfl
    rw [E1, hmx]
    clear E E0 E1 hx hmx
    go_enter Tryz.func38, Tryz.ntmps38
    go_wp2_with (go_at_call 82; (with_reducible refine HV.out.mono ?_); rintro e w1 ⟨rfl, hb1⟩; have HR1 := Lib.hid (own_keep HR.out hb1); have HB1 := Lib.hid (HB0.out.trans (hb1.mono HB0.out.size)); clear hb1)
    go_ret2
    exact ⟨_, rfl, own_base HR1.out (Nat.le_succ _), HB1.out⟩
  rw [hx] at HV
  cases hy : strokesOk o
  · rw [hy] at HS
    have hmx : matOk l o = false := by rw [E0.out, hx, hy]; rfl
    have E1 : fewOut l o = [] := by rw [E.out, hmx]; rfl
    rw [E1, hmx]
    clear E E0 E1 hx hy hmx
    go_enter Tryz.func38, Tryz.ntmps38
    go_wp2_with (first
      | (go_at_call 87; (with_reducible refine (HS.out _ HO1.out).mono ?_); rintro e w' ⟨rfl, rfl⟩)
      | (go_at_call 82; (with_reducible refine HV.out.mono ?_); rintro e w1 ⟨rfl, hb1⟩; have HO1 := Lib.hid (HO.out.keep hb1); have HR1 := Lib.hid (own_keep HR.out hb1); have HB1 := Lib.hid (HB0.out.trans (hb1.mono HB0.out.size)); clear hb1))
    go_ret2
    exact ⟨_, rfl, own_base HR1.out (Nat.le_succ _), HB1.out⟩
  rw [hy] at HS
  have hmx : matOk l o = true := by rw [E0.out, hx, hy]; rfl
  have ho60 := (matOk_told hmx).2.1
  have E1 : fewOut l o = fews l o := by rw [E.out, hmx]; rfl
  rw [E1, hmx]
  clear E E0 E1 hx hy hmx
  go_enter Tryz.func38, Tryz.ntmps38
  go_upto_region 4 with (first
      | (go_at_call 87; (with_reducible refine (HS.out _ HO1.out).mono ?_); rintro e w' ⟨rfl, rfl⟩)
      | (go_at_call 82; (with_reducible refine HV.out.mono ?_); rintro e W0 ⟨rfl, hb1⟩; have HE1 := Lib.hid (HE.out.keep hb1); have HO1 := Lib.hid (HO.out.keep hb1); have HC1 := Lib.hid (keepcT hb1 HC.out); have HR1 := Lib.hid (own_keep HR.out hb1); have HZ := Lib.hid (show w.heap.size < W0.heap.size from Nat.lt_of_lt_of_le (by rw [World.size_alloc, World.size_alloc]; omega) hb1.size); have HZ1 := Lib.hid (show w.heap.size + 1 < W0.heap.size from Nat.lt_of_lt_of_le (by rw [World.size_alloc, World.size_alloc]; omega) hb1.size); have HB1 := Lib.hid (HB0.out.trans (hb1.mono HB0.out.size)); clear hb1))
  clear HB0 HE HO HC HV HS HR
  have HMK1 : ∀ W : World, (Instr.makeSlice 25 (.int .i64 ((o.length : Int) + 1)) (.int .i64 ((o.length : Int) + 1))).run Tryz.prog W = .ok (.slice (some ⟨W.heap.size, 0, none⟩) (o.length + 1) (o.length + 1)) (W.alloc (.cells (madeCells #[.int .i64 0] ((o.length + 1) * 1)) 3)) := fun W => run_ints (o.length + 1) (by omega) W
  go_upto_region 6 with fail
  obtain ⟨qA, qB, qW⟩ := own_two (W0 := W0) (E1 := 3) (E2 := 3) (s1 := 1) (s2 := 1) (n1 := o.length + 1) (n2 := o.length + 1) (z1 := #[.int .i64 0]) (z2 := #[.int .i64 0]) (by unfold maxLen; omega) (by unfold maxLen; omega) (madeCells #[.int .i64 0] (o.length + 1)) (madeCells #[.int .i64 0] (o.length + 1)) (by rw [Nat.mul_one]) (by rw [Nat.mul_one])
  have HA := Lib.hid qA; have HY := Lib.hid qB; have HBW := Lib.hid qW
  have HT := Lib.hid (CTo.start (f := cM) (l := l) (o := o) rfl (made_zero1 (o.length + 1) o.length (by omega)))
  have HRw := Lib.hid (own_keep (own_keep HR1.out (Joins.below_alloc1 W0 (.cells (madeCells #[.int .i64 0] (o.length + 1)) 3))) (Joins.below_alloc1 _ (.cells (madeCells #[.int .i64 0] (o.length + 1)) 3)))
  clear qA qB qW HMK1
  generalize (madeCells #[.int .i64 0] (o.length + 1)).toList = zs at HA HY HT
  have hne : W0.heap.size ≠ W0.heap.size + 1 := by omega
  have hneR : w.heap.size + 1 ≠ W0.heap.size := by have := HZ1.out; omega
  have hneR2 : w.heap.size + 1 ≠ W0.heap.size + 1 := by have := HZ1.out; omega
  have hne2 : W0.heap.size + 1 ≠ W0.heap.size := by omega
  go_upto_region 7 with fail
  go_loopw [9] (fun f wr => ∃ (j : Nat) (xs ys : List Value), j ≤ o.length ∧ f = .int .i64 ((j : Int) - 1) ∧ Hid (wr.ownsRow W0.heap.size 3 1 (.slice (some ⟨W0.heap.size, 0, none⟩) (o.length + 1) (o.length + 1)) (o.length + 1) xs) ∧ Hid (wr.ownsRow W0.heap.size 3 1 (.slice (some ⟨W0.heap.size + 1, 0, none⟩) (o.length + 1) (o.length + 1)) (o.length + 1) ys) ∧ Hid (CTo cM l o xs j) ∧ Hid (TTo l o ys j) ∧ Hid (wr.ownsRow (w.heap.size + 1) 127 3 (.slice (some ⟨w.heap.size + 1, 0, none⟩) 0 0) 0 []) ∧ Below W0.heap.size W0 wr) (fun f _ => (intOf f + 1).toNat)
  case atStart => exact ⟨o.length, _, _, Nat.le_refl _, rfl, HA, HY, HT, Lib.hid (TTo.start l o _), HRw, HBW.out⟩
  clear HA HY HT HBW HRw HR1
  case round =>
    obtain ⟨j, xs, ys, hj, hf, HA, HY, HT, HP, HRw, hb⟩ := hrel
    have HB := Lib.hid hb; clear hb
    have hxl : xs.length = o.length + 1 := by have := HA.out.1; omega
    have hyl : ys.length = o.length + 1 := by have := HY.out.1; omega
    cases j with
    | zero =>
      have hf' := hf.trans (congrArg (Value.int .i64) (show ((0 : Nat) : Int) - 1 = -1 by omega))
      clear hf
      subst hf'
      clear hj HA HT hxl
      obtain ⟨W2, rfl⟩ : ∃ W2, W2 = wr := ⟨wr, rfl⟩
      go_upto_region 19 with fail
      go_loopw [6, 13] (fun out f wr => ∃ (L : List Pc) (b : Nat), b ≤ o.length ∧ f = .int .i64 b ∧ Hid (wr.ownsRow (w.heap.size + 1) 127 3 out L.length (pieces L)) ∧ Hid (FewTo l o L b) ∧ Hid (wr.ownsRow W0.heap.size 3 1 (.slice (some ⟨W0.heap.size + 1, 0, none⟩) (o.length + 1) (o.length + 1)) (o.length + 1) ys) ∧ Hid (wr.cell? ⟨w.heap.size, 0, none⟩ = some (.slice a l.length cap)) ∧ Below w.heap.size w wr) (fun _ f _ => o.length - (intOf f).toNat)
      case atStart => exact ⟨[], 0, Nat.zero_le _, rfl, HRw, Lib.hid (few_start l o), HY, Lib.hid (keepb HB.out HC1.out HZ.out), HB1.out.trans (HB.out.mono (Nat.le_of_lt HZ.out))⟩
      clear HY HRw
      case round =>
        obtain ⟨L, b, hb, rfl, HL, HT, HY, HD, hbw⟩ := hrel
        have HBi := Lib.hid hbw; clear hbw
        obtain ⟨al, cl, rfl⟩ := row_formD HL.out
        by_cases hlt : b < o.length
        · have hki : (b : Int) < (o.length : Int) := by omega
          have hki2 : (b : Int) < (o.length : Int) + 1 := by omega
          have hb0 : (0 : Int) ≤ (b : Int) := by omega
          have ht := HP.out b (Nat.zero_le _) hlt
          have HS := Lib.hid (few_step HT.out hlt)
          obtain ⟨hn1, hn2⟩ := few_next_le l o b hlt
          have hll : L.length ≤ b := HT.out.2
          have hc6 := (cst_le l o _ b rfl).2.2
          have HMo := Lib.hid (fun W => l1Most_any (((cst l o b).2.2 : Nat) : Int) 1 W)
          rw [most_pcN] at HMo
          have HYL := Lib.hid (show ys.length = o.length + 1 from hyl)
          have HZI := Lib.hid (show w.heap.size + 1 ≤ wr.heap.size from Nat.succ_le_of_lt (World.block_lt_of_cell? _ _ HD.out))
          clear HT
          generalize (cst l o b).2.2 = c at ht HS hn1 hn2 hc6 HMo
          have q0 := HD.out
          have hYlt : W0.heap.size + 1 < wr.heap.size := (HY.out.lt (W0.heap.size + 1) rfl).2
          have hYne : ¬ W0.heap.size + 1 = wr.heap.size := by omega
          have hYne2 : ¬ wr.heap.size = W0.heap.size + 1 := by omega
          by_cases hc0 : c = 0
          · subst hc0
            rw [pcOf_zero] at HS
            replace HS : Hid (FewTo l o (L ++ [((b : Int), 1, ⟨#[]⟩)]) (b + 1)) := HS
            replace HMo : Hid (∀ W, Calls Tryz.prog 96 #[.int .i64 0, .int .i64 1] W fun e w' => e = .returned (.int .i64 1) ∧ W = w') := HMo
            have ct : wr.cell? ⟨W0.heap.size + 1, b, none⟩ = some (.int .i64 0) := by rw [HY.out.cellAt b (by omega)]; exact ht
            have HTT := Lib.hid (show ys[b]? = some (.int .i64 0) from ht)
            clear ht hn1 hn2 hc6
            go_wp2_with (first
              | (go_at_call 96; (with_reducible refine (HMo.out _).mono ?_); rintro e w3 ⟨rfl, rfl⟩)
              | (at_builtin; have HL2 := HL; refine app_piece rfl _ _ rfl (w.heap.size + 1) _ L.length (pieces L) rfl ((HL2.out.alloc _).alloc _) ⟨_, 0, none⟩ 1 (b : Int) 1 ⟨#[]⟩ rfl (piece_newsB _ _ _ _ _ _ (World.size_alloc _ _).symm) (by omega) (by have := HZI.out; simp; omega) ?_; intro v2 w2 hown2 hg2; have HD4 := Lib.hid (hg2.cell (keepcT (Joins.below_alloc2 wr (.cells #[.int .i64 (b : Int), .int .i64 1, .string ⟨#[]⟩] 127) (.cells #[.int .i64 (b : Int), .int .i64 1, .string ⟨#[]⟩] 127)) HD.out) (fun e => absurd (HL2.out.lt w.heap.size e.symm).1 (by omega))); have HY4 := Lib.hid (((HY.out.alloc (.cells #[.int .i64 (b : Int), .int .i64 1, .string ⟨#[]⟩] 127)).alloc (.cells #[.int .i64 (b : Int), .int .i64 1, .string ⟨#[]⟩] 127)).kept hg2 (.inr (fun e => apart_type HY.out HL2.out (by decide) _ rfl e.symm))); have pc1 : w2.cell? ⟨W0.heap.size + 1, b, none⟩ = some (.int .i64 0) := (by rw [HY4.out.cellAt b (by omega)]; exact HTT.out)))
            go_roundw
            case rel =>
              have h2 : w2.ownsRow (w.heap.size + 1) 127 3 v2 (L ++ [((b : Int), (1 : Int), (⟨#[]⟩ : ByteArray))]).length (pieces (L ++ [((b : Int), (1 : Int), (⟨#[]⟩ : ByteArray))])) := by
                rw [List.length_append, pieces_snoc]; exact hown2
              exact ⟨_, b + 1, by omega, by go_num, Lib.hid h2, HS, HY4, HD4, ((HBi.out.alloc HBi.out.size _).alloc (by have := HBi.out.size; simp; omega) _).grown hg2 (by have := HBi.out.size; simp; omega) (fun j hj => Nat.le_trans (Nat.le_succ _) (HL.out.lt j hj).1)⟩
            case measure => simp [intOf]; omega
          · have hc1 : 1 ≤ c := by omega
            have hci : (0 : Int) < (c : Int) := by omega
            rw [pcOf_some l o b c hc1] at HS
            have hpn : pcN c = c := if_neg hc0
            rw [hpn] at HS HMo hn2
            have hfit : b + c ≤ o.length := hn2
            have ct : wr.cell? ⟨W0.heap.size + 1, b, none⟩ = some (.int .i64 (c : Int)) := by rw [HY.out.cellAt b (by omega)]; exact ht
            have HTT := Lib.hid ht
            clear ht hn1 hn2 hc6 hpn hc0
            obtain ⟨bo, oo, rfl⟩ := HAO.out (by omega)
            go_upto_region 23 with fail
            obtain ⟨W1, hW1⟩ : ∃ W1, W1 = wr.alloc (.cells #[.int .i64 (b : Int), .int .i64 (c : Int), .string ⟨#[]⟩] 127) := ⟨_, rfl⟩
            have hbW : Below wr.heap.size wr W1 := by rw [hW1]; exact Joins.below_alloc1 wr _
            have g0 : W1.cell? ⟨wr.heap.size, 0, none⟩ = some (.int .i64 (b : Int)) := by rw [hW1]; simp [go_sem]
            have g1 : W1.cell? ⟨wr.heap.size, 1, none⟩ = some (.int .i64 (c : Int)) := by rw [hW1]; simp [go_sem]
            have g2 : W1.cell? ⟨wr.heap.size, 2, none⟩ = some (.string ⟨#[]⟩) := by rw [hW1]; simp [go_sem]
            have gf : W1.frozen? ⟨wr.heap.size, 2, none⟩ = false := by rw [hW1]; simp [go_sem]
            have hzW : wr.heap.size < W1.heap.size := by rw [hW1]; simp
            have q1 := keepcT hbW q0
            have t1 := keepcT hbW ct
            have HL1 := Lib.hid (own_keep HL.out hbW)
            have HY1 := Lib.hid (own_keep HY.out hbW)
            have HB1w := Lib.hid (HBi.out.trans (hbW.mono HBi.out.size))
            have HEw := Lib.hid (show Ents W1.drew (.slice a l.length cap) l from Ents.drew (HE00.out.keep HB1w.out) 1)
            have HRP := Lib.hid (rows_part (show Rows W1.drew (.slice (some ⟨bo, oo, none⟩) o.length co) o.length 1 (ints o) from Rows.drew (HO00.out.keep HB1w.out) 1) b c hfit)
            have HF2 := Lib.hid (fun W h1 h2 => l6Find_any (.slice a l.length cap) (.slice (some ⟨bo, oo + b, none⟩) c (co - b)) l ((o.drop b).take c) W h1 hl HF.out h2)
            generalize Pl.textD l ((o.drop b).take c) = tx at HF2 HS
            generalize Pl.hasD l ((o.drop b).take c) = y at HF2
            have hw2 : IntKind.i64.wrap ((b : Int) + (c : Int)) = (b : Int) + (c : Int) := IntWalk.i64_in _ (by omega)
            have hf1 : ¬ (o.length : Int) < (b : Int) + (c : Int) := by omega
            have hf2 : (b : Int) + (c : Int) ≤ (o.length : Int) := by omega
            have hf3 : (b : Int) ≤ (b : Int) + (c : Int) := by omega
            have hf5 : (o.length : Int) ≤ (co : Int) := by omega
            have hf6 : ¬ co = b := by omega
            have hf7 : ¬ b = co := by omega
            have hf8 : b < co := by omega
            have hf9 : ¬ co - b = 0 := by omega
            have hf10 : ¬ co ≤ b := by omega
            have hf11 : (b : Int) + (c : Int) ≤ (co : Int) := by omega
            have hf12 : ((b : Int) + (c : Int)).toNat - b = c := by omega
            go_upto_region 24 with fail
            rw [← hW1]
            clear hW1 q0 ct
            have hDne : w.heap.size ≠ wr.heap.size := by have := HZI.out; omega
            go_region_held3 (fun w' => w'.cell? ⟨w.heap.size, 0, none⟩ = some (.slice a l.length cap) ∧ w'.cell? ⟨W0.heap.size + 1, b, none⟩ = some (.int .i64 (c : Int))) (first | exact ⟨q2, t2⟩ | exact ⟨q1, t1⟩ | exact ⟨cell_set_ne q2 hDne, cell_set_ne t2 hYne⟩) (first | (go_at_call 71; (with_reducible refine (HF2.out _ HEw.out HRP.out).mono ?_); rintro e w2 ⟨rfl, hb2⟩; have q2 := keepcT hb2 q1; have t2 := keepcT hb2 t1; have r0 := keepcT hb2 g0; have r1 := keepcT hb2 g1; have r2 := keepcT hb2 g2; have rf := ((bcell hb2).2 _ 2 hzW).trans gf; have HL2 := Lib.hid (own_keep (own_drewN HL1.out 1) hb2); have HY2 := Lib.hid (own_keep (own_drewN HY1.out 1) hb2); have HB2 := Lib.hid ((below_drew1 HB1w.out).trans (hb2.mono HB1w.out.size)); have HZ2 := Lib.hid hb2.size; clear hb2))
            clear hf1 hf2 hf3 hf5 hf6 hf7 hf8 hf9 hf10 hf11 hf12 HRP HF2 HEw
            have hnL := own_not HL.out (Nat.le_refl _)
            have hnY := own_not HY.out (Nat.le_refl _)
            go_wp2_with (first
              | (go_at_call 96; (with_reducible refine (HMo.out _).mono ?_); rintro e w4 ⟨rfl, rfl⟩)
              | (at_builtin; have HL3 := Lib.hid (HL2.out.kept (grown_setF w2 wr.heap.size 2 (.string tx)) hnL); refine app_piece rfl _ _ rfl (w.heap.size + 1) _ L.length (pieces L) rfl (HL3.out.alloc _) ⟨_, 0, none⟩ 1 (b : Int) (c : Int) tx rfl (piece_newsB _ _ _ _ _ _ (size_setCell _ _ _).symm) (by omega) (by rw [World.size_alloc, size_setCell]; have := HZI.out; have := HZ2.out; have h : W1.drew.heap.size = W1.heap.size := rfl; omega) ?_; intro v2 w3 hown2 hg2; have HY3 := Lib.hid (HY2.out.kept (grown_setF w2 wr.heap.size 2 (.string tx)) hnY); have HD4 := Lib.hid (hg2.cell (keepcT (Joins.below_alloc1 _ (.cells #[.int .i64 (b : Int), .int .i64 (c : Int), .string tx] 127)) (cell_set_ne q2 hDne)) (fun e => absurd (HL3.out.lt w.heap.size e.symm).1 (by omega))); have HY4 := Lib.hid ((HY3.out.alloc (.cells #[.int .i64 (b : Int), .int .i64 (c : Int), .string tx] 127)).kept hg2 (.inr (fun e => apart_type HY3.out HL3.out (by decide) _ rfl e.symm))); have pc1 : w3.cell? ⟨W0.heap.size + 1, b, none⟩ = some (.int .i64 (c : Int)) := (by rw [HY4.out.cellAt b (by omega)]; exact HTT.out)))
            go_roundw
            case rel =>
              have h2 : w3.ownsRow (w.heap.size + 1) 127 3 v2 (L ++ [((b : Int), (c : Int), tx)]).length (pieces (L ++ [((b : Int), (c : Int), tx)])) := by
                rw [List.length_append, pieces_snoc]; exact hown2
              have hb2 := (HB2.out.setCell (p := ⟨wr.heap.size, 2, none⟩) HBi.out.size (.string tx))
              exact ⟨_, b + c, by omega, by go_num, Lib.hid h2, HS, HY4, HD4, (hb2.alloc hb2.size _).grown hg2 (by rw [World.size_alloc]; exact Nat.le_succ_of_le hb2.size) (fun j hj => Nat.le_trans (Nat.le_succ _) (HL3.out.lt j hj).1)⟩
            case measure => simp [intOf]; omega
        · have E := Lib.hid (few_done HT.out (by omega))
          go_wp2
          go_ret2
          rw [← E.out]
          exact ⟨_, rfl, own_base HL.out (Nat.le_succ _), HBi.out⟩
    | succ i =>
      have hf' := hf.trans (congrArg (Value.int .i64) (show ((i + 1 : Nat) : Int) - 1 = (i : Int) by omega))
      clear hf
      subst hf'
      have hi : i < o.length := by omega
      have hi0 : (0 : Int) ≤ (i : Int) := by omega
      have hi1 : (i : Int) < (o.length : Int) := by omega
      have hq := cM_bd (l := l) ho60 (i + 1)
      have hx1 : xs[i + 1]? = some (.int .i64 (cM (cst l o (i + 1)))) := HT.out (i + 1) (Nat.le_refl _) (by omega)
      have c1 : wr.cell? ⟨W0.heap.size, i + 1, none⟩ = some (.int .i64 (cM (cst l o (i + 1)))) := by rw [HA.out.cellAt (i + 1) (by omega)]; exact hx1
      clear hx1
      have HS0 := Lib.hid (cM_zero (l := l) hi)
      have HS1 := Lib.hid (sc_zero_n (l := l) hi)
      obtain ⟨z0, d0⟩ : ∃ z, wr.cell? ⟨W0.heap.size, i, none⟩ = some z := by
        rw [HA.out.cellAt i (by omega)]; exact ⟨_, List.getElem?_eq_getElem (by omega)⟩
      obtain ⟨z1, e1⟩ : ∃ z, wr.cell? ⟨W0.heap.size + 1, i, none⟩ = some z := by
        rw [HY.out.cellAt i (by omega)]; exact ⟨_, List.getElem?_eq_getElem (by omega)⟩
      have f0 := HA.out.frozenAt i
      have f1 := HY.out.frozenAt i
      generalize cM (cst l o (i + 1)) = q at c1 hq HS0
      obtain ⟨hq0, hq1⟩ := hq
      have HXL := Lib.hid hxl; have HYL := Lib.hid hyl
      clear hxl hyl
      go_upto_region 12 with fail
      have sA := HA.out.stored i (.int .i64 (101 + q))
      have hY1 := HY.out.kept sA.2 (.inr (fun e => hne2 (Option.some.inj e)))
      have sB1 := hY1.stored i (.int .i64 0)
      have hA2 := sA.1.kept sB1.2 (.inr (fun e => hne (Option.some.inj e)))
      have hR2 := (HRw.out.kept sA.2 (.inr (fun e => hneR (Option.some.inj e)))).kept sB1.2 (.inr (fun e => hneR2 (Option.some.inj e)))
      have HA4 := Lib.hid hA2; have HY4 := Lib.hid sB1.1; have HR4 := Lib.hid hR2
      have HGA := Lib.hid (HA.out.lt W0.heap.size rfl).1; have HGB := Lib.hid (HY.out.lt (W0.heap.size + 1) rfl).1
      clear sA hY1 sB1 hA2 hR2 c1 d0 e1 f0 f1
      go_loopw [10] (fun c wr => ∃ (k : Nat) (xs ys : List Value), 1 ≤ k ∧ k ≤ min 6 (o.length - i) + 1 ∧ c = .int .i64 (k : Int) ∧ Hid (wr.ownsRow W0.heap.size 3 1 (.slice (some ⟨W0.heap.size, 0, none⟩) (o.length + 1) (o.length + 1)) (o.length + 1) xs) ∧ Hid (wr.ownsRow W0.heap.size 3 1 (.slice (some ⟨W0.heap.size + 1, 0, none⟩) (o.length + 1) (o.length + 1)) (o.length + 1) ys) ∧ Hid (CTo cM l o xs (i + 1)) ∧ Hid (TTo l o ys (i + 1)) ∧ Hid (xs[i]? = some (.int .i64 (cM (sc l o i (k - 1))))) ∧ Hid (ys[i]? = some (.int .i64 ((sc l o i (k - 1)).2.2 : Nat))) ∧ Hid (wr.ownsRow (w.heap.size + 1) 127 3 (.slice (some ⟨w.heap.size + 1, 0, none⟩) 0 0) 0 []) ∧ Below W0.heap.size W0 wr) (fun c _ => (8 - intOf c).toNat)
      case atStart =>
        refine ⟨1, _, _, Nat.le_refl _, by omega, rfl, HA4, HY4, Lib.hid HT.out.set, Lib.hid HP.out.set, Lib.hid ?_, Lib.hid ?_, HR4, ?_⟩
        · show (xs.set i _)[i]? = _
          rw [List.getElem?_set_self (by rw [HXL.out]; omega)]
          show _ = some (Value.int .i64 (cM (sc l o i 0)))
          rw [HS0.out]
        · show (ys.set i _)[i]? = _
          rw [List.getElem?_set_self (by rw [HYL.out]; omega)]
          show _ = some (Value.int .i64 ((sc l o i 0).2.2 : Nat))
          rw [HS1.out]
          rfl
        · exact (HB.out.setCell HGA.out _).setCell HGB.out _
      clear HA4 HY4 HS0 HS1 HA HY HT HP HB HXL HYL HR4 HRw
      case round =>
        obtain ⟨k, xs, ys, hk1, hk2, rfl, HA, HY, HT, HP, HX, HPx, HRw, hb⟩ := hrel
        have HB := Lib.hid hb; clear hb
        by_cases hkm : k ≤ min 6 (o.length - i)
        · have ht1 : (k : Int) ≤ 6 := by omega
          have ht2 : (i : Int) + (k : Int) ≤ (o.length : Int) := by omega
          have hfit : i + k ≤ o.length := by omega
          obtain ⟨bo, oo, rfl⟩ := HAO.out (by omega)
          have hw2 : IntKind.i64.wrap ((i : Int) + (k : Int)) = (i : Int) + (k : Int) := IntWalk.i64_in _ (by omega)
          have hf1 : ¬ (o.length : Int) < (i : Int) + (k : Int) := by omega
          have hf3 : (i : Int) ≤ (i : Int) + (k : Int) := by omega
          have hf5 : (o.length : Int) ≤ (co : Int) := by omega
          have hf6 : ¬ co = i := by omega
          have hf7 : ¬ i = co := by omega
          have hf8 : i < co := by omega
          have hf9 : ¬ co - i = 0 := by omega
          have hf10 : ¬ co ≤ i := by omega
          have hf11 : (i : Int) + (k : Int) ≤ (co : Int) := by omega
          have hf12 : ((i : Int) + (k : Int)).toNat - i = k := by omega
          have HRP := Lib.hid (rows_part (show Rows wr.drew (.slice (some ⟨bo, oo, none⟩) o.length co) o.length 1 (ints o) from Rows.drew (HO1.out.keep HB.out) 1) i k hfit)
          have HF2 := Lib.hid (fun W h1 h2 => l6Find_any (.slice a l.length cap) (.slice (some ⟨bo, oo + i, none⟩) k (co - i)) l ((o.drop i).take k) W h1 hl HF.out h2)
          have HEr := Lib.hid (show Ents wr.drew (.slice a l.length cap) l from Ents.drew (HE1.out.keep HB.out) 1)
          have q0 := keepcT HB.out HC1.out
          have hqa := cM_bd (l := l) ho60 (i + k)
          have hqb := cM_scbd (l := l) ho60 hi (show k - 1 ≤ 6 by omega) (by omega)
          have hxa : xs[i + k]? = some (.int .i64 (cM (cst l o (i + k)))) := HT.out (i + k) (by omega) hfit
          have EY : Pl.hasD l ((o.drop i).take k) = true → 1 + cM (cst l o (i + k)) ≤ cM (sc l o i (k - 1)) → cM (sc l o i k) = 1 + cM (cst l o (i + k)) ∧ (sc l o i k).2.2 = k := by
            obtain ⟨m, rfl⟩ : ∃ m, k = m + 1 := ⟨k - 1, by omega⟩
            intro h1 h2
            have h3 := (weigh ho60 hi (by omega) hfit).1 h2
            exact ⟨(cN_yes hfit h1 h3).2.1, (cN_yes hfit h1 h3).2.2⟩
          have EN : ¬ (Pl.hasD l ((o.drop i).take k) = true ∧ 1 + cM (cst l o (i + k)) ≤ cM (sc l o i (k - 1))) → sc l o i k = sc l o i (k - 1) := by
            obtain ⟨m, rfl⟩ : ∃ m, k = m + 1 := ⟨k - 1, by omega⟩
            exact fun h => cN_no hfit (fun h2 => h ⟨h2.1, (weigh ho60 hi (by omega) hfit).2 h2.2⟩)
          replace EY := Lib.hid EY
          replace EN := Lib.hid EN
          obtain ⟨qb, hqbE⟩ : ∃ q, cM (sc l o i (k - 1)) = q := ⟨_, rfl⟩
          rw [hqbE] at hqb EY EN HX
          have HQB := Lib.hid hqbE
          clear hqbE
          generalize cM (cst l o (i + k)) = qa at hqa hxa EY EN
          generalize Pl.textD l ((o.drop i).take k) = tx at HF2
          generalize Pl.hasD l ((o.drop i).take k) = y at HF2 EY EN
          obtain ⟨hqa0, hqa1⟩ := hqa
          obtain ⟨hqb0, hqb1⟩ := hqb
          have HXA := Lib.hid hxa
          clear hxa
          have HXL := Lib.hid (show xs.length = o.length + 1 by have := HA.out.1; omega)
          have HYL := Lib.hid (show ys.length = o.length + 1 by have := HY.out.1; omega)
          go_upto_region 14 with fail
          go_region_held3 (fun w' => w'.cell? ⟨w.heap.size, 0, none⟩ = some (.slice a l.length cap)) (first | exact q1 | exact q0) (first | (go_at_call 71; (with_reducible refine (HF2.out _ HEr.out HRP.out).mono ?_); rintro e w2 ⟨rfl, hb2⟩; have q1 := keepcT hb2 q0; have HA2 := Lib.hid (own_keep (own_drewN HA.out 1) hb2); have HY2 := Lib.hid (own_keep (own_drewN HY.out 1) hb2); have HR2 := Lib.hid (own_keep (own_drewN HRw.out 1) hb2); have HB2 := Lib.hid ((below_drew1 HB.out).trans (hb2.mono HB.out.size)); clear hb2))
          have ca : w2.cell? ⟨W0.heap.size, i + k, none⟩ = some (.int .i64 qa) := by rw [HA2.out.cellAt (i + k) (by omega)]; exact HXA.out
          have cb : w2.cell? ⟨W0.heap.size, i, none⟩ = some (.int .i64 qb) := by rw [HA2.out.cellAt i (by omega)]; exact HX.out
          have hi2 : (i : Int) + (k : Int) < (o.length : Int) + 1 := by omega
          have hi3 : (0 : Int) ≤ (i : Int) + (k : Int) := by omega
          have hi4 : (i : Int) < (o.length : Int) + 1 := by omega
          have hwq : IntKind.i64.wrap (1 + qa) = 1 + qa := IntWalk.i64_in _ (by omega)
          clear hf1 hf3 hf5 hf6 hf7 hf8 hf9 hf10 hf11 hf12 HRP HF2 HEr HA HY HB HRw
          go_upto_region 15 with fail
          cases y
          · have E := Lib.hid (EN.out (fun h => absurd h.1 (by decide)))
            go_quiet (fail)
            go_wp2
            go_roundw
            case rel => exact ⟨k + 1, xs, ys, by omega, by omega, by go_num, HA2, HY2, HT, HP, Lib.hid (by show xs[i]? = some (Value.int .i64 (cM (sc l o i k))); rw [E.out, HQB.out]; exact HX.out), Lib.hid (by show ys[i]? = some (Value.int .i64 ((sc l o i k).2.2 : Nat)); rw [E.out]; exact HPx.out), HR2, below_drewN HB2.out _⟩
            case measure => simp [intOf]; omega
          · by_cases hle : 1 + qa ≤ qb
            · obtain ⟨E1, E2⟩ := EY.out rfl hle
              replace E1 := Lib.hid E1
              replace E2 := Lib.hid E2
              obtain ⟨z1, e1⟩ : ∃ z, w2.cell? ⟨W0.heap.size + 1, i, none⟩ = some z := by
                rw [HY2.out.cellAt i (by omega)]; exact ⟨_, List.getElem?_eq_getElem (by rw [HYL.out]; omega)⟩
              have f0 := HA2.out.frozenAt i
              have f1 := HY2.out.frozenAt i
              go_quiet (fail)
              go_wp2
              go_roundw
              case rel =>
                have sA := (own_drewN HA2.out nq).stored i (.int .i64 (1 + qa))
                have hY1 := (own_drewN HY2.out nq).kept sA.2 (.inr (fun e => hne2 (Option.some.inj e)))
                have sB1 := hY1.stored i (.int .i64 (k : Int))
                have hA2 := sA.1.kept sB1.2 (.inr (fun e => hne (Option.some.inj e)))
                have hR2 := ((own_drewN HR2.out nq).kept sA.2 (.inr (fun e => hneR (Option.some.inj e)))).kept sB1.2 (.inr (fun e => hneR2 (Option.some.inj e)))
                refine ⟨k + 1, _, _, by omega, by omega, by go_num, Lib.hid hA2, Lib.hid sB1.1, Lib.hid HT.out.set, Lib.hid HP.out.set, Lib.hid ?_, Lib.hid ?_, Lib.hid hR2, ?_⟩
                · show (xs.set i _)[i]? = some (Value.int .i64 (cM (sc l o i k)))
                  rw [List.getElem?_set_self (by rw [HXL.out]; omega), E1.out]
                · show (ys.set i _)[i]? = some (Value.int .i64 ((sc l o i k).2.2 : Nat))
                  rw [List.getElem?_set_self (by rw [HYL.out]; omega), E2.out]
                · exact ((below_drewN HB2.out nq).setCell HGA.out _).setCell HGB.out _
              case measure => simp [intOf]; omega
            · have E := Lib.hid (EN.out (fun h => hle h.2))
              go_quiet (fail)
              go_wp2
              go_roundw
              case rel => exact ⟨k + 1, xs, ys, by omega, by omega, by go_num, HA2, HY2, HT, HP, Lib.hid (by show xs[i]? = some (Value.int .i64 (cM (sc l o i k))); rw [E.out, HQB.out]; exact HX.out), Lib.hid (by show ys[i]? = some (Value.int .i64 ((sc l o i k).2.2 : Nat)); rw [E.out]; exact HPx.out), HR2, below_drewN HB2.out _⟩
              case measure => simp [intOf]; omega
        · have hk3 : min 6 (o.length - i) = k - 1 := by omega
          have EC := Lib.hid (show cst l o i = sc l o i (k - 1) by rw [cst_sc l o i hi, hk3])
          by_cases h6 : k ≤ 6
          · have ht1 : (k : Int) ≤ 6 := by omega
            have ht2 : ¬ (i : Int) + (k : Int) ≤ (o.length : Int) := by omega
            clear hk3
            go_wp2
            go_roundw
            case rel => exact ⟨i, xs, ys, by omega, rfl, HA, HY, Lib.hid (HT.out.done (by rw [EC.out]; exact HX.out)), Lib.hid (HP.out.done (by rw [EC.out]; exact HPx.out)), HRw, HB.out⟩
            case measure => first | (simp [intOf]; done) | (simp [intOf]; omega)
          · have ht1 : ¬ (k : Int) ≤ 6 := by omega
            clear hk3
            go_wp2
            go_roundw
            case rel => exact ⟨i, xs, ys, by omega, rfl, HA, HY, Lib.hid (HT.out.done (by rw [EC.out]; exact HX.out)), Lib.hid (HP.out.done (by rw [EC.out]; exact HPx.out)), HRw, HB.out⟩
            case measure => first | (simp [intOf]; done) | (simp [intOf]; omega)

end Go.Proofs.YtkbbcmbeafjpaaaGreatDoor
