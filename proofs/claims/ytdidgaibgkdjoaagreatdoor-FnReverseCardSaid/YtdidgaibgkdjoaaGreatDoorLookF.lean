/-
  CONTRACTS: an outline looked up through folds, of the program and of the reference.
-/
import Derived.Test.YtdidgaibgkdjoaaGreatDoorPlainLF
import Derived.Test.YtdidgaibgkdjoaaGreatDoorBasD
import Derived.Test.YtdidgaibgkdjoaaGreatDoorUnfS
import Derived.Test.YtdidgaibgkdjoaaGreatDoorGrC
namespace Go.Proofs.YtdidgaibgkdjoaaGreatDoor
open Go.RowKit

theorem textD_size {l : List Ent} (h : ∀ p ∈ l, p.2.size ≤ 1048576) (o : List Int) : (Pl.textD l o).size ≤ 1048576 := by
  rcases Pl.atD_cases l o with h1 | ⟨k, hk, h1, _⟩
  · rw [Pl.textD_none h1]; exact Nat.zero_le _
  · rw [Pl.textD_hit hk h1]; exact h _ (List.getElem_mem hk)
theorem rows_cells {w : World} {b off n cap : Nat} {xs : List Value} (h : Rows w (.slice (some ⟨b, off, none⟩) n cap) n 1 xs) : CellsAt w (some ⟨b, off, none⟩) xs ∧ n ≤ cap := by
  obtain ⟨a, c, e, h2, _, _, _, h6⟩ := h
  cases e
  exact ⟨h6, h2⟩
theorem hit_eq {x a b c : Bool} (h : x = (a && b && c)) (ha : a = true) (hb : b = true) (hc : c = true) : x = true := by rw [h, ha, hb, hc]; rfl
theorem hit_n1 {x a b c : Bool} (h : x = (a && b && c)) (ha : a = false) : x = false := by rw [h, ha]; rfl
theorem hit_n2 {x a b c : Bool} (h : x = (a && b && c)) (hb : b = false) : x = false := by rw [h, hb, Bool.and_false]; rfl
theorem hit_n3 {x a b c : Bool} (h : x = (a && b && c)) (hc : c = false) : x = false := by rw [h, hc, Bool.and_false]
theorem folded_ok {k : Int} {t u : ByteArray} (h : Pl.foldB k u = true) : Pl.foldedOk k t u = Pl.ftOk t u := by unfold Pl.foldedOk; rw [h, Bool.true_and]
theorem folded_out {k : Int} {t u : ByteArray} (h : Pl.foldB k u = true) (h2 : Pl.ftOk t u = true) : Pl.foldedOut k t u = Pl.foldT t u := by
  unfold Pl.foldedOut
  rw [folded_ok h, if_pos h2]
theorem ft_out {t u : ByteArray} (h2 : Pl.ftOk t u = true) : Pl.ftOut t u = Pl.foldT t u := by
  unfold Pl.ftOut
  rw [if_pos h2]

set_option maxRecDepth 20000 in
set_option maxHeartbeats 3200000 in
theorem lookupFolded_any (v vf vo : Value) (l : List Ent) (F : List Fo) (o : List Int) (w : World) (hr : Ents w v l) (hl : l.length ≤ 1048576) (hs : ∀ p ∈ l, p.1.length ≤ 1048576 ∧ p.2.size ≤ 1048576) (hf : Rows w vf F.length 2 (folds F)) (hF : FoldsFit F) (hFk : Pl.foldsOk F = true) (ho : Rows w vo o.length 1 (ints o)) (hok : Pl.outlineB o = true) (hm : ∃ m, w.cell? ⟨0, 0, none⟩ = some (.int .i64 m)) :
    Calls Tryz.prog 69 #[.agg #[v], vf, vo] w fun e w' => e = .returned (.tuple #[.string (flAll l F o).1, .int .i64 (flAll l F o).2.1, .bool (flAll l F o).2.2]) ∧ Below w.heap.size w w' := by
  have HB0 := Lib.hid (Joins.below_alloc1 w (.cells #[v] 26))
  have HM0 := Lib.hid (max_keepT hm HB0.out)
  have HE := Lib.hid (hr.keep HB0.out)
  have HO := Lib.hid (ho.keep HB0.out)
  have HF1 := Lib.hid (fun p hp => (hs p hp).1)
  have HF2 := Lib.hid (fun p hp => (hs p hp).2)
  have HFF := Lib.hid (fun k (hk : k < F.length) => hF.2 _ (List.getElem_mem hk))
  have HFK := Lib.hid (fun k (hk : k < F.length) => folds_at_ok hFk hk)
  have HOK := Lib.hid hok
  have z1 := (Pl.outline_len hok).1
  have hFl := hF.1
  obtain ⟨a, cap, rfl, _, _⟩ := ent_form hr
  obtain ⟨ao, co, rfl, hco, _⟩ := rows_form ho
  obtain ⟨af, cf, rfl, _, _⟩ := rows_form hf
  obtain ⟨bo, oo, rfl⟩ : ∃ bo oo, ao = some ⟨bo, oo, none⟩ := by
    obtain ⟨a1, c1, h1, _, _, _, _, h6⟩ := ho
    cases h1
    obtain ⟨b1, o1, e1, _⟩ := h6 _ _ (ints_at o 0 (by omega))
    exact ⟨b1, o1, e1⟩
  have HP := Lib.hid (show CellsAt (w.alloc (.cells #[.slice a l.length cap] 26)) af (folds F) by
    obtain ⟨a1, c1, h1, _, _, _, _, h6⟩ := hf.keep HB0.out
    cases h1
    exact h6)
  have HC := Lib.hid (show (w.alloc (.cells #[.slice a l.length cap] 26)).cell? ⟨w.heap.size, 0, none⟩ = some (.slice a l.length cap) by simp [go_sem])
  have HL := Lib.hid (lookup_any (.slice a l.length cap) (.slice (some ⟨bo, oo, none⟩) o.length co) l o _ HE.out hl HF1.out HO.out)
  have E0 := Lib.hid (show flAll l F o = if Pl.hasD l o = true then (Pl.textD l o, -1, true) else flFrom l o 0 F from rfl)
  clear hr hs ho hf hF hFk hok hm
  cases hy : Pl.hasD l o
  case true =>
    have E := Lib.hid (show flAll l F o = (Pl.textD l o, -1, true) by rw [E0.out, if_pos hy])
    rw [hy] at HL
    generalize Pl.textD l o = tx at HL E
    clear hy E0
    go_enter Tryz.func69, Tryz.ntmps69
    go_wp2_with (go_at_call 52; (with_reducible refine HL.out.mono ?_); rintro e w1 ⟨rfl, hb1⟩; have HB1 := Lib.hid (HB0.out.trans (hb1.mono HB0.out.size)); clear hb1)
    go_ret3
    exact ⟨ret_sib E.out rfl rfl rfl, HB1.out⟩
  have E := Lib.hid (show flAll l F o = flFrom l o 0 F by rw [E0.out, if_neg (by rw [hy]; decide)])
  rw [hy] at HL
  generalize Pl.textD l o = tx0 at HL
  clear hy E0
  go_enter Tryz.func69, Tryz.ntmps69
  go_upto_region 5 with (go_at_call 52; (with_reducible refine HL.out.mono ?_); rintro e W0 ⟨rfl, hb1⟩; have HE1 := Lib.hid (HE.out.keep hb1); have HO1 := Lib.hid (HO.out.keep hb1); have HP1 := Lib.hid (HP.out.keep hb1); have HC1 := Lib.hid (keepcT hb1 HC.out); have HM1 := Lib.hid (max_keepT HM0.out hb1); have HB1 := Lib.hid (HB0.out.trans (hb1.mono HB0.out.size)); clear hb1)
  clear HB0 HE HO HP HC HL HM0
  have HB0 := HB1; have HE := HE1; have HO := HO1; have HP := HP1; have HC := HC1; have HM0 := HM1
  clear HB1 HE1 HO1 HP1 HC1 HM1
  have HW := Lib.hid (show w.heap.size ≤ W0.heap.size from HB0.out.size)
  go_loopw [29] (fun i wr => ∃ k : Nat, k ≤ F.length ∧ i = .int .i64 k ∧ Hid (flFrom l o 0 F = flFrom l o k (F.drop k)) ∧ Below W0.heap.size W0 wr) (fun i _ => F.length - (intOf i).toNat)
  case atStart => exact ⟨0, Nat.zero_le _, rfl, Lib.hid rfl, Below.refl _ _⟩
  case round =>
    obtain ⟨k, hk, rfl, HA, hb⟩ := hrel
    have HB := Lib.hid hb; clear hb
    by_cases hlt : k < F.length
    · obtain ⟨bf, of, rfl, c1, c2⟩ := fold_cells (HP.out.keep HB.out) k hlt
      have hki : (k : Int) < (F.length : Int) := by omega
      have hk0 : (0 : Int) ≤ (k : Int) := by omega
      have hfk := HFK.out k hlt
      have hft := HFF.out k hlt
      have HMS := Lib.hid (fun h => HA.out.trans (fl_miss (l := l) (o := o) hlt rfl h))
      have HHT := Lib.hid (fun h => HA.out.trans (fl_hit (l := l) (o := o) hlt rfl h))
      have HLH := Lib.hid (show flHit l o F[k] = (Pl.unOk o F[k].1 && Pl.hasD l (Pl.un o F[k].1) && Pl.ftOk (Pl.textD l (Pl.un o F[k].1)) F[k].2) from rfl)
      clear HA
      generalize F[k] = f at c1 c2 hfk hft HMS HHT HLH
      obtain ⟨fk, ft⟩ := f
      dsimp only at c1 c2 hfk hft HHT HLH
      have HBa := Joins.below_alloc1 wr (.cells #[.int .i64 fk, .string ft] 64)
      have HB1 := Lib.hid (below_on3 HB.out HBa)
      have HE1 := Lib.hid (HE.out.keep HB1.out)
      have HM1 := Lib.hid (max_keepT HM0.out HB1.out)
      have d1 := keepcT HB1.out HC.out
      have g0 : (wr.alloc (.cells #[.int .i64 fk, .string ft] 64)).cell? ⟨wr.heap.size, 0, none⟩ = some (.int .i64 fk) := by simp [go_sem]
      have g1 : (wr.alloc (.cells #[.int .i64 fk, .string ft] 64)).cell? ⟨wr.heap.size, 1, none⟩ = some (.string ft) := by simp [go_sem]
      have HU := Lib.hid (unfold_any bo oo co o fk ft _ (rows_cells (HO.out.keep HB1.out)).1 hco HOK.out hfk)
      unfold RetRowB at HU
      clear HBa
      cases hu : Pl.unOk o fk
      · have E2 := Lib.hid (HMS.out (hit_n1 HLH.out hu))
        rw [hu] at HU
        clear HMS HHT HLH hu hfk
        go_wp2_with (go_at_call 76; (with_reducible refine HU.out.mono ?_); rintro e w2 ⟨v2, rfl, hown, hb2⟩; obtain ⟨a2, k2, rfl⟩ := row_formD hown; have HB2 := Lib.hid (HB1.out.trans (hb2.mono HB1.out.size)); clear hown hb2)
        go_roundw
        case rel => exact ⟨k + 1, by omega, by go_num, E2, HB2.out⟩
        case measure => simp [intOf]; omega
      · rw [hu] at HU
        have HLK := Lib.hid (fun W vr h1 h2 => lookup_any (.slice a l.length cap) vr l (Pl.un o fk) W h1 hl HF1.out h2)
        have htx := textD_size HF2.out (Pl.un o fk)
        generalize Pl.un o fk = r at HU HLK HLH HHT htx
        generalize Pl.textD l r = tx at HLK HLH HHT htx
        generalize Pl.hasD l r = y at HLK HLH
        have HFT := Lib.hid (fun W h => FoldedText_any tx fk ft W htx hft h)
        rw [folded_ok hfk] at HFT
        have HZ := Lib.hid (fun h => folded_out (t := tx) hfk h)
        generalize Pl.ftOk tx ft = z at HFT HLH HZ
        generalize Pl.foldedOut fk tx ft = fo at HFT HZ
        have HUU := Lib.hid hu
        clear hu hfk htx
        cases y
        · cases z
          · have E := Lib.hid (HMS.out (hit_n2 HLH.out rfl))
            clear HMS HHT HLH HZ
            go_wp2_with (first
              | (go_at_call 30; (with_reducible refine (HFT.out _ HM3.out).mono ?_); rintro e w4 ⟨rfl, hb4⟩; have HB4 := Lib.hid (HB3.out.trans (hb4.mono HB3.out.size)); clear hb4)
              | (go_at_call 52; (with_reducible refine (HLK.out _ _ HE2.out HR2.out).mono ?_); rintro e w3 ⟨rfl, hb3⟩; have f0 := keepcT hb3 e0; have f1 := keepcT hb3 e1; have HM3 := Lib.hid (max_keepT HM2.out hb3); have HB3 := Lib.hid (HB2.out.trans (hb3.mono HB2.out.size)); clear hb3)
              | (go_at_call 76; (with_reducible refine HU.out.mono ?_); rintro e w2 ⟨v2, rfl, hown, hb2⟩; obtain ⟨a2, k2, rfl⟩ := row_formD hown; have HR2 := Lib.hid (Rows.of_own hown); have HE2 := Lib.hid (HE1.out.keep hb2); have HM2 := Lib.hid (max_keepT HM1.out hb2); have d2 := keepcT hb2 d1; have e0 := keepcT hb2 g0; have e1 := keepcT hb2 g1; have HB2 := Lib.hid (HB1.out.trans (hb2.mono HB1.out.size)); clear hown hb2))
            go_roundw
            case rel => exact ⟨k + 1, by omega, by go_num, E, HB4.out⟩
            case measure => simp [intOf]; omega
          · have E := Lib.hid (HMS.out (hit_n2 HLH.out rfl))
            clear HMS HHT HLH HZ
            go_wp2_with (first
              | (go_at_call 30; (with_reducible refine (HFT.out _ HM3.out).mono ?_); rintro e w4 ⟨rfl, hb4⟩; have HB4 := Lib.hid (HB3.out.trans (hb4.mono HB3.out.size)); clear hb4)
              | (go_at_call 52; (with_reducible refine (HLK.out _ _ HE2.out HR2.out).mono ?_); rintro e w3 ⟨rfl, hb3⟩; have f0 := keepcT hb3 e0; have f1 := keepcT hb3 e1; have HM3 := Lib.hid (max_keepT HM2.out hb3); have HB3 := Lib.hid (HB2.out.trans (hb3.mono HB2.out.size)); clear hb3)
              | (go_at_call 76; (with_reducible refine HU.out.mono ?_); rintro e w2 ⟨v2, rfl, hown, hb2⟩; obtain ⟨a2, k2, rfl⟩ := row_formD hown; have HR2 := Lib.hid (Rows.of_own hown); have HE2 := Lib.hid (HE1.out.keep hb2); have HM2 := Lib.hid (max_keepT HM1.out hb2); have d2 := keepcT hb2 d1; have e0 := keepcT hb2 g0; have e1 := keepcT hb2 g1; have HB2 := Lib.hid (HB1.out.trans (hb2.mono HB1.out.size)); clear hown hb2))
            go_roundw
            case rel => exact ⟨k + 1, by omega, by go_num, E, HB4.out⟩
            case measure => simp [intOf]; omega
        · cases z
          · have E := Lib.hid (HMS.out (hit_n3 HLH.out rfl))
            clear HMS HHT HLH HZ
            go_wp2_with (first
              | (go_at_call 30; (with_reducible refine (HFT.out _ HM3.out).mono ?_); rintro e w4 ⟨rfl, hb4⟩; have HB4 := Lib.hid (HB3.out.trans (hb4.mono HB3.out.size)); clear hb4)
              | (go_at_call 52; (with_reducible refine (HLK.out _ _ HE2.out HR2.out).mono ?_); rintro e w3 ⟨rfl, hb3⟩; have f0 := keepcT hb3 e0; have f1 := keepcT hb3 e1; have HM3 := Lib.hid (max_keepT HM2.out hb3); have HB3 := Lib.hid (HB2.out.trans (hb3.mono HB2.out.size)); clear hb3)
              | (go_at_call 76; (with_reducible refine HU.out.mono ?_); rintro e w2 ⟨v2, rfl, hown, hb2⟩; obtain ⟨a2, k2, rfl⟩ := row_formD hown; have HR2 := Lib.hid (Rows.of_own hown); have HE2 := Lib.hid (HE1.out.keep hb2); have HM2 := Lib.hid (max_keepT HM1.out hb2); have d2 := keepcT hb2 d1; have e0 := keepcT hb2 g0; have e1 := keepcT hb2 g1; have HB2 := Lib.hid (HB1.out.trans (hb2.mono HB1.out.size)); clear hown hb2))
            go_roundw
            case rel => exact ⟨k + 1, by omega, by go_num, E, HB4.out⟩
            case measure => simp [intOf]; omega
          · have E2 := Lib.hid (HHT.out (hit_eq HLH.out HUU.out rfl rfl))
            have E3 := Lib.hid (HZ.out rfl)
            rw [← E3.out] at E2
            clear HMS HHT HLH HZ E3
            go_wp2_with (first
              | (go_at_call 30; (with_reducible refine (HFT.out _ HM3.out).mono ?_); rintro e w4 ⟨rfl, hb4⟩; have HB4 := Lib.hid (HB3.out.trans (hb4.mono HB3.out.size)); clear hb4)
              | (go_at_call 52; (with_reducible refine (HLK.out _ _ HE2.out HR2.out).mono ?_); rintro e w3 ⟨rfl, hb3⟩; have f0 := keepcT hb3 e0; have f1 := keepcT hb3 e1; have HM3 := Lib.hid (max_keepT HM2.out hb3); have HB3 := Lib.hid (HB2.out.trans (hb3.mono HB2.out.size)); clear hb3)
              | (go_at_call 76; (with_reducible refine HU.out.mono ?_); rintro e w2 ⟨v2, rfl, hown, hb2⟩; obtain ⟨a2, k2, rfl⟩ := row_formD hown; have HR2 := Lib.hid (Rows.of_own hown); have HE2 := Lib.hid (HE1.out.keep hb2); have HM2 := Lib.hid (max_keepT HM1.out hb2); have d2 := keepcT hb2 d1; have e0 := keepcT hb2 g0; have e1 := keepcT hb2 g1; have HB2 := Lib.hid (HB1.out.trans (hb2.mono HB1.out.size)); clear hown hb2))
            go_ret3
            exact ⟨ret_sib (E.out.trans E2.out) rfl rfl rfl, HB0.out.trans (HB4.out.mono HW.out)⟩
    · obtain rfl : k = F.length := by omega
      have E2 := Lib.hid (HA.out.trans (fl_none l o F.length F (Nat.le_refl _)))
      clear HA
      go_wp2
      go_ret3
      exact ⟨ret_sib (E.out.trans E2.out) rfl rfl rfl, HB0.out.trans (HB.out.mono HW.out)⟩

theorem lf_yes {l : List Ent} {F : List Fo} {o : List Int} (h1 : Pl.dictOk l = true) (h2 : Pl.foldsOk F = true) (h3 : Pl.outlineB o = true) : lfOut l F o = flAll l F o := by
  unfold lfOut lfOk
  rw [h1, h2, h3]; rfl
theorem lf_no {l : List Ent} {F : List Fo} {o : List Int} (h : (Pl.dictOk l && Pl.foldsOk F && Pl.outlineB o) = false) : lfOut l F o = (⟨#[]⟩, 0, false) := by
  unfold lfOut lfOk
  rw [h]; rfl

set_option maxRecDepth 20000 in
set_option maxHeartbeats 3200000 in
theorem LookupFolded_any (v vf vo : Value) (l : List Ent) (F : List Fo) (o : List Int) (w : World) (hr : Ents w v l) (hl : l.length ≤ 1048576) (hs : ∀ p ∈ l, p.1.length ≤ 1048576 ∧ p.2.size ≤ 1048576) (hf : Rows w vf F.length 2 (folds F)) (hF : FoldsFit F) (ho : Rows w vo o.length 1 (ints o)) (hol : o.length ≤ 1048576) (hm : ∃ m, w.cell? ⟨0, 0, none⟩ = some (.int .i64 m)) :
    Calls Tryz.prog 27 #[.agg #[v], vf, vo] w fun e w' => e = .returned (.tuple #[.string (lfOut l F o).1, .int .i64 (lfOut l F o).2.1, .bool (lfOut l F o).2.2]) ∧ Below w.heap.size w w' := by
  have HB0 := Lib.hid (Joins.below_alloc1 w (.cells #[v] 26))
  have HM0 := Lib.hid (max_keepT hm HB0.out)
  have HE := Lib.hid (hr.keep HB0.out)
  have HO := Lib.hid (ho.keep HB0.out)
  have HP := Lib.hid (hf.keep HB0.out)
  have HV := Lib.hid (IsValidDictionary_any v l _ HE.out hl hs HM0.out)
  have HFV := Lib.hid (fun W h => IsValidFolds_any vf F W h hF)
  have HOV := Lib.hid (fun W h => IsValidOutline_any vo o W h hol)
  have HG := Lib.hid (fun W h1 h2 h3 h4 h5 h6 => lookupFolded_any v vf vo l F o W h1 hl hs h2 hF h3 h4 h5 h6)
  obtain ⟨a, cap, rfl, _, _⟩ := ent_form hr
  obtain ⟨ao, co, rfl, _, _⟩ := rows_form ho
  obtain ⟨af, cf, rfl, _, _⟩ := rows_form hf
  have HC := Lib.hid (show (w.alloc (.cells #[.slice a l.length cap] 26)).cell? ⟨w.heap.size, 0, none⟩ = some (.slice a l.length cap) by simp [go_sem])
  clear hr hs ho hf hF hm
  cases hx : Pl.dictOk l
  · rw [hx] at HV
    have E := Lib.hid (lf_no (l := l) (F := F) (o := o) (by rw [hx]; rfl))
    clear hx
    go_enter Tryz.func27, Tryz.ntmps27
    go_wp2_with (first
      | (go_at_call 68; (with_reducible refine (HOV.out _ HO2.out).mono ?_); rintro e w3 ⟨rfl, hb3⟩; have HBE := Lib.hid (HB2.out.trans (hb3.mono HB2.out.size)); clear hb3)
      | (go_at_call 67; (with_reducible refine (HFV.out _ HP1.out).mono ?_); rintro e w2 ⟨rfl, hb2⟩; have HB2 := Lib.hid (HB1.out.trans (hb2.mono HB1.out.size)); have HO2 := Lib.hid (HO1.out.keep hb2); have d2 := keepcT hb2 d1; clear hb2; have HBE := HB2)
      | (go_at_call 47; (with_reducible refine HV.out.mono ?_); rintro e w1 ⟨rfl, hb1⟩; have HB1 := Lib.hid (HB0.out.trans (hb1.mono HB0.out.size)); have d1 := keepcT hb1 HC.out; have HO1 := Lib.hid (HO.out.keep hb1); have HP1 := Lib.hid (HP.out.keep hb1); clear hb1; have HBE := HB1))
    go_ret3
    exact ⟨ret_sib E.out rfl rfl rfl, HBE.out⟩
  rw [hx] at HV
  cases hy : Pl.foldsOk F
  · rw [hy] at HFV
    have E := Lib.hid (lf_no (l := l) (F := F) (o := o) (by rw [hx, hy]; rfl))
    clear hx
    go_enter Tryz.func27, Tryz.ntmps27
    go_wp2_with (first
      | (go_at_call 68; (with_reducible refine (HOV.out _ HO2.out).mono ?_); rintro e w3 ⟨rfl, hb3⟩; have HBE := Lib.hid (HB2.out.trans (hb3.mono HB2.out.size)); clear hb3)
      | (go_at_call 67; (with_reducible refine (HFV.out _ HP1.out).mono ?_); rintro e w2 ⟨rfl, hb2⟩; have HB2 := Lib.hid (HB1.out.trans (hb2.mono HB1.out.size)); have HO2 := Lib.hid (HO1.out.keep hb2); have d2 := keepcT hb2 d1; clear hb2; have HBE := HB2)
      | (go_at_call 47; (with_reducible refine HV.out.mono ?_); rintro e w1 ⟨rfl, hb1⟩; have HB1 := Lib.hid (HB0.out.trans (hb1.mono HB0.out.size)); have d1 := keepcT hb1 HC.out; have HO1 := Lib.hid (HO.out.keep hb1); have HP1 := Lib.hid (HP.out.keep hb1); clear hb1; have HBE := HB1))
    go_ret3
    exact ⟨ret_sib E.out rfl rfl rfl, HBE.out⟩
  rw [hy] at HFV
  cases hz : Pl.outlineB o
  · rw [hz] at HOV
    have E := Lib.hid (lf_no (l := l) (F := F) (o := o) (by rw [hx, hy, hz]; rfl))
    clear hx
    go_enter Tryz.func27, Tryz.ntmps27
    go_wp2_with (first
      | (go_at_call 68; (with_reducible refine (HOV.out _ HO2.out).mono ?_); rintro e w3 ⟨rfl, hb3⟩; have HBE := Lib.hid (HB2.out.trans (hb3.mono HB2.out.size)); clear hb3)
      | (go_at_call 67; (with_reducible refine (HFV.out _ HP1.out).mono ?_); rintro e w2 ⟨rfl, hb2⟩; have HB2 := Lib.hid (HB1.out.trans (hb2.mono HB1.out.size)); have HO2 := Lib.hid (HO1.out.keep hb2); have d2 := keepcT hb2 d1; clear hb2; have HBE := HB2)
      | (go_at_call 47; (with_reducible refine HV.out.mono ?_); rintro e w1 ⟨rfl, hb1⟩; have HB1 := Lib.hid (HB0.out.trans (hb1.mono HB0.out.size)); have d1 := keepcT hb1 HC.out; have HO1 := Lib.hid (HO.out.keep hb1); have HP1 := Lib.hid (HP.out.keep hb1); clear hb1; have HBE := HB1))
    go_ret3
    exact ⟨ret_sib E.out rfl rfl rfl, HBE.out⟩
  rw [hz] at HOV
  have E := Lib.hid (lf_yes hx hy hz)
  have HG2 := Lib.hid (fun W h1 h2 h4 h6 => HG.out W h1 h2 hy h4 hz h6)
  clear hx hy hz HG
  generalize flAll l F o = q at HG2 E
  generalize lfOut l F o = r at E ⊢
  obtain ⟨qt, qi, qb⟩ := q
  go_enter Tryz.func27, Tryz.ntmps27
  go_wp2_with (first
    | (go_at_call 69; (with_reducible refine (HG2.out _ HE3.out HP3.out HO3.out HM3.out).mono ?_); rintro e w4 ⟨rfl, hb4⟩; have HBE := Lib.hid (HB3.out.trans (hb4.mono HB3.out.size)); clear hb4)
    | (go_at_call 68; (with_reducible refine (HOV.out _ HO2.out).mono ?_); rintro e w3 ⟨rfl, hb3⟩; have HB3 := Lib.hid (HB2.out.trans (hb3.mono HB2.out.size)); have HO3 := Lib.hid (HO2.out.keep hb3); have HE3 := Lib.hid (HE2.out.keep hb3); have HP3 := Lib.hid (HP2.out.keep hb3); have HM3 := Lib.hid (max_keepT HM2.out hb3); have d3 := keepcT hb3 d2; clear hb3)
    | (go_at_call 67; (with_reducible refine (HFV.out _ HP1.out).mono ?_); rintro e w2 ⟨rfl, hb2⟩; have HB2 := Lib.hid (HB1.out.trans (hb2.mono HB1.out.size)); have HO2 := Lib.hid (HO1.out.keep hb2); have HE2 := Lib.hid (HE1.out.keep hb2); have HP2 := Lib.hid (HP1.out.keep hb2); have HM2 := Lib.hid (max_keepT HM1.out hb2); have d2 := keepcT hb2 d1; clear hb2)
    | (go_at_call 47; (with_reducible refine HV.out.mono ?_); rintro e w1 ⟨rfl, hb1⟩; have HB1 := Lib.hid (HB0.out.trans (hb1.mono HB0.out.size)); have d1 := keepcT hb1 HC.out; have HO1 := Lib.hid (HO.out.keep hb1); have HE1 := Lib.hid (HE.out.keep hb1); have HP1 := Lib.hid (HP.out.keep hb1); have HM1 := Lib.hid (max_keepT HM0.out hb1); clear hb1))
  go_ret3
  exact ⟨ret_sib E.out rfl rfl rfl, HBE.out⟩

end Go.Proofs.YtdidgaibgkdjoaaGreatDoor
