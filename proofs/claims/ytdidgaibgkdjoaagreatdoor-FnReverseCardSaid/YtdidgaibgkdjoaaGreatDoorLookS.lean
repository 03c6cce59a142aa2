/-
  CONTRACT: LookupFolded of the reference.
-/
import Derived.Test.YtdidgaibgkdjoaaGreatDoorLookF
namespace Go.Proofs.YtdidgaibgkdjoaaGreatDoor
open Go.RowKit

theorem un_nil {o : List Int} {k : Int} (h : Pl.unOk o k = false) : Pl.un o k = [] := by unfold Pl.un; rw [h]; rfl

set_option maxRecDepth 20000 in
set_option maxHeartbeats 3200000 in
theorem specLookupFolded_any (v vf vo : Value) (l : List Ent) (F : List Fo) (o : List Int) (w : World) (hr : Ents w v l) (hl : l.length ≤ 1048576) (hs : ∀ p ∈ l, p.1.length ≤ 1048576 ∧ p.2.size ≤ 1048576) (hf : Rows w vf F.length 2 (folds F)) (hF : FoldsFit F) (ho : Rows w vo o.length 1 (ints o)) (hol : o.length ≤ 1048576) :
    Calls Tryz.prog 28 #[.agg #[v], vf, vo] w fun e w' => e = .returned (.tuple #[.string (lfOut l F o).1, .int .i64 (lfOut l F o).2.1, .bool (lfOut l F o).2.2]) ∧ Below w.heap.size w w' := by
  have HB0 := Lib.hid (Joins.below_alloc1 w (.cells #[v] 26))
  have HE := Lib.hid (hr.keep HB0.out)
  have HO := Lib.hid (ho.keep HB0.out)
  have HP := Lib.hid (hf.keep HB0.out)
  have HV := Lib.hid (l6Good_any v l _ HE.out hl hs)
  have HFV := Lib.hid (fun W h => specIsValidFolds_any vf F W h hF)
  have HOV := Lib.hid (fun W h => l4Good_any vo o W h hol)
  have HF1 := Lib.hid (fun p hp => (hs p hp).1)
  have HF2 := Lib.hid (fun p hp => (hs p hp).2)
  have HFF := Lib.hid (fun k (hk : k < F.length) => hF.2 _ (List.getElem_mem hk))
  have hFl := hF.1
  obtain ⟨a, cap, rfl, _, _⟩ := ent_form hr
  obtain ⟨ao, co, rfl, hco, _⟩ := rows_form ho
  obtain ⟨af, cf, rfl, _, _⟩ := rows_form hf
  have HAO := Lib.hid (show 0 < o.length → ∃ bo oo, ao = some ⟨bo, oo, none⟩ by
    intro h
    obtain ⟨a1, c1, h1, _, _, _, _, h6⟩ := ho
    cases h1
    obtain ⟨b1, o1, e1, _⟩ := h6 _ _ (ints_at o 0 h)
    exact ⟨b1, o1, e1⟩)
  have HC := Lib.hid (show (w.alloc (.cells #[.slice a l.length cap] 26)).cell? ⟨w.heap.size, 0, none⟩ = some (.slice a l.length cap) by simp [go_sem])
  clear hr hs ho hf hF
  cases hx : Pl.dictOk l
  · rw [hx] at HV
    have E := Lib.hid (lf_no (l := l) (F := F) (o := o) (by rw [hx]; rfl))
    clear hx
    go_enter Tryz.func28, Tryz.ntmps28
    go_wp2_with (first
      | (go_at_call 71; (with_reducible refine (HOV.out _ HO2.out).mono ?_); rintro e w3 ⟨rfl, rfl⟩)
      | (go_at_call 70; (with_reducible refine (HFV.out _ HP1.out).mono ?_); rintro e w2 ⟨rfl, hb2⟩; have HB2 := Lib.hid (HB1.out.trans (hb2.mono HB1.out.size)); have HO2 := Lib.hid (HO1.out.keep hb2); have d2 := keepcT hb2 d1; clear hb2; have HBE := HB2)
      | (go_at_call 49; (with_reducible refine HV.out.mono ?_); rintro e w1 ⟨rfl, hb1⟩; have HB1 := Lib.hid (HB0.out.trans (hb1.mono HB0.out.size)); have d1 := keepcT hb1 HC.out; have HO1 := Lib.hid (HO.out.keep hb1); have HP1 := Lib.hid (HP.out.keep hb1); clear hb1; have HBE := HB1))
    go_ret3
    exact ⟨ret_sib E.out rfl rfl rfl, HBE.out⟩
  rw [hx] at HV
  cases hy : Pl.foldsOk F
  · rw [hy] at HFV
    have E := Lib.hid (lf_no (l := l) (F := F) (o := o) (by rw [hx, hy]; rfl))
    clear hx
    go_enter Tryz.func28, Tryz.ntmps28
    go_wp2_with (first
      | (go_at_call 71; (with_reducible refine (HOV.out _ HO2.out).mono ?_); rintro e w3 ⟨rfl, rfl⟩)
      | (go_at_call 70; (with_reducible refine (HFV.out _ HP1.out).mono ?_); rintro e w2 ⟨rfl, hb2⟩; have HB2 := Lib.hid (HB1.out.trans (hb2.mono HB1.out.size)); have HO2 := Lib.hid (HO1.out.keep hb2); have d2 := keepcT hb2 d1; clear hb2; have HBE := HB2)
      | (go_at_call 49; (with_reducible refine HV.out.mono ?_); rintro e w1 ⟨rfl, hb1⟩; have HB1 := Lib.hid (HB0.out.trans (hb1.mono HB0.out.size)); have d1 := keepcT hb1 HC.out; have HO1 := Lib.hid (HO.out.keep hb1); have HP1 := Lib.hid (HP.out.keep hb1); clear hb1; have HBE := HB1))
    go_ret3
    exact ⟨ret_sib E.out rfl rfl rfl, HBE.out⟩
  rw [hy] at HFV
  cases hz : Pl.outlineB o
  · rw [hz] at HOV
    have E := Lib.hid (lf_no (l := l) (F := F) (o := o) (by rw [hx, hy, hz]; rfl))
    clear hx
    go_enter Tryz.func28, Tryz.ntmps28
    go_wp2_with (first
      | (go_at_call 71; (with_reducible refine (HOV.out _ HO2.out).mono ?_); rintro e w3 ⟨rfl, rfl⟩)
      | (go_at_call 70; (with_reducible refine (HFV.out _ HP1.out).mono ?_); rintro e w2 ⟨rfl, hb2⟩; have HB2 := Lib.hid (HB1.out.trans (hb2.mono HB1.out.size)); have HO2 := Lib.hid (HO1.out.keep hb2); have d2 := keepcT hb2 d1; clear hb2; have HBE := HB2)
      | (go_at_call 49; (with_reducible refine HV.out.mono ?_); rintro e w1 ⟨rfl, hb1⟩; have HB1 := Lib.hid (HB0.out.trans (hb1.mono HB0.out.size)); have d1 := keepcT hb1 HC.out; have HO1 := Lib.hid (HO.out.keep hb1); have HP1 := Lib.hid (HP.out.keep hb1); clear hb1; have HBE := HB1))
    go_ret3
    exact ⟨ret_sib E.out rfl rfl rfl, HBE.out⟩
  rw [hz] at HOV
  have EL := Lib.hid (lf_yes hx hy hz)
  have HFK := Lib.hid (fun k (hk : k < F.length) => folds_at_ok hy hk)
  have HOK := Lib.hid hz
  have z1 := (Pl.outline_len hz).1
  obtain ⟨bo, oo, rfl⟩ := HAO.out (by omega)
  have E0 := Lib.hid (show flAll l F o = if Pl.hasD l o = true then (Pl.textD l o, -1, true) else flFrom l o 0 F from rfl)
  have HL := Lib.hid (fun W h1 h2 => l6Find_any (.slice a l.length cap) (.slice (some ⟨bo, oo, none⟩) o.length co) l o W h1 hl HF1.out h2)
  clear hx hy hz HAO
  cases hq : Pl.hasD l o
  case true =>
    have E := Lib.hid (EL.out.trans (show flAll l F o = (Pl.textD l o, -1, true) by rw [E0.out, if_pos hq]))
    rw [hq] at HL
    generalize Pl.textD l o = tx at HL E
    clear hq E0 EL
    go_enter Tryz.func28, Tryz.ntmps28
    go_wp2_with (first
      | (go_at_call 72; (with_reducible refine (HL.out _ HE2.out HO2.out).mono ?_); rintro e w3 ⟨rfl, hb3⟩; have HBE := Lib.hid (HB2.out.trans (hb3.mono HB2.out.size)); clear hb3)
      | (go_at_call 71; (with_reducible refine (HOV.out _ HO2.out).mono ?_); rintro e w3 ⟨rfl, rfl⟩)
      | (go_at_call 70; (with_reducible refine (HFV.out _ HP1.out).mono ?_); rintro e w2 ⟨rfl, hb2⟩; have HB2 := Lib.hid (HB1.out.trans (hb2.mono HB1.out.size)); have HO2 := Lib.hid (HO1.out.keep hb2); have HE2 := Lib.hid (HE1.out.keep hb2); have d2 := keepcT hb2 d1; clear hb2)
      | (go_at_call 49; (with_reducible refine HV.out.mono ?_); rintro e w1 ⟨rfl, hb1⟩; have HB1 := Lib.hid (HB0.out.trans (hb1.mono HB0.out.size)); have d1 := keepcT hb1 HC.out; have HO1 := Lib.hid (HO.out.keep hb1); have HE1 := Lib.hid (HE.out.keep hb1); have HP1 := Lib.hid (HP.out.keep hb1); clear hb1))
    go_ret3
    exact ⟨ret_sib E.out rfl rfl rfl, HBE.out⟩
  have E := Lib.hid (EL.out.trans (show flAll l F o = flFrom l o 0 F by rw [E0.out, if_neg (by rw [hq]; decide)]))
  rw [hq] at HL
  generalize Pl.textD l o = tx0 at HL
  clear hq E0 EL
  go_enter Tryz.func28, Tryz.ntmps28
  go_upto_region 7 with (first
      | (go_at_call 72; (with_reducible refine (HL.out _ HE2.out HO2.out).mono ?_); rintro e W0 ⟨rfl, hb3⟩; have HE3 := Lib.hid (HE2.out.keep hb3); have HO3 := Lib.hid (HO2.out.keep hb3); have HP3 := Lib.hid (HP2.out.keep hb3); have HC3 := Lib.hid (keepcT hb3 d2); have HBE := Lib.hid (HB2.out.trans (hb3.mono HB2.out.size)); clear hb3)
      | (go_at_call 71; (with_reducible refine (HOV.out _ HO2.out).mono ?_); rintro e w3 ⟨rfl, rfl⟩)
      | (go_at_call 70; (with_reducible refine (HFV.out _ HP1.out).mono ?_); rintro e w2 ⟨rfl, hb2⟩; have HB2 := Lib.hid (HB1.out.trans (hb2.mono HB1.out.size)); have HO2 := Lib.hid (HO1.out.keep hb2); have HE2 := Lib.hid (HE1.out.keep hb2); have HP2 := Lib.hid (HP1.out.keep hb2); have d2 := keepcT hb2 d1; clear hb2)
      | (go_at_call 49; (with_reducible refine HV.out.mono ?_); rintro e w1 ⟨rfl, hb1⟩; have HB1 := Lib.hid (HB0.out.trans (hb1.mono HB0.out.size)); have d1 := keepcT hb1 HC.out; have HO1 := Lib.hid (HO.out.keep hb1); have HE1 := Lib.hid (HE.out.keep hb1); have HP1 := Lib.hid (HP.out.keep hb1); clear hb1))
  clear HB0 HE HO HP HC HL HV HFV HOV HB1 HE1 HO1 HP1 d1 HB2 HE2 HO2 HP2 d2
  have HB0 := HBE; have HE := HE3; have HO := HO3; have HC := HC3
  have HP := Lib.hid (show CellsAt W0 af (folds F) by
    obtain ⟨a1, c1, h1, _, _, _, _, h6⟩ := HP3.out
    cases h1
    exact h6)
  clear HBE HE3 HO3 HC3 HP3
  have HW := Lib.hid (show w.heap.size ≤ W0.heap.size from HB0.out.size)
  go_loopw [11] (fun i wr => ∃ k : Nat, k ≤ F.length ∧ i = .int .i64 k ∧ Hid (flFrom l o 0 F = flFrom l o k (F.drop k)) ∧ Below W0.heap.size W0 wr) (fun i _ => F.length - (intOf i).toNat)
  case atStart => exact ⟨0, Nat.zero_le _, rfl, Lib.hid rfl, Below.refl _ _⟩
  case round =>
    obtain ⟨k, hk, rfl, HA, hb⟩ := hrel
    have HB := Lib.hid hb; clear hb
    by_cases hlt : k < F.length
    · obtain ⟨bf, of, rfl, c1, c2⟩ := fold_cells (HP.out.keep HB.out) k hlt
      have hki : (k : Int) < (F.length : Int) := by omega
      have hk0 : (0 : Int) ≤ (k : Int) := by omega
      have hfk := HFK.out k hlt
      have hft := HFF.out k hlt
      have HMS := Lib.hid (fun h => HA.out.trans (fl_miss (l := l) (o := o) hlt rfl h))
      have HHT := Lib.hid (fun h => HA.out.trans (fl_hit (l := l) (o := o) hlt rfl h))
      have HLH := Lib.hid (show flHit l o F[k] = (Pl.unOk o F[k].1 && Pl.hasD l (Pl.un o F[k].1) && Pl.ftOk (Pl.textD l (Pl.un o F[k].1)) F[k].2) from rfl)
      clear HA
      generalize F[k] = f at c1 c2 hfk hft HMS HHT HLH
      obtain ⟨fk, ft⟩ := f
      dsimp only at c1 c2 hfk hft HHT HLH
      have HE1 := Lib.hid (HE.out.keep HB.out)
      have d1 := keepcT HB.out HC.out
      have HU := Lib.hid (l10Unfold_any bo oo co o fk ft _ (rows_cells (HO.out.keep HB.out)).1 hco HOK.out hfk)
      unfold RetRow at HU
      cases hu : Pl.unOk o fk
      · have E2 := Lib.hid (HMS.out (hit_n1 HLH.out hu))
        rw [un_nil hu] at HU
        clear HMS HHT HLH hu hfk
        go_wp2_with (go_at_call 73; (with_reducible refine HU.out.mono ?_); rintro e w2 ⟨v2, rfl, hown, hb2⟩; obtain ⟨a2, k2, rfl⟩ := row_formD hown; have HB2 := Lib.hid (HB.out.trans (hb2.mono HB.out.size)); clear hown hb2)
        go_roundw
        case rel => exact ⟨k + 1, by omega, by go_num, E2, HB2.out⟩
        case measure => simp [intOf]; omega
      · have hul := un_len z1 hu
        have HLK := Lib.hid (fun W vr h1 h2 => l6Find_any (.slice a l.length cap) vr l (Pl.un o fk) W h1 hl HF1.out h2)
        have htx := textD_size HF2.out (Pl.un o fk)
        generalize Pl.un o fk = r at HU HLK HLH HHT htx hul
        generalize Pl.textD l r = tx at HLK HLH HHT htx
        generalize Pl.hasD l r = y at HLK HLH
        have HFT := Lib.hid (fun W => l10Text_any tx fk ft W htx hft)
        have HZ := Lib.hid (fun h => ft_out (t := tx) (u := ft) h)
        generalize Pl.ftOk tx ft = z at HFT HLH HZ
        generalize Pl.ftOut tx ft = fo at HFT HZ
        have HUU := Lib.hid hu
        have hr0 : 0 < r.length := by omega
        have hr1 : ((r.length : Int) == 0) = false := beq_eq_false_iff_ne.2 (by omega)
        have hr2 : ¬ (r.length : Int) = 0 := by omega
        clear hu hfk htx hul
        cases y
        · have E2 := Lib.hid (HMS.out (hit_n2 HLH.out rfl))
          clear HMS HHT HLH HZ
          go_wp2_with (first
            | (go_at_call 74; (with_reducible refine (HFT.out _).mono ?_); rintro e w4 ⟨rfl, hb4⟩; have HBE := Lib.hid (HB3.out.trans (hb4.mono HB3.out.size)); clear hb4)
            | (go_at_call 72; (with_reducible refine (HLK.out _ _ HE2.out HR2.out).mono ?_); rintro e w3 ⟨rfl, hb3⟩; have f0 := keepcT hb3 e0; have f1 := keepcT hb3 e1; have HB3 := Lib.hid (HB2.out.trans (hb3.mono HB2.out.size)); clear hb3; have HBE := HB3)
            | (go_at_call 73; (with_reducible refine HU.out.mono ?_); rintro e w2 ⟨v2, rfl, hown, hb2⟩; obtain ⟨a2, k2, rfl⟩ := row_formD hown; have HR2 := Lib.hid (Rows.of_own hown); have HE2 := Lib.hid (HE1.out.keep hb2); have d2 := keepcT hb2 d1; have e0 := keepcT hb2 c1; have e1 := keepcT hb2 c2; have HB2 := Lib.hid (HB.out.trans (hb2.mono HB.out.size)); clear hown hb2; have HBE := HB2))
          go_roundw
          case rel => exact ⟨k + 1, by omega, by go_num, E2, HBE.out⟩
          case measure => simp [intOf]; omega
        · cases z
          · have E2 := Lib.hid (HMS.out (hit_n3 HLH.out rfl))
            clear HMS HHT HLH HZ
            go_wp2_with (first
              | (go_at_call 74; (with_reducible refine (HFT.out _).mono ?_); rintro e w4 ⟨rfl, hb4⟩; have HBE := Lib.hid (HB3.out.trans (hb4.mono HB3.out.size)); clear hb4)
              | (go_at_call 72; (with_reducible refine (HLK.out _ _ HE2.out HR2.out).mono ?_); rintro e w3 ⟨rfl, hb3⟩; have f0 := keepcT hb3 e0; have f1 := keepcT hb3 e1; have HB3 := Lib.hid (HB2.out.trans (hb3.mono HB2.out.size)); clear hb3; have HBE := HB3)
              | (go_at_call 73; (with_reducible refine HU.out.mono ?_); rintro e w2 ⟨v2, rfl, hown, hb2⟩; obtain ⟨a2, k2, rfl⟩ := row_formD hown; have HR2 := Lib.hid (Rows.of_own hown); have HE2 := Lib.hid (HE1.out.keep hb2); have d2 := keepcT hb2 d1; have e0 := keepcT hb2 c1; have e1 := keepcT hb2 c2; have HB2 := Lib.hid (HB.out.trans (hb2.mono HB.out.size)); clear hown hb2; have HBE := HB2))
            go_roundw
            case rel => exact ⟨k + 1, by omega, by go_num, E2, HBE.out⟩
            case measure => simp [intOf]; omega
          · have E2 := Lib.hid (HHT.out (hit_eq HLH.out HUU.out rfl rfl))
            have E3 := Lib.hid (HZ.out rfl)
            rw [← E3.out] at E2
            clear HMS HHT HLH HZ E3
            go_wp2_with (first
              | (go_at_call 74; (with_reducible refine (HFT.out _).mono ?_); rintro e w4 ⟨rfl, hb4⟩; have HBE := Lib.hid (HB3.out.trans (hb4.mono HB3.out.size)); clear hb4)
              | (go_at_call 72; (with_reducible refine (HLK.out _ _ HE2.out HR2.out).mono ?_); rintro e w3 ⟨rfl, hb3⟩; have f0 := keepcT hb3 e0; have f1 := keepcT hb3 e1; have HB3 := Lib.hid (HB2.out.trans (hb3.mono HB2.out.size)); clear hb3)
              | (go_at_call 73; (with_reducible refine HU.out.mono ?_); rintro e w2 ⟨v2, rfl, hown, hb2⟩; obtain ⟨a2, k2, rfl⟩ := row_formD hown; have HR2 := Lib.hid (Rows.of_own hown); have HE2 := Lib.hid (HE1.out.keep hb2); have d2 := keepcT hb2 d1; have e0 := keepcT hb2 c1; have e1 := keepcT hb2 c2; have HB2 := Lib.hid (HB.out.trans (hb2.mono HB.out.size)); clear hown hb2))
            go_ret3
            exact ⟨ret_sib (E.out.trans E2.out) rfl rfl rfl, HB0.out.trans (HBE.out.mono HW.out)⟩
    · obtain rfl : k = F.length := by omega
      have E2 := Lib.hid (HA.out.trans (fl_none l o F.length F (Nat.le_refl _)))
      clear HA
      go_wp2
      go_ret3
      exact ⟨ret_sib (E.out.trans E2.out) rfl rfl rfl, HB0.out.trans (HB.out.mono HW.out)⟩

end Go.Proofs.YtdidgaibgkdjoaaGreatDoor
