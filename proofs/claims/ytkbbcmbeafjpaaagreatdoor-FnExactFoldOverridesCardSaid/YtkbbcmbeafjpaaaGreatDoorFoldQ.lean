/-
  CONTRACT: FoldOverrides of the reference.
-/
import Derived.Test.YtkbbcmbeafjpaaaGreatDoorFoldP
import Derived.Test.YtkbbcmbeafjpaaaGreatDoorLookS
namespace Go.Proofs.YtkbbcmbeafjpaaaGreatDoor
open Go.RowKit

theorem any_next {F : List Fo} {p : Fo → Bool} {m : Nat} (h : m < F.length) : (F.take (m + 1)).any p = ((F.take m).any p || p F[m]) := by
  rw [List.take_add_one, List.getElem?_eq_getElem h, List.any_append]
  simp
theorem Inner.notRow {w : World} {lo hi sz p : Nat} {xs : List Value} {L : List (List Int)} {U : Nat → Value} (h : Inner w lo hi xs sz p L U) : ∀ j, j < L.length → (U j).ownBlock = none ∨ (U j).ownBlock ≠ some w.heap.size := fun j hj => own_not (h.1 j hj).2.1 (Nat.le_refl _)

set_option maxRecDepth 20000 in
set_option maxHeartbeats 3200000 in
theorem specFoldOverrides_any (v vf : Value) (l : List Ent) (F : List Fo) (w : World) (hr : Ents w v l) (hl : l.length ≤ 1048576) (hs : ∀ p ∈ l, p.1.length ≤ 1048576 ∧ p.2.size ≤ 1048576) (hf : Rows w vf F.length 2 (folds F)) (hF : FoldsFit F) :
    Calls Tryz.prog 45 #[.agg #[v], vf] w (RetII w (foOut l F) (foOk l F)) := by
  have HB0 := Lib.hid (Joins.below_alloc1 w (.cells #[v] 41))
  have HE := Lib.hid (hr.keep HB0.out)
  have HP := Lib.hid (hf.keep HB0.out)
  have HV := Lib.hid (l6Good_any v l _ HE.out hl hs)
  have HFV := Lib.hid (fun W h => specIsValidFolds_any vf F W h hF)
  have HF1 := Lib.hid (fun p hp => (hs p hp).1)
  have hFl := hF.1
  have E0 := Lib.hid (show foOk l F = (Pl.dictOk l && Pl.foldsOk F) from rfl)
  have E := Lib.hid (show foOut l F = if foOk l F = true then foTo l F l.length else [] from rfl)
  obtain ⟨a, cap, rfl, _, _⟩ := ent_form hr
  obtain ⟨af, cf, rfl, _, _⟩ := rows_form hf
  have HC := Lib.hid (show (w.alloc (.cells #[.slice a l.length cap] 41)).cell? ⟨w.heap.size, 0, none⟩ = some (.slice a l.length cap) by simp [go_sem])
  clear hr hs hf hF
  cases hx : Pl.dictOk l
  · rw [hx] at HV
    have hmx : foOk l F = false := by rw [E0.out, hx]; rfl
    have E1 : foOut l F = [] := by rw [E.out, hmx]; rfl
    rw [E1, hmx]
    clear E E0 E1 hx hmx
    go_enter Tryz.func45, Tryz.ntmps45
    go_wp2_with (go_at_call 82; (with_reducible refine HV.out.mono ?_); rintro e w1 ⟨rfl, hb1⟩; have HB1 := Lib.hid (HB0.out.trans (hb1.mono HB0.out.size)); clear hb1)
    go_ret2
    exact ⟨_, _, rfl, OwnNest.nil _ _ _ _ _, HB1.out⟩
  rw [hx] at HV
  cases hy : Pl.foldsOk F
  · rw [hy] at HFV
    have hmx : foOk l F = false := by rw [E0.out, hx, hy]; rfl
    have E1 : foOut l F = [] := by rw [E.out, hmx]; rfl
    rw [E1, hmx]
    clear E E0 E1 hx hy hmx
    go_enter Tryz.func45, Tryz.ntmps45
    go_wp2_with (first
      | (go_at_call 98; (with_reducible refine (HFV.out _ HP1.out).mono ?_); rintro e w2 ⟨rfl, hb2⟩; have HB2 := Lib.hid (HB1.out.trans (hb2.mono HB1.out.size)); clear hb2)
      | (go_at_call 82; (with_reducible refine HV.out.mono ?_); rintro e w1 ⟨rfl, hb1⟩; have HB1 := Lib.hid (HB0.out.trans (hb1.mono HB0.out.size)); have HP1 := Lib.hid (HP.out.keep hb1); have d1 := keepcT hb1 HC.out; clear hb1))
    go_ret2
    exact ⟨_, _, rfl, OwnNest.nil _ _ _ _ _, HB2.out⟩
  rw [hy] at HFV
  have hmx : foOk l F = true := by rw [E0.out, hx, hy]; rfl
  have E1 : foOut l F = foTo l F l.length := by rw [E.out, hmx]; rfl
  have HOK := Lib.hid (fun k (hk : k < l.length) => ent_outline hx hk)
  have HFK := Lib.hid (fun k (hk : k < F.length) => folds_at_ok hy hk)
  have hl40 := Pl.dict_len hx
  rw [E1, hmx]
  clear E E0 E1 hx hy hmx
  go_enter Tryz.func45, Tryz.ntmps45
  go_upto_region 3 with (first
      | (go_at_call 98; (with_reducible refine (HFV.out _ HP1.out).mono ?_); rintro e W0 ⟨rfl, hb2⟩; have HB2 := Lib.hid (HB1.out.trans (hb2.mono HB1.out.size)); have HP2 := Lib.hid (HP1.out.keep hb2); have HE2 := Lib.hid (HE1.out.keep hb2); have HC2 := Lib.hid (keepcT hb2 d1); clear hb2)
      | (go_at_call 82; (with_reducible refine HV.out.mono ?_); rintro e w1 ⟨rfl, hb1⟩; have HB1 := Lib.hid (HB0.out.trans (hb1.mono HB0.out.size)); have HP1 := Lib.hid (HP.out.keep hb1); have HE1 := Lib.hid (HE.out.keep hb1); have d1 := keepcT hb1 HC.out; clear hb1))
  clear HB0 HE HP HC HV HFV HB1 HE1 HP1 d1
  have HW := Lib.hid (show w.heap.size ≤ W0.heap.size from HB2.out.size)
  have HR0 := Lib.hid (World.ownsRow_made (base := W0.heap.size) (e := 25) (size := 1) W0 #[] 0 (Nat.le_refl _) (by unfold maxLen; omega) rfl)
  have HPC := Lib.hid (show CellsAt W0 af (folds F) by
    obtain ⟨a1, c1, h1, _, _, _, _, h6⟩ := HP2.out
    cases h1
    exact h6)
  go_upto_region 5 with fail
  go_loopw [6, 7] (fun out i wr => ∃ (k : Nat) (xs : List Value) (U : Nat → Value), k ≤ l.length ∧ i = .int .i64 k ∧ Hid (wr.ownsRow W0.heap.size 25 1 out (foTo l F k).length xs) ∧ Hid (Inner wr W0.heap.size wr.heap.size xs 1 0 (foTo l F k) U) ∧ Below W0.heap.size W0 wr) (fun _ i _ => l.length - (intOf i).toNat)
  case atStart => exact ⟨0, [], _, Nat.zero_le _, rfl, HR0, Lib.hid (Inner.nil _ _ _ _ _), Joins.below_alloc1 _ _⟩
  clear HR0
  case round =>
    obtain ⟨k, xs, U, hk, rfl, HO, HI, hb⟩ := hrel
    have HB := Lib.hid hb; clear hb
    obtain ⟨al, cl, rfl⟩ := row_formD HO.out
    have hfl := fo_len l F k
    have q0 := keepcT HB.out HC2.out
    by_cases hlt : k < l.length
    · obtain ⟨b, off, u, rfl, c1, c2, c3⟩ := ent_at (HE2.out.keep HB.out) k hlt
      have hki : (k : Int) < (l.length : Int) := by omega
      have hk0 : (0 : Int) ≤ (k : Int) := by omega
      have hok := HOK.out k hlt
      have HNO := Lib.hid (fun h => fo_no (F := F) hlt h)
      have HYES := Lib.hid (fun h => fo_yes (F := F) hlt h)
      have hpl := HF1.out _ (List.getElem_mem hlt)
      generalize l[k] = p at c1 c2 c3 hok HNO HYES hpl
      obtain ⟨pl, pt⟩ := p
      dsimp only at c1 c2 c3 hok HNO HYES hpl
      have z1 := (Pl.outline_len hok).1
      obtain ⟨au, cu, rfl, hcu, _⟩ := rows_form c3
      obtain ⟨bu, ou, rfl⟩ : ∃ bu ou, au = some ⟨bu, ou, none⟩ := by
        obtain ⟨a1, c1', h1, _, _, _, _, h6⟩ := c3
        cases h1
        obtain ⟨b1, o1, e1, _⟩ := h6 _ _ (ints_at pl 0 (by omega))
        exact ⟨b1, o1, e1⟩
      have HR := Lib.hid c3
      have HU1 := Lib.hid c1
      have HOKp := Lib.hid hok
      clear c2 c3 hok
      obtain ⟨W1, rfl⟩ : ∃ W1, W1 = wr := ⟨wr, rfl⟩
      go_upto_region 9 with fail
      clear c1 q0
      go_loopw [8, 9] (fun f i wr => ∃ (m : Nat) (y : Bool), m ≤ F.length ∧ i = .int .i64 m ∧ f = .bool y ∧ Hid (y = (F.take m).any (foHit l pl)) ∧ Below W1.heap.size W1 wr) (fun _ i _ => F.length - (intOf i).toNat)
      case atStart => exact ⟨0, false, Nat.zero_le _, rfl, rfl, Lib.hid rfl, Below.refl _ _⟩
      case round =>
        obtain ⟨m, y, hm, rfl, rfl, HY, hb⟩ := hrel
        have HBi := Lib.hid hb; clear hb
        have q0 := keepcT HBi.out (keepcT HB.out HC2.out)
        have c1 := keepcT HBi.out HU1.out
        have HBw := Lib.hid (HB.out.trans (HBi.out.mono HB.out.size))
        by_cases hmt : m < F.length
        · obtain ⟨bf, of, rfl, f1, f2⟩ := fold_cells (HPC.out.keep HBw.out) m hmt
          have hmi : (m : Int) < (F.length : Int) := by omega
          have hm0 : (0 : Int) ≤ (m : Int) := by omega
          have hfk := HFK.out m hmt
          have HLH := Lib.hid (show foHit l pl F[m] = (Pl.unOk pl F[m].1 && Pl.hasD l (Pl.un pl F[m].1)) from rfl)
          have HN := Lib.hid (any_next (F := F) (p := foHit l pl) hmt)
          generalize F[m] = f at f1 f2 hfk HLH HN
          obtain ⟨fk, ft⟩ := f
          dsimp only at f1 f2 hfk HLH
          have HU := Lib.hid (l10Unfold_any bu ou cu pl fk ft wr.drew (rows_cells (show Rows wr.drew _ _ _ _ from Rows.drew (HR.out.keep HBi.out) 1)).1 hcu HOKp.out hfk)
          unfold RetRow at HU
          have HEw := Lib.hid (HE2.out.keep HBw.out)
          cases hu : Pl.unOk pl fk
          · have HH := Lib.hid (show foHit l pl (fk, ft) = false by rw [HLH.out, hu]; rfl)
            rw [un_nil hu] at HU
            clear HLH hu hfk
            go_upto_region 11 with fail
            go_region_held3 (fun w' => w'.cell? ⟨w.heap.size, 0, none⟩ = some (.slice (some ⟨b, off, none⟩) l.length cap) ∧ w'.cell? ⟨b, off + k * 2, none⟩ = some (.slice (some ⟨bu, ou, none⟩) pl.length cu) ∧ w'.cell? ⟨bf, of + m * 2, none⟩ = some (.int .i64 fk) ∧ w'.cell? ⟨bf, of + m * 2 + 1, none⟩ = some (.string ft)) (first | exact ⟨e1, e2, e3, e4⟩ | exact ⟨q0, c1, f1, f2⟩) (first | (go_at_call 100; (with_reducible refine HU.out.mono ?_); rintro e w2 ⟨v2, rfl, hown, hb2⟩; obtain ⟨a2, k2, rfl⟩ := row_formD hown; have e1 := keepcT hb2 q0; have e2 := keepcT hb2 c1; have e3 := keepcT hb2 f1; have e4 := keepcT hb2 f2; have HBz := Lib.hid ((below_drew1 HBi.out).trans (hb2.mono HBi.out.size)); clear hown hb2))
            have E2 := Lib.hid (show y = (F.take (m + 1)).any (foHit l pl) by rw [HN.out, HH.out, Bool.or_false]; exact HY.out)
            go_wp2
            go_roundw
            case rel => exact ⟨m + 1, y, by omega, by go_num, rfl, E2, HBz.out⟩
            case measure => simp [intOf]; omega
          · have hul := un_len z1 hu
            have HLK := Lib.hid (fun W vr h1 h2 => l6At_any (.slice (some ⟨b, off, none⟩) l.length cap) vr l (Pl.un pl fk) W h1 hl HF1.out h2)
            have HQ := Lib.hid (Pl.atD_cases l (Pl.un pl fk))
            have HLH2 := Lib.hid (show foHit l pl (fk, ft) = decide (0 ≤ Pl.atD l (Pl.un pl fk)) by rw [HLH.out, hu, Bool.true_and]; rfl)
            have hr0 : 0 < (Pl.un pl fk).length := by omega
            clear HLH hu hfk hul
            generalize Pl.atD l (Pl.un pl fk) = at0 at HLK HQ HLH2
            generalize Pl.un pl fk = r at HU HLK hr0 HQ
            have hr1 : (0 : Int) < (r.length : Int) := by omega
            go_upto_region 11 with fail
            go_region_held3 (fun w' => w'.cell? ⟨w.heap.size, 0, none⟩ = some (.slice (some ⟨b, off, none⟩) l.length cap) ∧ w'.cell? ⟨b, off + k * 2, none⟩ = some (.slice (some ⟨bu, ou, none⟩) pl.length cu) ∧ w'.cell? ⟨bf, of + m * 2, none⟩ = some (.int .i64 fk) ∧ w'.cell? ⟨bf, of + m * 2 + 1, none⟩ = some (.string ft)) (first | exact ⟨e1, e2, e3, e4⟩ | exact ⟨q0, c1, f1, f2⟩) (first | (go_at_call 100; (with_reducible refine HU.out.mono ?_); rintro e w2 ⟨v2, rfl, hown, hb2⟩; obtain ⟨a2, k2, rfl⟩ := row_formD hown; have e1 := keepcT hb2 q0; have e2 := keepcT hb2 c1; have e3 := keepcT hb2 f1; have e4 := keepcT hb2 f2; have HR2 := Lib.hid (Rows.of_own hown); have HE3 := Lib.hid ((show Ents wr.drew _ _ from Ents.drew HEw.out 1).keep hb2); have HBz := Lib.hid ((below_drew1 HBi.out).trans (hb2.mono HBi.out.size)); clear hown hb2))
            rcases HQ.out with h | ⟨j, _, h, _⟩
            · have E2 := Lib.hid (show y = (F.take (m + 1)).any (foHit l pl) by rw [HN.out, HLH2.out, h]; exact (Bool.or_false _).symm ▸ HY.out)
              rw [h] at HLK
              clear h HQ HLH2
              go_wp2_with (go_at_call 107; (with_reducible refine (HLK.out _ _ HE3.out HR2.out).mono ?_); rintro e w3 ⟨rfl, hb3⟩; have HBy := Lib.hid (HBz.out.trans (hb3.mono HBz.out.size)); clear hb3)
              go_roundw
              case rel => exact ⟨m + 1, y, by omega, by go_num, rfl, E2, HBy.out⟩
              case measure => simp [intOf]; omega
            · have hj0 : (0 : Int) ≤ (j : Int) := by omega
              have E2 := Lib.hid (show true = (F.take (m + 1)).any (foHit l pl) by rw [HN.out, HLH2.out, h, decide_eq_true hj0, Bool.or_true])
              rw [h] at HLK
              clear h HQ HLH2
              go_wp2_with (go_at_call 107; (with_reducible refine (HLK.out _ _ HE3.out HR2.out).mono ?_); rintro e w3 ⟨rfl, hb3⟩; have HBy := Lib.hid (HBz.out.trans (hb3.mono HBz.out.size)); clear hb3)
              go_roundw
              case rel => exact ⟨m + 1, true, by omega, by go_num, rfl, E2, HBy.out⟩
              case measure => simp [intOf]; omega
        · obtain rfl : m = F.length := by omega
          have HA := Lib.hid (show foAny l F pl = y by rw [HY.out, List.take_length]; rfl)
          have HBx := Lib.hid HBi.out.size
          have HO2 := Lib.hid (own_keep HO.out HBi.out)
          have HI2 := Lib.hid ((HI.out.keep HBi.out).wider HBi.out.size)
          have hD1 : w.heap.size < wr.heap.size := World.block_lt_of_cell? _ _ q0
          have hD2 : ¬ w.heap.size = wr.heap.size := by omega
          have hD3 : ¬ wr.heap.size = w.heap.size := by omega
          have hE1 : b < wr.heap.size := World.block_lt_of_cell? _ _ c1
          have hE2 : ¬ b = wr.heap.size := by omega
          have hE3 : ¬ wr.heap.size = b := by omega
          cases y
          · have E := Lib.hid (HNO.out HA.out)
            clear HNO HYES
            go_wp2
            go_roundw
            case rel => exact ⟨k + 1, xs, U, by omega, by go_num, by rw [E.out]; exact HO2, by rw [E.out]; exact HI2, HBw.out⟩
            case measure => simp [intOf]; omega
          · have E := Lib.hid (HYES.out HA.out)
            clear HNO HYES
            have HXL := Lib.hid (show xs.length = (foTo l F k).length * 1 from HO.out.1)
            generalize foTo l F k = L at HO2 HI2 E HXL hfl
            have HBa := Lib.hid (Joins.below_alloc1 wr (.cells #[] 3))
            have HOi := Lib.hid (World.ownsRow_made (base := wr.heap.size) (e := 3) (size := 1) wr #[] 0 (Nat.le_refl _) (by unfold maxLen; omega) rfl)
            have HCN := Lib.hid (((rows_cells (HR.out.keep HBi.out)).1.keep HBa.out).news)
            have HO3 := Lib.hid (own_keep HO2.out HBa.out)
            have HI3 := Lib.hid (HI2.out.keep HBa.out)
            have hnO := own_not HO2.out (Nat.le_refl _)
            have HNR := Lib.hid HI2.out.notRow
            have HZW := Lib.hid HBw.out.size
            go_wp2_with (first
              | (at_builtin; have HO5 := HO4; refine app_ints rfl _ _ rfl W0.heap.size _ L.length xs rfl (HO5.out.alloc _) ⟨_, 0, none⟩ 1 a5 pl.length k5 rfl (ints_news _ _ _ _ rfl) (by omega) (by rw [World.size_alloc]; have := HB5.out.size; omega) ?_; intro v6 w6 hown6 hg6)
              | (at_builtin; refine app_int rfl _ _ rfl wr.heap.size _ 0 [] rfl HOi.out ⟨bu, ou, none⟩ pl.length cu pl rfl rfl HCN.out (by omega) (by simp) ?_; intro v5 w5 hown5 hg5; have hown5' : w5.ownsRow wr.heap.size 3 1 v5 pl.length (ints pl) := (by simpa using hown5); obtain ⟨a5, k5, rfl⟩ := row_formD hown5'; have HU5 := Lib.hid hown5'; have HO4 := Lib.hid (HO3.out.kept hg5 hnO); have HI4 := Lib.hid (HI3.out.grown hg5 HNR.out); have HH5 := Lib.hid (Nat.le_trans HBa.out.size hg5.size); have HB5 := Lib.hid ((HBw.out.alloc HBw.out.size (.cells #[] 3)).grown hg5 (by rw [World.size_alloc]; exact Nat.le_succ_of_le HBw.out.size) (fun j hj => by have h : wr.heap.size = j := Option.some.inj hj; have := HZW.out; omega)); clear hown5 hown5' hg5))
            go_roundw
            case rel =>
              have hI4 := HI4.out.snoc (hi' := w5.heap.size) HXL.out (ys := [.slice a5 pl.length k5]) rfl HU5.out HZW.out (fun g hg => (HU5.out.lt g hg).2) HH5.out
              have hI5 := ((hI4.keep (Joins.below_alloc1 w5 (.cells #[.slice a5 pl.length k5] 25))).grown hg6 ((hI4.keep (Joins.below_alloc1 w5 (.cells #[.slice a5 pl.length k5] 25))).apart (HO4.out.alloc _) (by decide))).wider (Nat.le_trans (Nat.le_of_lt (by rw [World.size_alloc]; exact Nat.lt_succ_self _)) hg6.size)
              exact ⟨k + 1, _, _, by omega, by go_num, Lib.hid (by rw [E.out, List.length_append, List.length_singleton]; exact hown6), Lib.hid (by rw [E.out]; exact hI5), (HB5.out.alloc HB5.out.size _).grown hg6 (by rw [World.size_alloc]; exact Nat.le_succ_of_le HB5.out.size) (fun j hj => (HO4.out.lt j hj).1)⟩
            case measure => simp [intOf]; omega
    · obtain rfl : k = l.length := by omega
      go_wp2
      go_ret2
      exact ⟨_, _, rfl, OwnNest.of HO.out HI.out HW.out, HB2.out.trans (HB.out.mono HW.out)⟩

end Go.Proofs.YtkbbcmbeafjpaaaGreatDoor
