/-
  CONTRACT: FoldOverrides of the program.
-/
import Derived.Test.YtkbbcmbeafjpaaaGreatDoorFoldO
namespace Go.Proofs.YtkbbcmbeafjpaaaGreatDoor
open Go.RowKit

theorem fo_no {l : List Ent} {F : List Fo} {k : Nat} (hk : k < l.length) (h : foAny l F (l[k]).1 = false) : foTo l F (k + 1) = foTo l F k := by
  rw [fo_next hk, h, if_neg (by decide), List.append_nil]
theorem fo_yes {l : List Ent} {F : List Fo} {k : Nat} (hk : k < l.length) (h : foAny l F (l[k]).1 = true) : foTo l F (k + 1) = foTo l F k ++ [(l[k]).1] := by
  rw [fo_next hk, h, if_pos rfl]
theorem fo_zero (l : List Ent) (F : List Fo) : foTo l F 0 = [] := rfl
theorem ent_outline {l : List Ent} (h : Pl.dictOk l = true) {k : Nat} (hk : k < l.length) : Pl.outlineB (l[k]).1 = true := by
  have := Pl.dict_ent h hk
  unfold Pl.entOk at this
  rw [Bool.and_eq_true] at this
  exact this.1
theorem folds_mem_ok {F : List Fo} (h : Pl.foldsOk F = true) {k : Int} {t : ByteArray} (hm : (k, t) ∈ F) : Pl.foldB k t = true := by
  obtain ⟨i, hi, e⟩ := List.getElem_of_mem hm
  have := folds_at_ok h hi
  rw [e] at this
  exact this

set_option maxRecDepth 20000 in
set_option maxHeartbeats 3200000 in
theorem FoldOverrides_any (v vf : Value) (l : List Ent) (F : List Fo) (w : World) (hr : Ents w v l) (hl : l.length ≤ 1048576) (hs : ∀ p ∈ l, p.1.length ≤ 1048576 ∧ p.2.size ≤ 1048576) (hf : Rows w vf F.length 2 (folds F)) (hF : FoldsFit F) (hm : ∃ m, w.cell? ⟨0, 0, none⟩ = some (.int .i64 m)) :
    Calls Tryz.prog 46 #[.agg #[v], vf] w (RetII w (foOut l F) (foOk l F)) := by
  have HB0 := Lib.hid (Joins.below_alloc1 w (.cells #[v] 41))
  have HM0 := Lib.hid (max_keepT hm HB0.out)
  have HE := Lib.hid (hr.keep HB0.out)
  have HP := Lib.hid (hf.keep HB0.out)
  have HV := Lib.hid (IsValidDictionary_any v l _ HE.out hl hs HM0.out)
  have HFV := Lib.hid (fun W h => IsValidFolds_any vf F W h hF)
  have HF1 := Lib.hid (fun p hp => (hs p hp).1)
  have hFl := hF.1
  have E0 := Lib.hid (show foOk l F = (Pl.dictOk l && Pl.foldsOk F) from rfl)
  have E := Lib.hid (show foOut l F = if foOk l F = true then foTo l F l.length else [] from rfl)
  obtain ⟨a, cap, rfl, _, _⟩ := ent_form hr
  obtain ⟨af, cf, rfl, _, _⟩ := rows_form hf
  have HC := Lib.hid (show (w.alloc (.cells #[.slice a l.length cap] 41)).cell? ⟨w.heap.size, 0, none⟩ = some (.slice a l.length cap) by simp [go_sem])
  clear hr hs hf hF hm
  cases hx : Pl.dictOk l
  · rw [hx] at HV
    have hmx : foOk l F = false := by rw [E0.out, hx]; rfl
    have E1 : foOut l F = [] := by rw [E.out, hmx]; rfl
    rw [E1, hmx]
    clear E E0 E1 hx hmx
    go_enter Tryz.func46, Tryz.ntmps46
    go_wp2_with (go_at_call 80; (with_reducible refine HV.out.mono ?_); rintro e w1 ⟨rfl, hb1⟩; have HB1 := Lib.hid (HB0.out.trans (hb1.mono HB0.out.size)); clear hb1)
    go_ret2
    exact ⟨_, _, rfl, OwnNest.nil _ _ _ _ _, HB1.out⟩
  rw [hx] at HV
  cases hy : Pl.foldsOk F
  · rw [hy] at HFV
    have hmx : foOk l F = false := by rw [E0.out, hx, hy]; rfl
    have E1 : foOut l F = [] := by rw [E.out, hmx]; rfl
    rw [E1, hmx]
    clear E E0 E1 hx hy hmx
    go_enter Tryz.func46, Tryz.ntmps46
    go_wp2_with (first
      | (go_at_call 103; (with_reducible refine (HFV.out _ HP1.out).mono ?_); rintro e w2 ⟨rfl, hb2⟩; have HB2 := Lib.hid (HB1.out.trans (hb2.mono HB1.out.size)); clear hb2)
      | (go_at_call 80; (with_reducible refine HV.out.mono ?_); rintro e w1 ⟨rfl, hb1⟩; have HB1 := Lib.hid (HB0.out.trans (hb1.mono HB0.out.size)); have HP1 := Lib.hid (HP.out.keep hb1); have d1 := keepcT hb1 HC.out; clear hb1))
    go_ret2
    exact ⟨_, _, rfl, OwnNest.nil _ _ _ _ _, HB2.out⟩
  rw [hy] at HFV
  have hmx : foOk l F = true := by rw [E0.out, hx, hy]; rfl
  have E1 : foOut l F = foTo l F l.length := by rw [E.out, hmx]; rfl
  have HOK := Lib.hid (fun k (hk : k < l.length) => ent_outline hx hk)
  have HFK := Lib.hid (fun (k : Int) (t : ByteArray) (h : (k, t) ∈ F) => folds_mem_ok hy h)
  have hl40 := Pl.dict_len hx
  rw [E1, hmx]
  clear E E0 E1 hx hy hmx
  go_enter Tryz.func46, Tryz.ntmps46
  go_upto_region 3 with (first
      | (go_at_call 103; (with_reducible refine (HFV.out _ HP1.out).mono ?_); rintro e W0 ⟨rfl, hb2⟩; have HB2 := Lib.hid (HB1.out.trans (hb2.mono HB1.out.size)); have HP2 := Lib.hid (HP1.out.keep hb2); have HE2 := Lib.hid (HE1.out.keep hb2); have HC2 := Lib.hid (keepcT hb2 d1); clear hb2)
      | (go_at_call 80; (with_reducible refine HV.out.mono ?_); rintro e w1 ⟨rfl, hb1⟩; have HB1 := Lib.hid (HB0.out.trans (hb1.mono HB0.out.size)); have HP1 := Lib.hid (HP.out.keep hb1); have HE1 := Lib.hid (HE.out.keep hb1); have d1 := keepcT hb1 HC.out; clear hb1))
  clear HB0 HE HP HC HV HFV HB1 HE1 HP1 d1 HM0
  have HW := Lib.hid (show w.heap.size ≤ W0.heap.size from HB2.out.size)
  have HR0 := Lib.hid (World.ownsRow_made (base := W0.heap.size) (e := 25) (size := 1) W0 #[] 0 (Nat.le_refl _) (by unfold maxLen; omega) rfl)
  have hc2 := HC2.out
  have hD1 : w.heap.size < W0.heap.size := World.block_lt_of_cell? _ _ hc2
  have hD2 : ¬ w.heap.size = W0.heap.size := by omega
  have hD3 : ¬ W0.heap.size = w.heap.size := by omega
  go_upto_region 5 with fail
  go_loopw [6, 22] (fun out i wr => ∃ (k : Nat) (xs : List Value) (U : Nat → Value), k ≤ l.length ∧ i = .int .i64 k ∧ Hid (wr.ownsRow W0.heap.size 25 1 out (foTo l F k).length xs) ∧ Hid (Inner wr W0.heap.size wr.heap.size xs 1 0 (foTo l F k) U) ∧ Below W0.heap.size W0 wr) (fun _ i _ => l.length - (intOf i).toNat)
  case atStart => exact ⟨0, [], _, Nat.zero_le _, rfl, HR0, Lib.hid (Inner.nil _ _ _ _ _), Joins.below_alloc1 _ _⟩
  clear HR0
  case round =>
    obtain ⟨k, xs, U, hk, rfl, HO, HI, hb⟩ := hrel
    have HB := Lib.hid hb; clear hb
    obtain ⟨al, cl, rfl⟩ := row_formD HO.out
    have hfl := fo_len l F k
    by_cases hlt : k < l.length
    · obtain ⟨b, off, u, rfl, c1, c2, c3⟩ := ent_at (HE2.out.keep HB.out) k hlt
      have hki : (k : Int) < (l.length : Int) := by omega
      have hk0 : (0 : Int) ≤ (k : Int) := by omega
      have hok := HOK.out k hlt
      have HNO := Lib.hid (fun h => fo_no (F := F) hlt h)
      have HYES := Lib.hid (fun h => fo_yes (F := F) hlt h)
      have hpl := HF1.out _ (List.getElem_mem hlt)
      generalize l[k] = p at c1 c2 c3 hok HNO HYES hpl
      obtain ⟨pl, pt⟩ := p
      dsimp only at c1 c2 c3 hok HNO HYES hpl
      have z1 := (Pl.outline_len hok).1
      obtain ⟨au, cu, rfl, _, _⟩ := rows_form c3
      obtain ⟨bu, ou, rfl⟩ : ∃ bu ou, au = some ⟨bu, ou, none⟩ := by
        obtain ⟨a1, c1', h1, _, _, _, _, h6⟩ := c3
        cases h1
        obtain ⟨b1, o1, e1, _⟩ := h6 _ _ (ints_at pl 0 (by omega))
        exact ⟨b1, o1, e1⟩
      have HBa := Joins.below_alloc1 wr (.cells #[.slice (some ⟨bu, ou, none⟩) pl.length cu, .string pt] 52)
      have HB1 := Lib.hid (below_on3 HB.out HBa)
      have HR1 := Lib.hid (c3.keep HBa)
      have HBA := Lib.hid HBa
      have e0 : (wr.alloc (.cells #[.slice (some ⟨bu, ou, none⟩) pl.length cu, .string pt] 52)).cell? ⟨wr.heap.size, 0, none⟩ = some (.slice (some ⟨bu, ou, none⟩) pl.length cu) := by simp [go_sem]
      have q0 := keepcT HB1.out HC2.out
      have HCF := Lib.hid (ContainsFuncF_any (foHit l pl) 109 #[.pointer (some ⟨wr.heap.size, 0, none⟩), .pointer (some ⟨w.heap.size, 0, none⟩)] (enters_of Tryz.func109 (by kernel_rfl) rfl) (.slice af F.length cf) F (wr.alloc (.cells #[.slice (some ⟨bu, ou, none⟩) pl.length cu, .string pt] 52)) (HP2.out.keep HB1.out) hFl (fun W fk ft hbW hmem => overrides_any wr.heap.size w.heap.size (.slice (some ⟨bu, ou, none⟩) pl.length cu) (.slice (some ⟨b, off, none⟩) l.length cap) l pl fk ft W (keepcT hbW e0) (keepcT hbW q0) ((HE2.out.keep HB1.out).keep hbW) hl HF1.out (HR1.out.keep hbW) hok (HFK.out fk ft hmem)))
      have HA := Lib.hid (show foAny l F pl = F.any (foHit l pl) from rfl)
      rw [← HA.out] at HCF
      clear c3 HBa hok HA q0
      cases hy : foAny l F pl
      · have E := Lib.hid (HNO.out hy)
        rw [hy] at HCF
        clear hy HNO HYES
        go_wp2_with (go_at_call 108; (with_reducible refine HCF.out.mono ?_); rintro e w2 ⟨rfl, hb2⟩; have HO2 := Lib.hid (own_keep (own_keep HO.out HBA.out) hb2); have HI2 := Lib.hid (((HI.out.keep HBA.out).keep hb2).wider (Nat.le_trans HBA.out.size hb2.size)); have HB2w := Lib.hid (HB1.out.trans (hb2.mono HB1.out.size)); clear hb2)
        go_roundw
        case rel => exact ⟨k + 1, xs, U, by omega, by go_num, by rw [E.out]; exact HO2, by rw [E.out]; exact HI2, HB2w.out⟩
        case measure => simp [intOf]; omega
      · have E := Lib.hid (HYES.out hy)
        rw [hy] at HCF
        clear hy HNO HYES
        have HXL := Lib.hid (show xs.length = (foTo l F k).length * 1 from HO.out.1)
        generalize foTo l F k = L at HO HI E HXL hfl
        go_wp2_with (first
          | (at_builtin; have HO4 := HO3; refine app_ints rfl _ _ rfl W0.heap.size _ L.length xs rfl (HO4.out.alloc _) ⟨_, 0, none⟩ 1 a3 pl.length k3 rfl (ints_news _ _ _ _ rfl) (by omega) (by rw [World.size_alloc]; have := HB3w.out.size; omega) ?_; intro v4 w4 hown4 hg4)
          | (go_at_call 81; (with_reducible refine (copyOf_any bu ou _ cu pl _ rfl (rows_cells HR2.out).1 hpl).mono ?_); rintro e w3 ⟨v3, rfl, hown3, hb3⟩; have HU3 := Lib.hid hown3; have HH3 := Lib.hid hb3.size; obtain ⟨a3, k3, rfl⟩ := row_formD hown3; have HO3 := Lib.hid (own_keep HO2.out hb3); have HI3 := Lib.hid (HI2.out.keep hb3); have HB3w := Lib.hid (HB2w.out.trans (hb3.mono HB2w.out.size)); clear hown3 hb3)
          | (go_at_call 108; (with_reducible refine HCF.out.mono ?_); rintro e w2 ⟨rfl, hb2⟩; have HR2 := Lib.hid (HR1.out.keep hb2); have f0 := keepcT hb2 e0; have HO2 := Lib.hid (own_keep (own_keep HO.out HBA.out) hb2); have HI2 := Lib.hid (((HI.out.keep HBA.out).keep hb2).wider (Nat.le_trans HBA.out.size hb2.size)); have HB2w := Lib.hid (HB1.out.trans (hb2.mono HB1.out.size)); clear hb2))
        go_roundw
        case rel =>
          have hI4 := HI3.out.snoc (hi' := w3.heap.size) HXL.out (ys := [.slice a3 pl.length k3]) rfl HU3.out HB2w.out.size (fun g hg => (HU3.out.lt g hg).2) HH3.out
          have hI5 := ((hI4.keep (Joins.below_alloc1 w3 (.cells #[.slice a3 pl.length k3] 25))).grown hg4 ((hI4.keep (Joins.below_alloc1 w3 (.cells #[.slice a3 pl.length k3] 25))).apart (HO3.out.alloc _) (by decide))).wider (Nat.le_trans (Nat.le_of_lt (by rw [World.size_alloc]; exact Nat.lt_succ_self _)) hg4.size)
          exact ⟨k + 1, _, _, by omega, by go_num, Lib.hid (by rw [E.out, List.length_append, List.length_singleton]; exact hown4), Lib.hid (by rw [E.out]; exact hI5), (HB3w.out.alloc HB3w.out.size _).grown hg4 (by rw [World.size_alloc]; exact Nat.le_succ_of_le HB3w.out.size) (fun j hj => (HO3.out.lt j hj).1)⟩
        case measure => simp [intOf]; omega
    · obtain rfl : k = l.length := by omega
      go_wp2
      go_ret2
      exact ⟨_, _, rfl, OwnNest.of HO.out HI.out HW.out, HB2.out.trans (HB.out.mono HW.out)⟩

end Go.Proofs.YtkbbcmbeafjpaaaGreatDoor
