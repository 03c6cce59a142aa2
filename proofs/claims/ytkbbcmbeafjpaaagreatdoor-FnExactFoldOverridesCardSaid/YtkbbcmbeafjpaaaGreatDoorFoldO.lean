/-
  CONTRACTS: a search among folds, and FoldOverrides of the program.
-/
import Derived.Test.YtkbbcmbeafjpaaaGreatDoorNestA
import Derived.Test.YtkbbcmbeafjpaaaGreatDoorLookF
namespace Go.Proofs.YtkbbcmbeafjpaaaGreatDoor
open Go.RowKit

set_option maxRecDepth 20000 in
set_option maxHeartbeats 1600000 in
theorem IndexFuncF_any (p : Fo → Bool) (g : Nat) (lb : Array Value) (eg : ∀ args w, (callFunc g args).run Tryz.prog w = .ok (.enter g args) w) (v : Value) (F : List Fo) (w : World) (hr : Rows w v F.length 2 (folds F)) (hl : F.length ≤ 1048576)
    (hp : ∀ (W : World) (k : Int) (t : ByteArray), Below w.heap.size w W → (k, t) ∈ F → Calls Tryz.prog g (#[.agg #[.int .i64 k, .string t]] ++ lb) W fun e w' => e = .returned (.bool (p (k, t))) ∧ Below W.heap.size W w') :
    Calls Tryz.prog 155 #[v, .func (.func g) #[] lb] w fun e w' => (∃ r : Int, e = .returned (.int .i64 r) ∧ decide (0 ≤ r) = F.any p) ∧ Below w.heap.size w w' := by
  have HP := Lib.hid hp
  obtain ⟨a, cap, rfl, _, _, _, _, hcells⟩ := hr
  have HC := Lib.hid hcells
  clear hp hcells
  go_enter Tryz.func155, Tryz.ntmps155
  go_wp2
  go_loopw [5, 8] (fun _ i wr => ∃ k : Nat, k ≤ F.length ∧ i = .int .i64 k ∧ Hid ((F.take k).any p = false) ∧ Below w.heap.size w wr) (fun _ i _ => F.length - (intOf i).toNat)
  case atStart => exact ⟨0, Nat.zero_le _, rfl, Lib.hid rfl, Below.refl _ _⟩
  case round =>
    obtain ⟨k, hk, rfl, HA, hb⟩ := hrel
    have HB := Lib.hid hb; clear hb
    by_cases hlt : k < F.length
    · obtain ⟨b, off, rfl, c1, c2⟩ := fold_cells (HC.out.keep HB.out) k hlt
      have hki : (k : Int) < (F.length : Int) := by omega
      have hk0 : (0 : Int) ≤ (k : Int) := by omega
      have HS := Lib.hid (HP.out wr (F[k]).1 (F[k]).2 HB.out (List.getElem_mem hlt))
      cases hq : p F[k]
      · have HA2 := Lib.hid (any_take_next p F k hlt _ rfl hq HA.out)
        rw [show p ((F[k]).1, (F[k]).2) = false from hq] at HS
        clear HA hq
        generalize (F[k]).2 = py at c2 HS
        generalize (F[k]).1 = pl at c1 HS
        go_wp2_with (go_at_fn g; (with_reducible refine HS.out.mono ?_); rintro e w1 ⟨rfl, hb1⟩; have HB2 := Lib.hid (HB.out.trans (hb1.mono HB.out.size)); clear hb1)
        go_roundw
        case rel => exact ⟨k + 1, by omega, by go_num, HA2, HB2.out⟩
        case measure => simp [intOf]; omega
      · have E := Lib.hid (any_take_hit p F k hlt _ rfl hq)
        rw [show p ((F[k]).1, (F[k]).2) = true from hq] at HS
        clear HA hq
        generalize (F[k]).2 = py at c2 HS
        generalize (F[k]).1 = pl at c1 HS
        go_wp2_with (go_at_fn g; (with_reducible refine HS.out.mono ?_); rintro e w1 ⟨rfl, hb1⟩; have HB2 := Lib.hid (HB.out.trans (hb1.mono HB.out.size)); clear hb1)
        go_ret
        exact ⟨⟨k, rfl, by rw [E.out]; exact decide_eq_true hk0⟩, HB2.out⟩
    · have E := Lib.hid (any_take_all p F k (by omega) HA.out)
      have hki : ¬ (k : Int) < (F.length : Int) := by omega
      clear HA
      go_wp2
      go_ret
      exact ⟨⟨-1, rfl, by rw [E.out]; rfl⟩, HB.out⟩

set_option maxHeartbeats 1600000 in
theorem ContainsFuncF_any (p : Fo → Bool) (g : Nat) (lb : Array Value) (eg : ∀ args w, (callFunc g args).run Tryz.prog w = .ok (.enter g args) w) (v : Value) (F : List Fo) (w : World) (hr : Rows w v F.length 2 (folds F)) (hl : F.length ≤ 1048576)
    (hp : ∀ (W : World) (k : Int) (t : ByteArray), Below w.heap.size w W → (k, t) ∈ F → Calls Tryz.prog g (#[.agg #[.int .i64 k, .string t]] ++ lb) W fun e w' => e = .returned (.bool (p (k, t))) ∧ Below W.heap.size W w') :
    Calls Tryz.prog 108 #[v, .func (.func g) #[] lb] w fun e w' => e = .returned (.bool (F.any p)) ∧ Below w.heap.size w w' := by
  have H := Lib.hid (IndexFuncF_any p g lb eg v F w hr hl hp)
  clear hr hp
  go_enter Tryz.func108, Tryz.ntmps108
  go_wp2_with (go_at_call 155; (with_reducible refine H.out.mono ?_); rintro e w' ⟨⟨r, rfl, hd⟩, hb⟩)
  go_ret
  exact ⟨by first | exact ret_bool hd | rfl, hb⟩

set_option maxRecDepth 20000 in
set_option maxHeartbeats 1600000 in
theorem overrides_any (R1 R2 : Nat) (ve v : Value) (l : List Ent) (o : List Int) (fk : Int) (ft : ByteArray) (w : World) (h1 : w.cell? ⟨R1, 0, none⟩ = some ve) (h2 : w.cell? ⟨R2, 0, none⟩ = some v) (hr : Ents w v l) (hl : l.length ≤ 1048576) (hs : ∀ p ∈ l, p.1.length ≤ 1048576) (ho : Rows w ve o.length 1 (ints o)) (hok : Pl.outlineB o = true) (hfk : Pl.foldB fk ft = true) :
    Calls Tryz.prog 109 #[.agg #[.int .i64 fk, .string ft], .pointer (some ⟨R1, 0, none⟩), .pointer (some ⟨R2, 0, none⟩)] w fun e w' => e = .returned (.bool (foHit l o (fk, ft))) ∧ Below w.heap.size w w' := by
  have HB0 := Lib.hid (Joins.below_alloc1 w (.cells #[.int .i64 fk, .string ft] 91))
  have HE := Lib.hid (hr.keep HB0.out)
  have z1 := (Pl.outline_len hok).1
  obtain ⟨a, cap, rfl, _, _⟩ := ent_form hr
  obtain ⟨ao, co, rfl, hco, _⟩ := rows_form ho
  obtain ⟨bo, oo, rfl⟩ : ∃ bo oo, ao = some ⟨bo, oo, none⟩ := by
    obtain ⟨a1, c1, h1, _, _, _, _, h6⟩ := ho
    cases h1
    obtain ⟨b1, o1, e1, _⟩ := h6 _ _ (ints_at o 0 (by omega))
    exact ⟨b1, o1, e1⟩
  have d1 := keepcT HB0.out h1
  have d2 := keepcT HB0.out h2
  have HU := Lib.hid (unfold_any bo oo co o fk ft _ (rows_cells (ho.keep HB0.out)).1 hco hok hfk)
  unfold RetRowB at HU
  have HLH := Lib.hid (show foHit l o (fk, ft) = (Pl.unOk o fk && Pl.hasD l (Pl.un o fk)) from rfl)
  have HF := Lib.hid hs
  clear hr ho hs h1 h2
  generalize foHit l o (fk, ft) = x at HLH ⊢
  cases hu : Pl.unOk o fk
  · have E := Lib.hid (show x = false by rw [HLH.out, hu]; rfl)
    rw [hu] at HU
    clear hu HLH hok hfk
    go_enter Tryz.func109, Tryz.ntmps109
    go_wp2_with (go_at_call 110; (with_reducible refine HU.out.mono ?_); rintro e w2 ⟨v2, rfl, hown, hb2⟩; obtain ⟨a2, k2, rfl⟩ := row_formD hown; have HB2 := Lib.hid (HB0.out.trans (hb2.mono HB0.out.size)); clear hown hb2)
    go_ret
    exact ⟨ret_bool E.out.symm, HB2.out⟩
  · rw [hu] at HU
    have E := Lib.hid (show x = Pl.hasD l (Pl.un o fk) by rw [HLH.out, hu, Bool.true_and])
    have HFD := Lib.hid (fun W vr h1 h2 => find_any (.slice a l.length cap) vr l (Pl.un o fk) W h1 hl HF.out h2)
    have HQ := Lib.hid (Pl.atD_cases l (Pl.un o fk))
    clear hu HLH hok hfk
    rcases HQ.out with h | ⟨j, _, h, _⟩
    · have E2 := Lib.hid (E.out.trans (show Pl.hasD l (Pl.un o fk) = false by unfold Pl.hasD; rw [h]; rfl))
      rw [h] at HFD
      clear h HQ E
      generalize Pl.un o fk = r at HU HFD
      go_enter Tryz.func109, Tryz.ntmps109
      go_wp2_with (first
        | (go_at_call 111; (with_reducible refine (HFD.out _ _ HE2.out HR2.out).mono ?_); rintro e w3 ⟨rfl, hb3⟩; have HB3 := Lib.hid (HB2.out.trans (hb3.mono HB2.out.size)); clear hb3)
        | (go_at_call 110; (with_reducible refine HU.out.mono ?_); rintro e w2 ⟨v2, rfl, hown, hb2⟩; obtain ⟨a2, k2, rfl⟩ := row_formD hown; have HR2 := Lib.hid (Rows.of_own hown); have HE2 := Lib.hid (HE.out.keep hb2); have f2 := keepcT hb2 d2; have HB2 := Lib.hid (HB0.out.trans (hb2.mono HB0.out.size)); clear hown hb2))
      go_ret
      exact ⟨ret_bool E2.out.symm, HB3.out⟩
    · have E2 := Lib.hid (E.out.trans (show Pl.hasD l (Pl.un o fk) = true by unfold Pl.hasD; rw [h]; exact decide_eq_true (by omega)))
      rw [h] at HFD
      have hj0 : (0 : Int) ≤ (j : Int) := by omega
      clear h HQ E
      generalize Pl.un o fk = r at HU HFD
      go_enter Tryz.func109, Tryz.ntmps109
      go_wp2_with (first
        | (go_at_call 111; (with_reducible refine (HFD.out _ _ HE2.out HR2.out).mono ?_); rintro e w3 ⟨rfl, hb3⟩; have HB3 := Lib.hid (HB2.out.trans (hb3.mono HB2.out.size)); clear hb3)
        | (go_at_call 110; (with_reducible refine HU.out.mono ?_); rintro e w2 ⟨v2, rfl, hown, hb2⟩; obtain ⟨a2, k2, rfl⟩ := row_formD hown; have HR2 := Lib.hid (Rows.of_own hown); have HE2 := Lib.hid (HE.out.keep hb2); have f2 := keepcT hb2 d2; have HB2 := Lib.hid (HB0.out.trans (hb2.mono HB0.out.size)); clear hown hb2))
      go_ret
      exact ⟨ret_bool E2.out.symm, HB3.out⟩

end Go.Proofs.YtkbbcmbeafjpaaaGreatDoor
