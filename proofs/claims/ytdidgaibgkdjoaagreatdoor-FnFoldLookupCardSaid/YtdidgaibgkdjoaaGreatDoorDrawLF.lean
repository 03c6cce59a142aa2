/-
  CONTRACT: DrawLookupFolded: of what is drawn only bounds are told.
-/
import Derived.Test.YtdidgaibgkdjoaaGreatDoorDrawAny
namespace Go.Proofs.YtdidgaibgkdjoaaGreatDoor
open Go.RowKit

theorem foldsOk_list : ∀ (n : Nat) (xs : List Value), FoldsOk xs n → ∃ F : List (Int × ByteArray), F.length = n ∧ folds F = xs ∧ ∀ p ∈ F, p.2.size ≤ 9
  | 0, xs, h => ⟨[], rfl, by
      have := h.1
      cases xs with
      | nil => rfl
      | cons a r => simp at this, fun p hp => by cases hp⟩
  | n + 1, xs, h => by
    obtain ⟨k, t, h1, h2, h3⟩ := h.2 0 (Nat.zero_lt_succ n)
    match xs, h, h1, h2 with
    | [], _, h1, _ => cases h1
    | [_], _, _, h2 => cases h2
    | a :: b :: r, h, h1, h2 =>
      simp at h1 h2
      subst h1; subst h2
      have hr : FoldsOk r n := by
        refine ⟨by have := h.1; simp at this; omega, fun j hj => ?_⟩
        obtain ⟨k', t', e1, e2, e3⟩ := h.2 (j + 1) (by omega)
        rw [show (j + 1) * 2 = j * 2 + 2 by omega] at e1 e2
        exact ⟨k', t', e1, e2, e3⟩
      obtain ⟨F, f1, f2, f3⟩ := foldsOk_list n r hr
      refine ⟨(k, t) :: F, by simp [f1], by rw [← f2]; rfl, fun p hp => ?_⟩
      rcases List.mem_cons.1 hp with rfl | hp
      · exact h3
      · exact f3 p hp
theorem FRow.toRows {w : World} {base g off : Nat} {v : Value} {n : Nat} {xs : List Value} (h : FRow w base g off v n xs) : Rows w v n 2 xs := by
  have hc := fun j u hj => h.cell (j := j) (u := u) hj
  obtain ⟨cap, cur, e, _, _, _, h4, h5, _, _, h7, _⟩ := h
  exact ⟨_, cap, e, h4, h5, h7, (fun e => by cases e), fun j u hj => ⟨g, off, rfl, hc j u hj⟩⟩
theorem FRow.notVar {w : World} {base g off b : Nat} {v dv : Value} {n : Nat} {xs : List Value} (h : FRow w base g off v n xs) (hv : VarD w b dv) : g ≠ b := by
  obtain ⟨cap, cur, _, _, h2, _⟩ := h
  intro e
  subst e
  unfold VarD at hv
  rw [hv] at h2
  cases h2
theorem own_neV {w : World} {b R : Nat} {E : TypeId} {s n : Nat} {v : Value} {xs : List Value} (h : w.ownsRow b E s v n xs) (hR : R < b) : v.ownBlock = none ∨ v.ownBlock ≠ some R := by
  cases hv : v.ownBlock with
  | none => exact .inl rfl
  | some k => exact .inr (fun e => by have := (h.lt k hv).1; injection e with e; omega)
/-- a dictionary, folds and an outline, made in new memory -/
def MadeDFO (w : World) (e : Ending) (w' : World) : Prop := ∃ (dv : Value) (L : List Ent) (fv : Value) (F : List (Int × ByteArray)) (ov : Value) (o : List Int), e = .returned (.tuple #[.agg #[dv], fv, ov]) ∧ Ents w' dv L ∧ L.length ≤ 41 ∧ LooseD L ∧ Rows w' fv F.length 2 (folds F) ∧ (F.length ≤ 7 ∧ ∀ p ∈ F, p.2.size ≤ 9) ∧ Rows w' ov o.length 1 (ints o) ∧ o.length ≤ 100 ∧ Below w.heap.size w w'

set_option maxRecDepth 20000 in
set_option maxHeartbeats 1600000 in
theorem DrawLookupFolded_any (v : Value) (w : World) (h : Code8 w v) : Calls Tryz.prog 26 #[v] w (MadeDFO w) := by
  obtain ⟨l, h1, h2⟩ := h.alloc (.cells #[.slice none 0 0] 26)
  clear h
  have h3 := h2
  obtain ⟨a, cap, rfl, _, _, _, _, _⟩ := h3
  have HD := Lib.hid (Read.refl (Cur.newAt (World.size_alloc w (.cells #[.slice none 0 0] 26)) rfl h1 h2 85))
  have RD := Lib.hid ((VarD.new w (.slice none 0 0)).alloc (.cells #[.slice a l.length cap, .int .i64 0, .int .u64 0] 85))
  have HB := Lib.hid (show Below w.heap.size w ((w.alloc (.cells #[.slice none 0 0] 26)).alloc (.cells #[.slice a l.length cap, .int .i64 0, .int .u64 0] 85)) from (by repeat (first | with_reducible exact Below.refl _ _ | with_reducible assumption | with_reducible refine Below.alloc ?_ ?_ _ | with_reducible refine Below.setCell ?_ ?_ _ | with_reducible refine Below.drew ?_ | with_reducible refine below_drewN ?_ _ | with_reducible refine Below.trans ?_ (Below.mono (by assumption) ?_) | omega | ((repeat (first | rw [World.size_alloc] | rw [size_setCell] | rw [size_drewN] | rw [size_drew])); omega) | exact Nat.le_refl _ | (dsimp only; omega) | (simp [World.setCell]; omega))))
  have HZ := Lib.hid (show ((w.alloc (.cells #[.slice none 0 0] 26)).alloc (.cells #[.slice a l.length cap, .int .i64 0, .int .u64 0] 85)).heap.size = w.heap.size + 2 by simp only [World.size_alloc])
  clear h1 h2
  generalize hW : (w.alloc (.cells #[.slice none 0 0] 26)).alloc (.cells #[.slice a l.length cap, .int .i64 0, .int .u64 0] 85) = W at HD RD HB HZ
  have HW := Lib.hid hW; clear hW
  have hne : w.heap.size ≠ w.heap.size + 1 := by omega
  have hgb : w.heap.size + 1 < w.heap.size + 2 := by omega
  go_enter Tryz.func26, Tryz.ntmps26
  go_upto_region 2 with fail
  rw [HW.out]
  clear HW
  go_upto_region 3 with (go_at_call 64; refine (dictionary_any HD.out (by omega)).mono ?_; rintro e w1 ⟨⟨dv, L, rfl, hO, hL1, hL9, hSm⟩, hd⟩; have H1 := Lib.hid hd; have O1 := Lib.hid (hO.lower (Nat.le_of_eq HZ.out.symm)); have R1 := Lib.hid (RD.out.read hd hne); have HSm := Lib.hid hSm; clear hd hO hSm; obtain ⟨la, lc, rfl, hla⟩ := O1.out.slice hL1)
  have hz1 : w.heap.size + 2 ≤ w1.heap.size := by have := H1.out.2.size; rw [HZ.out] at this; exact this
  have H2 := Lib.hid (H1.out.alloc (.cells #[.slice (some ⟨la, 0, none⟩) L.length lc] 26))
  have O2 := Lib.hid (O1.out.alloc (.cells #[.slice (some ⟨la, 0, none⟩) L.length lc] 26))
  have R2 := Lib.hid (R1.out.alloc (.cells #[.slice (some ⟨la, 0, none⟩) L.length lc] 26))
  have V2 := Lib.hid (VarD.new w1 (.slice (some ⟨la, 0, none⟩) L.length lc))
  have HN := Lib.hid HD.out.1
  clear H1 O1 R1 HD RD
  generalize w1.alloc (.cells #[.slice (some ⟨la, 0, none⟩) L.length lc] 26) = w2 at H2 O2 R2 V2 ⊢
  generalize w1.heap.size = b6 at hz1 V2 ⊢
  have hbg : b6 ≠ w.heap.size + 1 := by omega
  have hwb : w.heap.size ≠ b6 := by omega
  have hz2 : w.heap.size + 2 ≤ w2.heap.size := by have := V2.out.lt; omega
  go_upto_region 5 with (first
    | (go_at_call 66; have hx := F3; refine (l10DrawOutline_any (w.heap.size + 2) _ L (Read.refl H3.out.1) (by omega) O3.out hgb hL1 (by omega) (fun q hq => by have := HSm.out q hq; omega)).mono ?_; rintro e w4 ⟨⟨lv, o, rfl, hown, hol⟩, hd⟩; have H4 := Lib.hid (H3.out.trans hd); have O4 := Lib.hid (O3.out.read hd hgb); have V4 := Lib.hid (V3.out.read hd hbg); have R4 := Lib.hid (R3.out.read hd hne); have F4 := Lib.hid (F3.out.read hd hgb); have S4 := Lib.hid (own_lower2 (b' := w.heap.size + 2) hown hz3); clear hd hown hx)
    | (go_at_call 65; refine (l10DrawFolds_any (Read.refl H2.out.1) (by omega)).mono ?_; rintro e w3 ⟨⟨g', off, n, fv, xs, rfl, hF, hn1, hn7⟩, hd⟩; have H3 := Lib.hid (H2.out.trans hd); have O3 := Lib.hid (O2.out.read hd hgb); have V3 := Lib.hid (V2.out.read hd hbg); have R3 := Lib.hid (R2.out.read hd hne); have F3 := Lib.hid (hF.lower hz2); have cv3 := V3.out.cell; have hz3 := (Nat.le_trans hz2 hd.2.size); clear hd hF))
  clear H2 O2 R2 V2 H3 O3 R3 V3 F3 cv3
  have hz4 : w.heap.size + 2 ≤ w4.heap.size := by have := S4; have := H4.out.2.size; rw [HZ.out] at this; exact this
  go_upto_region 7 with (first
    | (go_at_call 43; have hx := H5; refine (anyDictionary_any (Read.refl H5.out.1) (by omega)).mono ?_; rintro e w6 ⟨⟨dx, M, rfl, hO, hM, hSx⟩, hd⟩; obtain ⟨ax, cx, rfl⟩ := hO.form; have H6 := Lib.hid (H5.out.trans hd); have O6 := Lib.hid (hO.lower hz5); have V6 := Lib.hid (V5.out.read hd hbg); have R6 := Lib.hid (R5.out.read hd hne); have F6 := Lib.hid (F5.out.read hd hgb); have S6 := Lib.hid (own_read S5.out hd hgb); have HSx := Lib.hid hSx; have cv6 := V6.out.cell; have cf6 := V6.out.thaw 0; clear hd hO hx)
    | (go_at_call 44; refine (one_any 20 (Read.refl H4.out.1) (by omega) (by decide) (by decide)).mono ?_; rintro e w5 ⟨⟨ba, rfl⟩, hd⟩; have H5 := Lib.hid (H4.out.trans hd); have O5 := Lib.hid (O4.out.read hd hgb); have V5 := Lib.hid (V4.out.read hd hbg); have R5 := Lib.hid (R4.out.read hd hne); have F5 := Lib.hid (F4.out.read hd hgb); have S5 := Lib.hid (own_read S4.out hd hgb); have hz5 := (Nat.le_trans hz4 hd.2.size); clear hd))
  · have hge := F6.out.notVar V6.out
    have O7 := Lib.hid (O6.out.var V6.out (.slice ax M.length cx))
    have V7 := Lib.hid (V6.out.store (.slice ax M.length cx))
    have R7 := Lib.hid (R6.out.other hwb (i := 0) (.slice ax M.length cx))
    have F7 := Lib.hid (F6.out.kept (grown_set w6 b6 0 (.slice ax M.length cx)) (by intro e; injection e with e; exact hge e.symm))
    have S7 := Lib.hid (S6.out.kept (grown_set w6 b6 0 (.slice ax M.length cx)) (.inr (V6.out.apart S6.out (by decide))))
    have H7 := Lib.hid (H6.out.setNew HN.out (show W.heap.size ≤ b6 by rw [HZ.out]; exact hz1) 0 (.slice ax M.length cx))
    clear O6 V6 R6 F6 S6 H6 O5 V5 R5 F5 S5 H5 O4 V4 R4 F4 S4 H4 cv6 cf6 hge
    obtain ⟨af, hff, hfc⟩ := F7.out.form
    subst hff
    obtain ⟨ao9, co9, hoo⟩ := row_formO S7.out
    subst hoo
    have cv := V7.out.cell
    have cr := R7.out.cell
    have fr := R7.out.thaw 0
    go_wp2
    have HB2 := HB.out.trans (H7.out.below w.heap.size (by omega) (by rw [HZ.out]; omega))
    have hFR := (F7.out.kept (grown_set (w6.setCell ⟨b6, 0, none⟩ (.slice ax M.length cx)) w.heap.size 0 (.slice ax M.length cx)) (by intro e; injection e with e; have := F7.out.lt; omega)).toRows
    obtain ⟨F, hF1, hF2, hF3⟩ := foldsOk_list _ _ F7.out.ok
    rw [← hF2, ← hF1] at hFR
    have hOR := Rows.of_own (S7.out.kept (grown_set (w6.setCell ⟨b6, 0, none⟩ (.slice ax M.length cx)) w.heap.size 0 (.slice ax M.length cx)) (own_neV S7.out (show w.heap.size < w.heap.size + 2 by omega)))
    have hDR := (O7.out.var R7.out (.slice ax M.length cx)).ents
    subst hF1
    refine bodyPost_ret (v := .tuple #[.agg #[.slice ax M.length cx], .slice (some ⟨g', off, none⟩) F.length af, .slice ao9 o.length co9]) (by simp [results, Tryz.results26, go_sem, *]) rfl ⟨_, M, _, F, _, o, rfl, hDR, ?_, ?_, hFR, ⟨by omega, hF3⟩, hOR, by omega, (by repeat (first | with_reducible exact Below.refl _ _ | with_reducible assumption | with_reducible refine Below.alloc ?_ ?_ _ | with_reducible refine Below.setCell ?_ ?_ _ | with_reducible refine Below.drew ?_ | with_reducible refine below_drewN ?_ _ | with_reducible refine Below.trans ?_ (Below.mono (by assumption) ?_) | omega | ((repeat (first | rw [World.size_alloc] | rw [size_setCell] | rw [size_drewN] | rw [size_drew])); omega) | exact Nat.le_refl _ | (dsimp only; omega) | (simp [World.setCell]; omega)))⟩
    · exact hM
    · exact HSx.out
  · clear O4 V4 R4 F4 S4 H4
    obtain ⟨af, hff, hfc⟩ := F5.out.form
    subst hff
    obtain ⟨ao9, co9, hoo⟩ := row_formO S5.out
    subst hoo
    have cv := V5.out.cell
    have cr := R5.out.cell
    have fr := R5.out.thaw 0
    go_wp2
    have HB2 := HB.out.trans (H5.out.below w.heap.size (by omega) (by rw [HZ.out]; omega))
    have hFR := (F5.out.kept (grown_set w5 w.heap.size 0 (.slice (some ⟨la, 0, none⟩) L.length lc)) (by intro e; injection e with e; have := F5.out.lt; omega)).toRows
    obtain ⟨F, hF1, hF2, hF3⟩ := foldsOk_list _ _ F5.out.ok
    rw [← hF2, ← hF1] at hFR
    have hOR := Rows.of_own (S5.out.kept (grown_set w5 w.heap.size 0 (.slice (some ⟨la, 0, none⟩) L.length lc)) (own_neV S5.out (show w.heap.size < w.heap.size + 2 by omega)))
    have hDR := (O5.out.var R5.out (.slice (some ⟨la, 0, none⟩) L.length lc)).ents
    subst hF1
    refine bodyPost_ret (v := .tuple #[.agg #[.slice (some ⟨la, 0, none⟩) L.length lc], .slice (some ⟨g', off, none⟩) F.length af, .slice ao9 o.length co9]) (by simp [results, Tryz.results26, go_sem, *]) rfl ⟨_, L, _, F, _, o, rfl, hDR, ?_, ?_, hFR, ⟨by omega, hF3⟩, hOR, by omega, (by repeat (first | with_reducible exact Below.refl _ _ | with_reducible assumption | with_reducible refine Below.alloc ?_ ?_ _ | with_reducible refine Below.setCell ?_ ?_ _ | with_reducible refine Below.drew ?_ | with_reducible refine below_drewN ?_ _ | with_reducible refine Below.trans ?_ (Below.mono (by assumption) ?_) | omega | ((repeat (first | rw [World.size_alloc] | rw [size_setCell] | rw [size_drewN] | rw [size_drew])); omega) | exact Nat.le_refl _ | (dsimp only; omega) | (simp [World.setCell]; omega)))⟩
    · omega
    · exact HSm.out.loose

end Go.Proofs.YtdidgaibgkdjoaaGreatDoor
