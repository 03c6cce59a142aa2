/-
  CONTRACTS: the draws of folds and of an outline for a fold: l10DrawFolds, l10DrawFold, l10DrawOutline, DrawUnfold, DrawFoldInto.
-/
import Derived.Test.YtdidgaibgkdjoaaGreatDoorFoldRow
namespace Go.Proofs.YtdidgaibgkdjoaaGreatDoor
open Go.RowKit

/-- the usual folds' cells -/
def dfCells : List Value := [.int .i64 18, .string ⟨#[105, 110, 103]⟩, .int .i64 21, .string ⟨#[101, 100]⟩, .int .i64 20, .string ⟨#[115]⟩, .int .i64 22, .string ⟨#[115]⟩]
theorem specDefault_w (w : World) : Calls Tryz.prog 110 #[] w fun e w' => e = .returned (.slice (some ⟨w.heap.size, 0, none⟩) 4 4) ∧ w' = w.alloc (.cells #[.int .i64 18, .string ⟨#[105, 110, 103]⟩, .int .i64 21, .string ⟨#[101, 100]⟩, .int .i64 20, .string ⟨#[115]⟩, .int .i64 22, .string ⟨#[115]⟩] 64) := by
  go_enter Tryz.func110, Tryz.ntmps110
  go_wp2
  go_ret
  exact ⟨rfl, rfl⟩
/-- their tail -/
theorem df_row (w : World) (r : Nat) (hr : r < 3) : FRow (w.alloc (.cells #[.int .i64 18, .string ⟨#[105, 110, 103]⟩, .int .i64 21, .string ⟨#[101, 100]⟩, .int .i64 20, .string ⟨#[115]⟩, .int .i64 22, .string ⟨#[115]⟩] 64)) w.heap.size w.heap.size (r * 2) (.slice (some ⟨w.heap.size, r * 2, none⟩) (4 - r) (4 - r)) (4 - r) (dfCells.drop (r * 2)) := by
  refine ⟨4 - r, _, rfl, Nat.le_refl _, heap_alloc_new w _, ?_, Nat.le_refl _, by unfold maxLen; omega, .inr rfl, ?_, ?_, ?_⟩
  · show 8 = _; omega
  · obtain rfl | rfl | rfl : r = 0 ∨ r = 1 ∨ r = 2 := by omega
    all_goals rfl
  · rw [List.length_drop]; show 8 - _ = _; omega
  · intro j hj
    obtain rfl | rfl | rfl : r = 0 ∨ r = 1 ∨ r = 2 := by omega
    · obtain rfl | rfl | rfl | rfl : j = 0 ∨ j = 1 ∨ j = 2 ∨ j = 3 := by omega
      all_goals exact ⟨_, _, rfl, rfl, by decide⟩
    · obtain rfl | rfl | rfl : j = 0 ∨ j = 1 ∨ j = 2 := by omega
      all_goals exact ⟨_, _, rfl, rfl, by decide⟩
    · obtain rfl | rfl : j = 0 ∨ j = 1 := by omega
      all_goals exact ⟨_, _, rfl, rfl, by decide⟩
/-- folds, in new memory -/
def DrawnF (v : Value) (m g B : Nat) (w w0 : World) (e : Ending) (w' : World) : Prop :=
  (∃ (g' off n : Nat) (lv : Value) (xs : List Value), e = .returned lv ∧ FRow w' w.heap.size g' off lv n xs ∧ 1 ≤ n ∧ n ≤ 7) ∧ Read v m g B w0 w'

theorem FRow.thaw {w : World} {base g off : Nat} {v : Value} {n : Nat} {xs : List Value} (h : FRow w base g off v n xs) (j : Nat) : w.frozen? ⟨g, j, none⟩ = false := by
  obtain ⟨cap, cur, _, _, h2, _⟩ := h
  simp [World.frozen?, h2]
theorem FRow.ok {w : World} {base g off : Nat} {v : Value} {n : Nat} {xs : List Value} (h : FRow w base g off v n xs) : FoldsOk xs n := by
  obtain ⟨_, _, _, _, _, _, _, _, _, _, h⟩ := h
  exact h
theorem FRow.at {w : World} {base g off : Nat} {v : Value} {n : Nat} {xs : List Value} (h : FRow w base g off v n xs) {i : Nat} (hi : i < n) : ∃ (k : Int) (t : ByteArray), w.cell? ⟨g, off + i * 2, none⟩ = some (.int .i64 k) ∧ w.cell? ⟨g, off + i * 2 + 1, none⟩ = some (.string t) ∧ t.size ≤ 9 := by
  obtain ⟨k, t, h1, h2, h3⟩ := h.ok.2 i hi
  exact ⟨k, t, h.cell h1, h.cell h2, h3⟩
theorem FRow.form {w : World} {base g off : Nat} {v : Value} {n : Nat} {xs : List Value} (h : FRow w base g off v n xs) : ∃ c, v = .slice (some ⟨g, off, none⟩) n c ∧ n ≤ c := by
  obtain ⟨c, _, e, _, _, _, h4, _⟩ := h
  exact ⟨c, e, h4⟩

theorem rows_one {base : Nat} (w : World) (k : Int) (t : ByteArray) (hb : base ≤ w.heap.size) : (w.alloc (.cells #[.int .i64 k, .string t] 64)).ownsRow base 64 2 (.slice (some ⟨w.heap.size, 0, none⟩) 1 1) 1 [.int .i64 k, .string t] :=
  ⟨rfl, .inr ⟨w.heap.size, 1, _, rfl, hb, heap_alloc_new w _, Nat.le_refl _, by unfold maxLen; omega, rfl, rfl⟩⟩
set_option maxRecDepth 20000 in
set_option maxHeartbeats 1600000 in
theorem l10DrawFolds_any {v : Value} {m g B : Nat} {w0 w : World} (h : Read v m g B w0 w) (hB : B ≤ 500000000) :
    Calls Tryz.prog 65 #[.pointer (some ⟨g, 0, none⟩)] w (DrawnF v m g (B + 100) w w0) := by
  have h1 := h.1
  have hg := h1.lt
  have HA := Lib.hid ((Read.refl h1).alloc (.cells #[.int .i64 18, .string ⟨#[105, 110, 103]⟩, .int .i64 21, .string ⟨#[101, 100]⟩, .int .i64 20, .string ⟨#[115]⟩, .int .i64 22, .string ⟨#[115]⟩] 64))
  have HH := Lib.hid h; have HN := Lib.hid h1; clear h h1
  go_enter Tryz.func65, Tryz.ntmps65
  go_upto_region 2 with (first
    | (go_at_call 45; refine (pick_any 3 (Read.refl HA.out.1) (by omega) (by omega) (by omega)).mono ?_; rintro e w1 ⟨⟨ra, rfl, hra⟩, hd⟩; have H1 := Lib.hid (HA.out.trans hd); have F1 := Lib.hid ((df_row w ra hra).read hd hg); have ra0 : (0 : Int) ≤ (ra : Int) := (by omega); have ra1 : (ra : Int) ≤ 4 := (by omega); have ra2 : ¬ ra = 4 := (by omega); have ra3 : ra < 4 := (by omega); clear hd)
    | (go_at_call 110; refine (specDefault_w _).mono ?_; rintro e w1 ⟨rfl, rfl⟩))
  clear HA
  have hn2 : 2 ≤ 4 - ra := by omega
  have hn4 : 4 - ra ≤ 4 := by omega
  clear ra0 ra1 ra2 ra3 hra
  generalize dfCells.drop (ra * 2) = xs at F1
  generalize 4 - ra = n at F1 hn2 hn4 ⊢
  generalize ra * 2 = off at F1 ⊢
  have hz1 := H1.out.2.size
  go_upto_region 3 with (go_at_call 44; refine (one_any 4 (Read.refl H1.out.1) (by omega) (by decide) (by decide)).mono ?_; rintro e w2 ⟨⟨ba, rfl⟩, hd⟩; have H2 := Lib.hid (H1.out.trans hd); have F2 := Lib.hid (F1.out.read hd hg); clear hd)
  · go_upto_region 4 with (first
      | (at_builtin; refine app_fhead rfl _ _ rfl w.heap.size w.heap.size off _ _ n q n xs (13 + (d : Int)) sa hsa rfl O5.out F5.out (by omega) rfl (by omega) hz5 ?_; rintro v6 w6 ⟨g6, o6, xs6, hF6⟩ hg6; obtain ⟨c6, rfl, hc6⟩ := hF6.form)
      | (go_at_call 45; have hx := H4; refine (pick_any (n + 1) (Read.refl (H4.out.alloc (.cells #[.int .i64 (13 + (d : Int)), .string sa] 64)).1) (by omega) (by omega) (by omega)).mono ?_; rintro e w5 ⟨⟨q, rfl, hq⟩, hd⟩; have H5 := Lib.hid ((H4.out.alloc (.cells #[.int .i64 (13 + (d : Int)), .string sa] 64)).trans hd); have F5 := Lib.hid ((F4.out.alloc (.cells #[.int .i64 (13 + (d : Int)), .string sa] 64)).read hd hg); have O5 := Lib.hid (own_read (rows_one w4 (13 + (d : Int)) sa H4.out.2.size) hd hg); have hq0 : (0 : Int) ≤ (q : Int) := (by omega); have hq1 : (q : Int) ≤ (n : Int) := (by omega); have hz5 := H5.out.2.size; clear hd hx)
      | (go_at_call 90; have hx := H3; refine (of_lit [⟨#[101, 114]⟩, ⟨#[108, 121]⟩, ⟨#[105, 110, 103]⟩] 9 (Read.refl H3.out.1) (by omega) (by decide) (by decide) (by decide) _).mono ?_; rintro e w4 ⟨⟨sa, rfl, hsa⟩, hd⟩; have H4 := Lib.hid (H3.out.trans hd); have F4 := Lib.hid (F3.out.read hd hg); clear hd hx)
      | (go_at_call 45; have hx := H2; refine (pick_any 10 (Read.refl H2.out.1) (by omega) (by decide) (by decide)).mono ?_; rintro e w3 ⟨⟨d, rfl, hdd⟩, hd⟩; have H3 := Lib.hid (H2.out.trans hd); have F3 := Lib.hid (F2.out.read hd hg); clear hd hx H2 F2))
    have hO5 := O5.out.lt
    have H6 := Lib.hid (H5.out.grownNew HN.out hg6 (fun j hj => (hO5 j hj).1))
    have F6 := Lib.hid hF6
    have hN6 : 1 + q ≤ 5 := by omega
    clear H5 F5 O5 hF6 hg6 H3 H4 F3 F4 F1 H1 hO5 hz5 hq0 hq1
    have hN0 : 1 ≤ 1 + q := by omega
    generalize 1 + q = n6 at F6 hN6 hN0 hc6 ⊢
    have hN1 : 1 ≤ n6 := by omega
    have hN7 : n6 ≤ 5 := by omega
    go_upto_region 5 with (go_at_call 44; refine (one_any 15 (Read.refl H6.out.1) (by omega) (by decide) (by decide)).mono ?_; rintro e x1 ⟨⟨bb, rfl⟩, hd⟩; have X1 := Lib.hid (H6.out.trans hd); have Y1 := Lib.hid (F6.out.read hd hg); clear hd)
    · go_upto_region 7 with (first
        | (go_at_call 45; have hx := X2; refine (pick_any 3 (Read.refl X2.out.1) (by omega) (by decide) (by decide)).mono ?_; rintro e x3 ⟨⟨r, rfl, hr⟩, hd⟩; have X3 := Lib.hid (X2.out.trans hd); have Y3 := Lib.hid (Y2.out.read hd hg); clear hd hx)
        | (go_at_call 45; refine (pick_any n6 (Read.refl X1.out.1) (by omega) (by omega) (by omega)).mono ?_; rintro e x2 ⟨⟨i, rfl, hi⟩, hd⟩; have X2 := Lib.hid (X1.out.trans hd); have Y2 := Lib.hid (Y1.out.read hd hg); clear hd))
      have hi0 : (0 : Int) ≤ (i : Int) := by omega
      have hi1 : (i : Int) < (n6 : Int) := by omega
      obtain rfl | rfl | rfl : r = 0 ∨ r = 1 ∨ r = 2 := by omega
      · go_wp2_with (go_at_call 111; refine (among_lit [12, 23, -1, 20] (fun _ => True) (Read.refl X3.out.1) (by omega) (by decide) (by decide) (by simp) _).mono ?_; rintro e x4 ⟨⟨q, rfl, _⟩, hd⟩; have X4 := Lib.hid (X3.out.trans hd); have Y4 := Lib.hid (Y3.out.read hd hg); clear hd; obtain ⟨ck, ct, cc1, cc2, _⟩ := Y4.out.at hi; have ff := Y4.out.thaw (o6 + i * 2))
        go_ret
        have hlt := Y4.out.lt.1
        exact ⟨⟨_, _, _, _, _, rfl, Y4.out.set (i * 2) _ (foldsOk_key Y4.out.ok i q), by omega, by omega⟩, HH.out.trans ((X4.out.setNew HN.out hlt _ _).mono (by omega))⟩
      · go_wp2_with (go_at_call 90; refine (of_lit [⟨#[]⟩, ⟨#[73, 110, 103]⟩, ⟨#[97, 98, 99, 100, 101, 102, 103, 104, 105]⟩, ⟨#[97, 98, 99, 100, 101, 102, 103, 104]⟩] 9 (Read.refl X3.out.1) (by omega) (by decide) (by decide) (by decide) _).mono ?_; rintro e x4 ⟨⟨q, rfl, hq⟩, hd⟩; have X4 := Lib.hid (X3.out.trans hd); have Y4 := Lib.hid (Y3.out.read hd hg); clear hd; obtain ⟨ck, ct, cc1, cc2, _⟩ := Y4.out.at hi; have ff := Y4.out.thaw (o6 + i * 2 + 1))
        go_ret
        have hlt := Y4.out.lt.1
        exact ⟨⟨_, _, _, _, _, rfl, Y4.out.set (i * 2 + 1) _ (foldsOk_text Y4.out.ok i q hq), by omega, by omega⟩, HH.out.trans ((X4.out.setNew HN.out hlt _ _).mono (by omega))⟩
      · rw [show ((2 : Nat) : Int) = 2 from rfl]
        go_wp2
        go_loopw [3, 5] (fun s3 s5 wr => ∃ (g' off' n' c' : Nat) (xs' : List Value) (c : Nat), s3 = .slice (some ⟨g', off', none⟩) n' c' ∧ s5 = .int .i64 ((13 + c : Nat) : Int) ∧ c ≤ 5 ∧ 1 ≤ n' ∧ n' ≤ 7 ∧ n' ≤ c' ∧ Hid (FRow wr w.heap.size g' off' (.slice (some ⟨g', off', none⟩) n' c') n' xs') ∧ Read v m g (B + 40 + 2 * c) w wr) (fun _ s5 _ => 18 - (intOf s5).toNat)
        case atStart => exact ⟨_, _, _, _, _, 0, rfl, by go_num, by omega, by omega, by omega, by omega, Y3, X3.out.mono (by omega)⟩
        case round =>
          obtain ⟨g', off', n', c', xs', c, rfl, rfl, hc5, hn1, hn7, hnc, HF, hd⟩ := hrel
          have HR := Lib.hid hd; clear hd
          go_upto_region 15 with (go_at_call 45; refine (pick_any 2 (Read.refl HR.out.1) (by omega) (by decide) (by decide)).mono ?_; rintro e y1 ⟨⟨p, rfl, hp⟩, hd⟩; have Z1 := Lib.hid (HR.out.trans hd); have F9 := Lib.hid (HF.out.read hd hg); clear hd)
          · have hz := HR.out.2.size
            have hz2 := Z1.out.2.size
            go_wp2_with (at_builtin; refine app_frow rfl _ _ rfl w.heap.size g' off' _ n' xs' rfl (F9.out.alloc _) ⟨_, 0, none⟩ 1 (13 + (c : Int)) ⟨#[120]⟩ (by decide) rfl (atom_news _ _ _ _) (by omega) (by rw [World.size_alloc]; omega) ?_; rintro v2 y2 ⟨g2, o2, xs2, hF2⟩ hg2; obtain ⟨c2, rfl, hc2⟩ := hF2.form)
            have hb' := HF.out.lt.1
            have Z2 := Lib.hid ((Z1.out.alloc (.cells #[.int .i64 (13 + (c : Int)), .string ⟨#[120]⟩] 64)).grownNew HN.out hg2 (fun j hj => by cases hj; exact hb'))
            have F2' := Lib.hid hF2
            clear hF2 hg2 Z1 F9 HF HR
            go_roundw
            case rel => exact ⟨g2, o2, n' + 1, c2, xs2, c + 1, rfl, by go_num, by omega, by omega, by omega, by omega, F2', Z2.out.mono (by omega)⟩
            case measure => simp [intOf]; omega
          all_goals go_ret
          all_goals exact ⟨⟨_, _, _, _, _, rfl, F9.out, hn1, hn7⟩, HH.out.trans (Z1.out.mono (by omega))⟩
    · go_ret
      exact ⟨⟨_, _, _, _, _, rfl, Y1.out, by omega, by omega⟩, HH.out.trans (X1.out.mono (by omega))⟩
  · have hN1 : 1 ≤ n := by omega
    have hN7 : n ≤ 5 := by omega
    go_upto_region 5 with (go_at_call 44; refine (one_any 15 (Read.refl H2.out.1) (by omega) (by decide) (by decide)).mono ?_; rintro e x1 ⟨⟨bb, rfl⟩, hd⟩; have X1 := Lib.hid (H2.out.trans hd); have Y1 := Lib.hid (F2.out.read hd hg); clear hd)
    · go_upto_region 7 with (first
        | (go_at_call 45; have hx := X2; refine (pick_any 3 (Read.refl X2.out.1) (by omega) (by decide) (by decide)).mono ?_; rintro e x3 ⟨⟨r, rfl, hr⟩, hd⟩; have X3 := Lib.hid (X2.out.trans hd); have Y3 := Lib.hid (Y2.out.read hd hg); clear hd hx)
        | (go_at_call 45; refine (pick_any n (Read.refl X1.out.1) (by omega) (by omega) (by omega)).mono ?_; rintro e x2 ⟨⟨i, rfl, hi⟩, hd⟩; have X2 := Lib.hid (X1.out.trans hd); have Y2 := Lib.hid (Y1.out.read hd hg); clear hd))
      have hi0 : (0 : Int) ≤ (i : Int) := by omega
      have hi1 : (i : Int) < (n : Int) := by omega
      obtain rfl | rfl | rfl : r = 0 ∨ r = 1 ∨ r = 2 := by omega
      · go_wp2_with (go_at_call 111; refine (among_lit [12, 23, -1, 20] (fun _ => True) (Read.refl X3.out.1) (by omega) (by decide) (by decide) (by simp) _).mono ?_; rintro e x4 ⟨⟨q, rfl, _⟩, hd⟩; have X4 := Lib.hid (X3.out.trans hd); have Y4 := Lib.hid (Y3.out.read hd hg); clear hd; obtain ⟨ck, ct, cc1, cc2, _⟩ := Y4.out.at hi; have ff := Y4.out.thaw (off + i * 2))
        go_ret
        have hlt := Y4.out.lt.1
        exact ⟨⟨_, _, _, _, _, rfl, Y4.out.set (i * 2) _ (foldsOk_key Y4.out.ok i q), by omega, by omega⟩, HH.out.trans ((X4.out.setNew HN.out hlt _ _).mono (by omega))⟩
      · go_wp2_with (go_at_call 90; refine (of_lit [⟨#[]⟩, ⟨#[73, 110, 103]⟩, ⟨#[97, 98, 99, 100, 101, 102, 103, 104, 105]⟩, ⟨#[97, 98, 99, 100, 101, 102, 103, 104]⟩] 9 (Read.refl X3.out.1) (by omega) (by decide) (by decide) (by decide) _).mono ?_; rintro e x4 ⟨⟨q, rfl, hq⟩, hd⟩; have X4 := Lib.hid (X3.out.trans hd); have Y4 := Lib.hid (Y3.out.read hd hg); clear hd; obtain ⟨ck, ct, cc1, cc2, _⟩ := Y4.out.at hi; have ff := Y4.out.thaw (off + i * 2 + 1))
        go_ret
        have hlt := Y4.out.lt.1
        exact ⟨⟨_, _, _, _, _, rfl, Y4.out.set (i * 2 + 1) _ (foldsOk_text Y4.out.ok i q hq), by omega, by omega⟩, HH.out.trans ((X4.out.setNew HN.out hlt _ _).mono (by omega))⟩
      · rw [show ((2 : Nat) : Int) = 2 from rfl]
        go_wp2
        go_loopw [3, 5] (fun s3 s5 wr => ∃ (g' off' n' c' : Nat) (xs' : List Value) (c : Nat), s3 = .slice (some ⟨g', off', none⟩) n' c' ∧ s5 = .int .i64 ((13 + c : Nat) : Int) ∧ c ≤ 5 ∧ 1 ≤ n' ∧ n' ≤ 7 ∧ n' ≤ c' ∧ Hid (FRow wr w.heap.size g' off' (.slice (some ⟨g', off', none⟩) n' c') n' xs') ∧ Read v m g (B + 20 + 2 * c) w wr) (fun _ s5 _ => 18 - (intOf s5).toNat)
        case atStart => exact ⟨_, _, _, _, _, 0, rfl, by go_num, by omega, by omega, by omega, by omega, Y3, X3.out.mono (by omega)⟩
        case round =>
          obtain ⟨g', off', n', c', xs', c, rfl, rfl, hc5, hn1, hn7, hnc, HF, hd⟩ := hrel
          have HR := Lib.hid hd; clear hd
          go_upto_region 15 with (go_at_call 45; refine (pick_any 2 (Read.refl HR.out.1) (by omega) (by decide) (by decide)).mono ?_; rintro e y1 ⟨⟨p, rfl, hp⟩, hd⟩; have Z1 := Lib.hid (HR.out.trans hd); have F9 := Lib.hid (HF.out.read hd hg); clear hd)
          · have hz := HR.out.2.size
            have hz2 := Z1.out.2.size
            go_wp2_with (at_builtin; refine app_frow rfl _ _ rfl w.heap.size g' off' _ n' xs' rfl (F9.out.alloc _) ⟨_, 0, none⟩ 1 (13 + (c : Int)) ⟨#[120]⟩ (by decide) rfl (atom_news _ _ _ _) (by omega) (by rw [World.size_alloc]; omega) ?_; rintro v2 y2 ⟨g2, o2, xs2, hF2⟩ hg2; obtain ⟨c2, rfl, hc2⟩ := hF2.form)
            have hb' := HF.out.lt.1
            have Z2 := Lib.hid ((Z1.out.alloc (.cells #[.int .i64 (13 + (c : Int)), .string ⟨#[120]⟩] 64)).grownNew HN.out hg2 (fun j hj => by cases hj; exact hb'))
            have F2' := Lib.hid hF2
            clear hF2 hg2 Z1 F9 HF HR
            go_roundw
            case rel => exact ⟨g2, o2, n' + 1, c2, xs2, c + 1, rfl, by go_num, by omega, by omega, by omega, by omega, F2', Z2.out.mono (by omega)⟩
            case measure => simp [intOf]; omega
          all_goals go_ret
          all_goals exact ⟨⟨_, _, _, _, _, rfl, F9.out, hn1, hn7⟩, HH.out.trans (Z1.out.mono (by omega))⟩
    · go_ret
      exact ⟨⟨_, _, _, _, _, rfl, Y1.out, by omega, by omega⟩, HH.out.trans (X1.out.mono (by omega))⟩

end Go.Proofs.YtdidgaibgkdjoaaGreatDoor
