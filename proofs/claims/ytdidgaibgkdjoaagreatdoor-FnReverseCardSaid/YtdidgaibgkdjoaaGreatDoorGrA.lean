/-
  CONTRACT: an entry that is drawn.
  CONTRACTS: a dictionary that is drawn, and an outline that may be one of its own.
  CONTRACT: an outline that is one of a dictionary's own, or any: known.
  MEMORY: a row of folds of the call's own, which may be the tail of another: read, set, appended to.
  CONTRACTS: the draws of folds and of an outline for a fold: l10DrawFolds, l10DrawFold, l10DrawOutline, DrawUnfold, DrawFoldInto.
-/
import Derived.Test.YtdidgaibgkdjoaaGreatDoorDrawPut
import Derived.ArgAppend
namespace Go.Proofs.YtdidgaibgkdjoaaGreatDoor
open Go.RowKit

/-- an entry, in new memory -/
def DrawnN (v : Value) (m g B : Nat) (w w0 : World) (e : Ending) (w' : World) : Prop :=
  (∃ (la lc : Nat) (l : List Int) (t : ByteArray), e = .returned (.agg #[.slice (some ⟨la, 0, none⟩) l.length lc, .string t]) ∧ w'.ownsRow w.heap.size 3 1 (.slice (some ⟨la, 0, none⟩) l.length lc) l.length (ints l) ∧ 1 ≤ l.length ∧ l.length ≤ 3 ∧ t.size ≤ 1070) ∧ Read v m g B w0 w'
theorem keptE (w : World) (T : TypeId) : (w.alloc (.cells #[.slice none 0 0, .string ⟨#[]⟩] T)).cell? ⟨w.heap.size, 0, none⟩ = some (.slice none 0 0) ∧ (w.alloc (.cells #[.slice none 0 0, .string ⟨#[]⟩] T)).cell? ⟨w.heap.size, 1, none⟩ = some (.string ⟨#[]⟩) ∧ thawed (w.alloc (.cells #[.slice none 0 0, .string ⟨#[]⟩] T)) w.heap.size := by
  refine ⟨?_, ?_, fun i => ?_⟩
  all_goals simp [go_sem]
theorem own_set2 {w : World} {b : Nat} {E : TypeId} {s n : Nat} {v : Value} {xs : List Value} (h : w.ownsRow (b + 1) E s v n xs) (i j : Nat) (x y : Value) : ((w.setCell ⟨b, i, none⟩ x).setCell ⟨b, j, none⟩ y).ownsRow b E s v n xs := by
  refine own_lower2 (h.kept (grownBy_trans (grown_set _ _ _ _) (grown_set _ _ _ _)) ?_) (Nat.le_succ b)
  cases hv : v.ownBlock with
  | none => exact .inl rfl
  | some k => exact .inr (fun e => by have := (h.lt k hv).1; injection e with e; omega)

set_option maxHeartbeats 1600000 in
theorem entry_any {v : Value} {m g B : Nat} {w0 w : World} (h : Read v m g B w0 w) (hB : B ≤ 600000000) :
    Calls Tryz.prog 89 #[.pointer (some ⟨g, 0, none⟩)] w (DrawnN v m g (B + 200) w w0) := by
  have h1 := h.1
  have hg := h1.lt
  have hne : w.heap.size ≠ g := by omega
  have hgs : g < w.heap.size + 1 := by omega
  have HS := Lib.hid (World.size_alloc w (.cells #[.slice none 0 0, .string ⟨#[]⟩] 39))
  have HA := Lib.hid ((Read.refl h1).alloc (.cells #[.slice none 0 0, .string ⟨#[]⟩] 39))
  have C := Lib.hid (keptE w 39)
  have HH := Lib.hid h; have HN := Lib.hid h1; clear h h1
  go_enter Tryz.func89, Tryz.ntmps89
  go_wp2_with (first
    | (go_at_call 46; have hx := O1; refine (translation_any (Read.refl H1.out.1) (by omega)).mono ?_; rintro e w2 ⟨⟨t, rfl, ht⟩, hd⟩; have O2 := Lib.hid (own_read O1.out hd hgs); have H2 := Lib.hid (H1.out.trans hd); have hc0 := H2.out.cellK hne C.out.1; have hc1 := H2.out.cellK hne C.out.2.1; have hf0 := H2.out.thaw hne (by rw [HS.out]; omega) C.out.2.2 0; have hf1 := H2.out.thaw hne (by rw [HS.out]; omega) C.out.2.2 1; clear hd hx)
    | (go_at_call 138; refine (outline_any (Read.refl HA.out.1) (by omega)).mono ?_; rintro e w1 ⟨⟨la, lc, l, rfl, hown, hl1, hl⟩, hd⟩; have O1 := Lib.hid (own_lower2 hown (Nat.le_of_eq HS.out.symm)); have H1 := Lib.hid hd; clear hd hown))
  refine bodyPost_ret (v := .agg #[.slice (some ⟨la, 0, none⟩) l.length lc, .string t]) (by simp [results, Tryz.results89, go_sem, *]) rfl ⟨⟨_, _, l, t, rfl, own_set2 O2.out 0 1 _ _, hl1, hl, ht⟩, HH.out.trans (((HA.out.trans H2.out).setNew HN.out (Nat.le_refl _) 0 _).setNew HN.out (Nat.le_refl _) 1 _ |>.mono (by omega))⟩

end Go.Proofs.YtdidgaibgkdjoaaGreatDoor

namespace Go.Proofs.YtdidgaibgkdjoaaGreatDoor
open Go.RowKit

/-- what is told of drawn entries -/
def SmallD (L : List Ent) : Prop := ∀ q ∈ L, 1 ≤ q.1.length ∧ q.1.length ≤ 3 ∧ q.2.size ≤ 1070
/-- a dictionary, in new memory -/
def DrawnD (v : Value) (m g B : Nat) (w w0 : World) (most : Nat) (e : Ending) (w' : World) : Prop :=
  (∃ (dv : Value) (L : List Ent), e = .returned (.agg #[dv]) ∧ OwnD w' w.heap.size dv L ∧ 1 ≤ L.length ∧ L.length ≤ most ∧ SmallD L) ∧ Read v m g B w0 w'
/-- the variable and the result -/
def DicV (w : World) (b : Nat) (dv : Value) : Prop := (w.cell? ⟨b, 0, none⟩ = some (.slice none 0 0) ∧ w.frozen? ⟨b, 0, none⟩ = false) ∧ w.cell? ⟨b + 1, 0, none⟩ = some dv ∧ w.frozen? ⟨b + 1, 0, none⟩ = false
theorem dicV_new (w : World) (o : Obj) (T T' : TypeId) (ho : o = .cells #[.slice none 0 0] T') : DicV ((w.alloc o).alloc (.cells #[.slice none 0 0] T)) w.heap.size (.slice none 0 0) := by
  subst ho
  refine ⟨⟨?_, ?_⟩, ?_, ?_⟩
  all_goals simp [go_sem]
theorem DicV.keep {w w' : World} {b : Nat} {dv : Value} (h : DicV w b dv) (hb : Below w.heap.size w w') : DicV w' b dv := by
  obtain ⟨⟨h1, h2⟩, h3, h4⟩ := h
  exact ⟨⟨keepcP hb h1, by rw [hb.frozen (p := ⟨b, 0, none⟩) (World.block_lt_of_cell? _ _ h1)]; exact h2⟩, keepcP hb h3, by rw [hb.frozen (p := ⟨b + 1, 0, none⟩) (World.block_lt_of_cell? _ _ h3)]; exact h4⟩
theorem DicV.read {v : Value} {m g B : Nat} {a b : World} {n : Nat} {dv : Value} (h : DicV a n dv) (hd : Read v m g B a b) (hg : g < n) : DicV b n dv := by
  obtain ⟨⟨h1, h2⟩, h3, h4⟩ := h
  have n1 : n ≠ g := by omega
  have n2 : n + 1 ≠ g := by omega
  exact ⟨⟨hd.cellK n1 h1, (hd.cell (World.block_lt_of_cell? _ _ h1) n1 0).2.trans h2⟩, hd.cellK n2 h3, (hd.cell (World.block_lt_of_cell? _ _ h3) n2 0).2.trans h4⟩
theorem DicV.drewN {w : World} {n : Nat} {dv : Value} (h : DicV w n dv) (k : Nat) : DicV (w.drewN k) n dv := h
theorem DicV.store {w : World} {n : Nat} {dv : Value} (h : DicV w n dv) (x : Value) : DicV (w.setCell ⟨n + 1, 0, none⟩ x) n x := by
  obtain ⟨⟨h1, h2⟩, h3, h4⟩ := h
  exact ⟨⟨set1o h1 (by omega), by rw [World.frozen?_setCell]; exact h2⟩, World.cell?_setCell_same _ _ _ h3, by rw [World.frozen?_setCell]; exact h4⟩
theorem SmallD.put {L L' : List Ent} {p : List Int} {t : ByteArray} (h : SmallD L) (hq : ∀ q ∈ L', q ∈ L ∨ q = (p, t)) (h1 : 1 ≤ p.length) (h2 : p.length ≤ 3) (h3 : t.size ≤ 1070) : SmallD L' := by
  intro q hm
  rcases hq q hm with h' | rfl
  · exact h q h'
  · exact ⟨h1, h2, h3⟩

set_option maxRecDepth 20000 in
set_option maxHeartbeats 1600000 in
theorem dictionary_any {v : Value} {m g B : Nat} {w0 w : World} (h : Read v m g B w0 w) (hB : B ≤ 500000000) :
    Calls Tryz.prog 64 #[.pointer (some ⟨g, 0, none⟩)] w (DrawnD v m g (B + 3000) w w0 9) := by
  have h1 := h.1
  have hg := h1.lt
  have HA := Lib.hid (((Read.refl h1).alloc (.cells #[.slice none 0 0] 26)).alloc (.cells #[.slice none 0 0] 26))
  have HV := Lib.hid (dicV_new w (.cells #[.slice none 0 0] 26) 26 _ rfl)
  have HH := Lib.hid h; have HN := Lib.hid h1; clear h h1
  go_enter Tryz.func64, Tryz.ntmps64
  go_wp2_with (go_at_call 45; refine (pick_any 7 (Read.refl HA.out.1) (by omega) (by omega) (by omega)).mono ?_; rintro e w1 ⟨⟨ra, rfl, hra⟩, hd⟩; have H1 := Lib.hid (HA.out.trans hd); have V1 := Lib.hid (HV.out.read hd hg); clear hd HA HV)
  go_loopw [4] (fun n wr => ∃ (k : Nat) (dv : Value) (L : List Ent), n = .int .i64 k ∧ L.length + k ≤ 9 ∧ 1 ≤ L.length + k ∧ Hid (SmallD L) ∧ Hid (DicV wr w.heap.size dv) ∧ Hid (OwnD wr (w.heap.size + 2) dv L) ∧ Read v m g (B + 2 + 200 * (9 - k)) w wr) (fun n _ => (intOf n).toNat)
  case atStart => exact ⟨3 + ra, _, [], by go_num, by simp; omega, by simp; omega, Lib.hid (fun q hq => by cases hq), V1, Lib.hid (OwnD.nil _ _), H1.out.mono (by omega)⟩
  clear H1 V1
  case round =>
    obtain ⟨k, dv, L, rfl, hk, hk2, HSm, HV, HO, hd⟩ := hrel
    have HR := Lib.hid hd; clear hd
    obtain ⟨ad, cd, rfl⟩ := HO.out.form
    have c1 := HV.out.2.1
    by_cases h0 : 0 < k
    · have hk1 : (0 : Int) < (k : Int) := by omega
      go_upto_region 5 with fail
      refine wp_region_last (n := 4) (S := fun w' => w'.cell? ⟨w.heap.size + 1, 0, none⟩ = some (.slice ad L.length cd)) (by kernel_rfl) (by kernel_rfl) c1 (fun hHeld => ?_)
      refine takeH 0 13 (.agg #[.slice ad L.length cd]) rfl (by kernel_rfl) (by kernel_rfl) (by kernel_rfl) (by kernel_rfl) (fun _ _ _ _ h => h) hHeld (Or.inl ⟨rfl, fun w' hw => by first | rfl | (go_simp; done)⟩) ?_
      try simp only [Act.put, List.setIfInBounds_toArray, List.set_cons_zero, List.set_cons_succ]
      refine takeH 1 14 (.pointer (some ⟨g, 0, none⟩)) rfl (by kernel_rfl) (by kernel_rfl) (by kernel_rfl) (by kernel_rfl) (fun _ _ _ _ h => h) hHeld (Or.inl ⟨rfl, fun w' hw => by first | rfl | (go_simp; done)⟩) ?_
      try simp only [Act.put, List.setIfInBounds_toArray, List.set_cons_zero, List.set_cons_succ]
      refine wpAnyH_ready (rs := [2]) (by kernel_rfl) (by simp) ?_
      refine AllReadyH.cons (o := _) rfl (fun K hK => ?_) AllReadyH.nil
      go_simp
      (go_at_call 89; refine (entry_any (w := wr.drew) (Read.refl HR.out.1) (by omega)).mono ?_; rintro e w1 ⟨⟨la, lc, p, t, rfl, hown, hp1, hp2, ht⟩, hd⟩)
      have e1 : w1.cell? ⟨w.heap.size + 1, 0, none⟩ = some (.slice ad L.length cd) := ((HV.out.drewN 1).read hd hg).2.1
      have V1 := Lib.hid ((HV.out.drewN 1).read hd hg)
      have HW := Lib.hid ((show Read v m g (B + 2 + 200 * (9 - k)) w wr.drew from HR.out.to 1).trans hd)
      have HO1 := Lib.hid ((show OwnD wr.drew (w.heap.size + 2) (.slice ad L.length cd) L from HO.out).read hd (by omega))
      have HE := Lib.hid (Rows.of_own hown)
      clear hown hd
      go_wp2_with fail
      refine hK.out _ _ e1 (fun hHeld2 => ?_)
      clear hK K hHeld
      have hHeld := hHeld2
      clear hHeld2
      try simp only [Act.put, List.setIfInBounds_toArray, List.set_cons_zero, List.set_cons_succ]
      refine wpAnyH_ready (rs := [3]) (by kernel_rfl) (by simp) ?_
      refine AllReadyH.cons (o := _) rfl (fun K hK => ?_) AllReadyH.nil
      go_simp
      (go_at_call 109; refine (l6Put_any _ _ L p t w1 HO1.out.ents (by omega) (fun q hq => by have := HSm.out q hq; omega) HE.out (by omega)).mono ?_; rintro e w2 ⟨dv2, L2, rfl, hO2, hm2, hl2, hl3, hb⟩)
      obtain ⟨a2, c2, rfl⟩ := hO2.form
      have V2 := Lib.hid (V1.out.keep hb)
      have e2 := V2.out.2.1
      have f2 := V2.out.2.2
      have hs1 : w.heap.size + 2 ≤ w1.heap.size := World.block_lt_of_cell? _ _ e1
      have HW2 := Lib.hid (HW.out.onB hb)
      have HO2 := Lib.hid (hO2.lower hs1)
      have HS2 := Lib.hid (HSm.out.put hm2 hp1 hp2 ht)
      clear hO2 hb hm2
      go_wp2_with fail
      refine hK.out _ _ e2 (fun hHeld2 => ?_)
      clear hK K hHeld hHeld2
      try simp only [Act.put, List.setIfInBounds_toArray]
      refine wpAnyH_done (by kernel_rfl) ?_ _
      refine thenLast_normal (wpOp_step (o := _) rfl (fun K hK => ?_))
      go_simp
      refine hK _ _ ?_
      have HV3 := Lib.hid (V2.out.store (.slice a2 L2.length c2))
      have HO3 := Lib.hid (HO2.out.kept (grown_set w2 (w.heap.size + 1) 0 (.slice a2 L2.length c2)) (fun g hk => .inl (by cases hk; omega)))
      have HW3 := Lib.hid (HW2.out.setNew HN.out (show w.heap.size ≤ w.heap.size + 1 by omega) 0 (.slice a2 L2.length c2))
      clear hK e1 e2 f2 c1 V1 V2 HW HW2 HO HO1 HO2 HE HV HR
      go_wp2
      go_roundw
      case rel => exact ⟨k - 1, _, L2, by go_num, by omega, by omega, HS2, HV3, HO3, HW3.out.mono (by omega)⟩
      case measure => simp [intOf]; omega
    · have hk1 : ¬ (0 : Int) < (k : Int) := by omega
      have c0 := HV.out.1.1
      have f0 := HV.out.1.2
      have hs0 : w.heap.size + 2 ≤ wr.heap.size := World.block_lt_of_cell? _ _ c1
      go_wp2
      refine bodyPost_ret (v := .agg #[.slice ad L.length cd]) (by simp [results, Tryz.results64, go_sem, *]) rfl ⟨⟨_, L, rfl, ?_, by omega, by omega, HSm.out⟩, ?_⟩
      · exact OwnD.lower (HO.out.kept (grown_set _ _ _ _) (fun g hk => .inl (by cases hk; omega))) (Nat.le_add_right _ _)
      · exact HH.out.trans ((HR.out.setNew HN.out (Nat.le_refl _) 0 _).mono (by omega))

end Go.Proofs.YtdidgaibgkdjoaaGreatDoor

namespace Go.Proofs.YtdidgaibgkdjoaaGreatDoor
open Go.RowKit

set_option maxRecDepth 20000 in
set_option maxHeartbeats 1600000 in
theorem known_any {v : Value} {m g B : Nat} {w0 w : World} (base : Nat) (vd : Value) (L : List Ent) (h : Read v m g B w0 w) (hB : B ≤ 500000000) (hO : OwnD w base vd L) (hgb : g < base) (h1L : 1 ≤ L.length) (hL : L.length ≤ 100) (hs : ∀ q ∈ L, 1 ≤ q.1.length ∧ q.1.length ≤ 100) :
    Calls Tryz.prog 112 #[.pointer (some ⟨g, 0, none⟩), .agg #[vd]] w (DrawnO v m g (B + 300) w w0 0 100) := by
  have h1 := h.1
  have hg := h1.lt
  obtain ⟨ad, cd, rfl⟩ := hO.form
  obtain ⟨b, off, _, rfl, _⟩ := ent_at hO.ents 0 (by omega)
  have HA := Lib.hid ((Read.refl h1).alloc (.cells #[.slice (some ⟨b, off, none⟩) L.length cd] 26))
  have HOA := Lib.hid (hO.alloc (.cells #[.slice (some ⟨b, off, none⟩) L.length cd] 26))
  have cv : (w.alloc (.cells #[.slice (some ⟨b, off, none⟩) L.length cd] 26)).cell? ⟨w.heap.size, 0, none⟩ = some (.slice (some ⟨b, off, none⟩) L.length cd) := by rw [World.cell?_alloc_mark]; rfl
  have hne : w.heap.size ≠ g := by omega
  have hlL : (0 : Int) < (L.length : Int) := by omega
  have HCV := Lib.hid cv
  have HZ := Lib.hid (World.size_alloc w (.cells #[.slice (some ⟨b, off, none⟩) L.length cd] 26))
  have HS := Lib.hid hs
  have HH := Lib.hid h; have HN := Lib.hid h1; clear h h1 hO hs
  go_enter Tryz.func112, Tryz.ntmps112
  go_upto_region 1 with fail
  have hcd := HCV.out
  go_upto_region 2 with (first | (go_at_call 91; have hx := H1; refine (anyOutline_any (Read.refl H1.out.1) (by omega)).mono ?_; rintro e w2 ⟨⟨lg, lc, l, rfl, hown, hl1, hl⟩, hd⟩; have H2 := Lib.hid (H1.out.trans hd); have O2 := Lib.hid (own_lower2 hown (show w.heap.size ≤ w1.heap.size by have := HZ1.out; rw [HZ.out] at this; omega)); clear hd hown hx) | (go_at_call 44; refine (one_any 3 (Read.refl HA.out.1) (by omega) (by decide) (by decide)).mono ?_; rintro e w1 ⟨⟨ba, rfl⟩, hd⟩; have H1 := Lib.hid (HA.out.trans hd); have O1 := Lib.hid (HOA.out.read hd hgb); have c1 := hd.cellK hne cv; have HZ1 := Lib.hid hd.2.size; clear hd))
  · refine wp_region_held_drew (S := fun w' => w'.cell? ⟨w.heap.size, 0, none⟩ = some (.slice (some ⟨b, off, none⟩) L.length cd)) (by kernel_rfl) c1 (fun hHeld => ?_)
    refine takeH 0 14 (.pointer (some ⟨w.heap.size, 0, none⟩)) rfl (by kernel_rfl) (by kernel_rfl) (by kernel_rfl) (by kernel_rfl) (fun _ _ _ _ h => h) hHeld (Or.inl ⟨rfl, fun w' hw => by first | rfl | (go_simp; done)⟩) ?_
    try simp only [Act.put, List.setIfInBounds_toArray, List.set_cons_zero, List.set_cons_succ]
    refine takeH 1 15 (.slice (some ⟨b, off, none⟩) L.length cd) rfl (by kernel_rfl) (by kernel_rfl) (by kernel_rfl) (by kernel_rfl) (fun _ _ _ _ h => h) hHeld (Or.inl ⟨rfl, fun w' hw => by first | rfl | (go_simp; done)⟩) ?_
    try simp only [Act.put, List.setIfInBounds_toArray, List.set_cons_zero, List.set_cons_succ]
    refine takeH 2 16 (.pointer (some ⟨g, 0, none⟩)) rfl (by kernel_rfl) (by kernel_rfl) (by kernel_rfl) (by kernel_rfl) (fun _ _ _ _ h => h) hHeld (Or.inl ⟨rfl, fun w' hw => by first | rfl | (go_simp; done)⟩) ?_
    try simp only [Act.put, List.setIfInBounds_toArray, List.set_cons_zero, List.set_cons_succ]
    refine takeH 3 17 (.pointer (some ⟨w.heap.size, 0, none⟩)) rfl (by kernel_rfl) (by kernel_rfl) (by kernel_rfl) (by kernel_rfl) (fun _ _ _ _ h => h) hHeld (Or.inl ⟨rfl, fun w' hw => by first | rfl | (go_simp; done)⟩) ?_
    try simp only [Act.put, List.setIfInBounds_toArray, List.set_cons_zero, List.set_cons_succ]
    refine takeH 4 18 (.slice (some ⟨b, off, none⟩) L.length cd) rfl (by kernel_rfl) (by kernel_rfl) (by kernel_rfl) (by kernel_rfl) (fun _ _ _ _ h => h) hHeld (Or.inl ⟨rfl, fun w' hw => by first | rfl | (go_simp; done)⟩) ?_
    try simp only [Act.put, List.setIfInBounds_toArray, List.set_cons_zero, List.set_cons_succ]
    refine takeH 5 19 (.int .i64 (L.length : Int)) rfl (by kernel_rfl) (by kernel_rfl) (by kernel_rfl) (by kernel_rfl) (fun _ _ _ _ h => h) hHeld (Or.inl ⟨rfl, fun w' hw => by first | rfl | (go_simp; done)⟩) ?_
    try simp only [Act.put, List.setIfInBounds_toArray, List.set_cons_zero, List.set_cons_succ]
    refine wpAnyH_ready (rs := [6]) (by kernel_rfl) (by simp) ?_
    refine AllReadyH.cons (o := _) rfl (fun K hK => ?_) AllReadyH.nil
    go_simp
    (go_at_call 45; refine (pick_any (w := w1.drew) L.length (Read.refl H1.out.1) (by omega) (by omega) (by omega)).mono ?_; rintro e w2 ⟨⟨r, rfl, hr⟩, hd⟩)
    have e2 := hd.cellK hne c1
    have H2 := Lib.hid ((show Read v m g (B + 2) w w1.drew from H1.out.to 1).trans hd)
    have O2 := Lib.hid ((show OwnD w1.drew base (.slice (some ⟨b, off, none⟩) L.length cd) L from O1.out).read hd hgb)
    have hz2 : w.heap.size ≤ w2.heap.size := H2.out.2.size
    clear hd
    obtain ⟨b', off', u, hbe, d1, d2, d3⟩ := ent_at O2.out.ents r hr
    cases hbe
    have hfk := HS.out _ (List.getElem_mem hr)
    generalize L[r] = en at d1 d2 d3 hfk
    obtain ⟨pl, pt⟩ := en
    dsimp only at d1 d2 d3 hfk
    have d3' := d3
    obtain ⟨au, cu, rfl, hcu, _, _, _, hcx⟩ := d3
    obtain ⟨bu, ou, rfl⟩ : ∃ bu ou, au = some ⟨bu, ou, none⟩ := by
      obtain ⟨b1, o1, e1, _⟩ := hcx _ _ (ints_at pl 0 (by omega))
      exact ⟨b1, o1, e1⟩
    have HX := Lib.hid hcx
    clear hcx d3'
    have hr0 : (0 : Int) ≤ (r : Int) := by omega
    have hr1 : (r : Int) < (L.length : Int) := by omega
    go_wp2_with fail
    refine hK.out _ _ e2 (fun hHeld2 => ?_)
    clear hK K hHeld
    have hHeld := hHeld2
    clear hHeld2
    try simp only [Act.put, List.setIfInBounds_toArray, List.set_cons_zero, List.set_cons_succ]
    refine takeH 7 21 (.pointer (some ⟨b, off + r * 2, none⟩)) rfl (by kernel_rfl) (by kernel_rfl) (by kernel_rfl) (by kernel_rfl) (fun _ _ _ _ h => h) hHeld (Or.inl ⟨rfl, fun w' hw => by first | rfl | (go_simp; done)⟩) ?_
    try simp only [Act.put, List.setIfInBounds_toArray, List.set_cons_zero, List.set_cons_succ]
    refine takeH 8 22 (.pointer (some ⟨b, off + r * 2, none⟩)) rfl (by kernel_rfl) (by kernel_rfl) (by kernel_rfl) (by kernel_rfl) (fun _ _ _ _ h => h) hHeld (Or.inl ⟨rfl, fun w' hw => by first | rfl | (go_simp; done)⟩) ?_
    try simp only [Act.put, List.setIfInBounds_toArray, List.set_cons_zero, List.set_cons_succ]
    refine wpAnyH_ready (rs := [9]) (by kernel_rfl) (by simp) ?_
    refine AllReadyH.cons (o := _) rfl (fun K hK => ?_) AllReadyH.nil
    go_simp
    refine hK.out _ _ e2 (fun hHeld2 => ?_)
    clear hK K hHeld
    have hHeld := hHeld2
    clear hHeld2
    try simp only [Act.put, List.setIfInBounds_toArray, List.set_cons_zero, List.set_cons_succ]
    refine wpAnyH_ready (rs := [10]) (by kernel_rfl) (by simp) ?_
    refine AllReadyH.cons (o := _) rfl (fun K hK => ?_) AllReadyH.nil
    go_simp
    (go_at_call 50; refine (l1Own_w bu ou pl.length cu pl _ rfl HX.out (by omega)).mono ?_; rintro e w3 ⟨uq, rfl, hown, hb⟩; obtain ⟨uqa, uqc, rfl⟩ := Joins.ownsRow_form hown (by omega))
    have e3 := keepcP hb e2
    have H3 := Lib.hid (H2.out.onB hb)
    have O3 := Lib.hid (own_lower2 (b' := w.heap.size) hown hz2)
    clear hown hb
    go_wp2_with fail
    refine hK.out _ _ e3 (fun hHeld2 => ?_)
    clear hK K hHeld
    have hHeld := hHeld2
    clear hHeld2
    try simp only [Act.put, List.setIfInBounds_toArray, List.set_cons_zero, List.set_cons_succ]
    refine takeH 11 4 (.slice (some ⟨uqa, 0, none⟩) pl.length uqc) rfl (by kernel_rfl) (by kernel_rfl) (by kernel_rfl) (by kernel_rfl) (fun _ _ _ _ h => h) hHeld (Or.inl ⟨rfl, fun w' hw => by first | rfl | (go_simp; done)⟩) ?_
    try simp only [Act.put, List.setIfInBounds_toArray, List.set_cons_zero, List.set_cons_succ]
    refine wpAnyH_done (by kernel_rfl) ?_ _
    go_wp2
    go_ret
    exact ⟨⟨_, _, pl, rfl, O3.out, by omega, by omega⟩, HH.out.trans (H3.out.mono (by omega))⟩
  · go_ret
    exact ⟨⟨_, _, l, rfl, O2.out, by omega, by omega⟩, HH.out.trans (H2.out.mono (by omega))⟩

end Go.Proofs.YtdidgaibgkdjoaaGreatDoor

namespace Go.Proofs.YtdidgaibgkdjoaaGreatDoor
open Go.RowKit

theorem Tryz.infoFol : (Tryz.prog.info? 64).map (fun i => (i.zero, i.size, i.bytes)) = some (some (.agg #[.int .i64 0, .string ⟨#[]⟩]), 2, 24) := by kernel_rfl
/-- a key and a short text at each place -/
def FoldsOk (xs : List Value) (n : Nat) : Prop := xs.length = n * 2 ∧ ∀ j, j < n → ∃ (k : Int) (t : ByteArray), xs[j * 2]? = some (.int .i64 k) ∧ xs[j * 2 + 1]? = some (.string t) ∧ t.size ≤ 9
/-- the row -/
def FRow (w : World) (base g off : Nat) (v : Value) (n : Nat) (xs : List Value) : Prop :=
  ∃ cap cur, v = .slice (some ⟨g, off, none⟩) n cap ∧ base ≤ g ∧ w.heap[g]? = some (.cells cur 64 (0, 0)) ∧ cur.size = off + cap * 2 ∧ n ≤ cap ∧ cap ≤ maxLen ∧ (off = 0 ∨ cap = n) ∧ (cur.toList.drop off).take (n * 2) = xs ∧ FoldsOk xs n
theorem FRow.lt {w : World} {base g off : Nat} {v : Value} {n : Nat} {xs : List Value} (h : FRow w base g off v n xs) : base ≤ g ∧ g < w.heap.size := by
  obtain ⟨cap, cur, _, h1, h2, _⟩ := h
  exact ⟨h1, (Array.getElem?_eq_some_iff.1 h2).1⟩
theorem FRow.kept {w w' : World} {base g off : Nat} {v : Value} {n : Nat} {xs : List Value} {r : Option Nat} (h : FRow w base g off v n xs) (hg : w.grownBy w' r) (hr : r ≠ some g) : FRow w' base g off v n xs := by
  have hlt := h.lt
  obtain ⟨cap, cur, e, h1, h2, h3⟩ := h
  exact ⟨cap, cur, e, h1, by rw [hg.block g hlt.2 (fun e => hr e.symm)]; exact h2, h3⟩
theorem FRow.keep {w w' : World} {base g off : Nat} {v : Value} {n : Nat} {xs : List Value} (h : FRow w base g off v n xs) (hb : Below w.heap.size w w') : FRow w' base g off v n xs :=
  h.kept (below_grown hb none) (by intro e; cases e)
theorem FRow.alloc {w : World} {base g off : Nat} {v : Value} {n : Nat} {xs : List Value} (h : FRow w base g off v n xs) (o : Obj) : FRow (w.alloc o) base g off v n xs := h.keep (Joins.below_alloc1 _ _)
theorem FRow.read {v0 : Value} {m c B : Nat} {a b : World} {base g off : Nat} {v : Value} {n : Nat} {xs : List Value} (h : FRow a base g off v n xs) (hd : Read v0 m c B a b) (hc : c < base) : FRow b base g off v n xs :=
  h.kept hd.2 (fun e => by have := h.lt.1; injection e with e; omega)
theorem FRow.cell {w : World} {base g off : Nat} {v : Value} {n : Nat} {xs : List Value} (h : FRow w base g off v n xs) {j : Nat} {u : Value} (hj : xs[j]? = some u) : w.cell? ⟨g, off + j, none⟩ = some u := by
  obtain ⟨cap, cur, _, _, h2, _, _, _, _, h3, h4, _⟩ := h
  have hl : j < n * 2 := by rw [← h4]; exact (List.getElem?_eq_some_iff.1 hj).1
  rw [← h3, List.getElem?_take_of_lt hl, List.getElem?_drop] at hj
  simp only [World.cell?, h2]
  simpa using hj
theorem FRow.own {w : World} {base g off : Nat} {v : Value} {n : Nat} {xs : List Value} (h : FRow w base g off v n xs) (h0 : off = 0) : w.ownsRow base 64 2 v n xs := by
  subst h0
  obtain ⟨cap, cur, rfl, h1, h2, h3, h4, h5, _, h6, h7, _⟩ := h
  exact ⟨h7, .inr ⟨g, cap, cur, rfl, h1, h2, h4, h5, by omega, by rw [List.drop_zero] at h6; exact h6⟩⟩
theorem FRow.of_own {w : World} {base : Nat} {v : Value} {n : Nat} {xs : List Value} (h : w.ownsRow base 64 2 v n xs) (hn : 1 ≤ n) (hk : FoldsOk xs n) : ∃ g, FRow w base g 0 v n xs := by
  rcases h.2 with ⟨_, h0⟩ | ⟨g, cap, cur, rfl, h1, h2, h3, h4, h5, h6⟩
  · omega
  · exact ⟨g, cap, cur, rfl, h1, h2, by omega, h3, h4, .inl rfl, by rw [List.drop_zero]; exact h6, hk⟩
theorem FRow.rows {w : World} {base g off : Nat} {v : Value} {n : Nat} {xs : List Value} (h : FRow w base g off v n xs) : ∃ a c, v = .slice (some ⟨g, off, none⟩) n c ∧ a = g := by
  obtain ⟨cap, _, e, _⟩ := h
  exact ⟨g, cap, e, rfl⟩
theorem FRow.lower {w : World} {b b' g off : Nat} {v : Value} {n : Nat} {xs : List Value} (h : FRow w b g off v n xs) (hb : b' ≤ b) : FRow w b' g off v n xs := by
  obtain ⟨cap, cur, e, h1, h2⟩ := h
  exact ⟨cap, cur, e, Nat.le_trans hb h1, h2⟩
theorem foldsOk_put {xs : List Value} {n : Nat} (h : FoldsOk xs n) (k : Int) (t : ByteArray) (ht : t.size ≤ 9) : FoldsOk (xs ++ [.int .i64 k, .string t]) (n + 1) := by
  refine ⟨by rw [List.length_append, h.1]; show n * 2 + 2 = _; omega, fun j hj => ?_⟩
  have hl := h.1
  rcases Nat.lt_or_ge j n with hlt | hge
  · obtain ⟨k', t', h1, h2, h3⟩ := h.2 j hlt
    exact ⟨k', t', by rw [List.getElem?_append_left (by omega)]; exact h1, by rw [List.getElem?_append_left (by omega)]; exact h2, h3⟩
  · obtain rfl : j = n := by omega
    exact ⟨k, t, by rw [List.getElem?_append_right (by omega), hl, Nat.sub_self]; rfl, by rw [List.getElem?_append_right (by omega), hl, show j * 2 + 1 - j * 2 = 1 by omega]; rfl, ht⟩
theorem foldsOk_cons {xs : List Value} {n : Nat} (h : FoldsOk xs n) (k : Int) (t : ByteArray) (ht : t.size ≤ 9) : FoldsOk ([.int .i64 k, .string t] ++ xs) (1 + n) := by
  refine ⟨by rw [List.length_append, h.1]; show 2 + n * 2 = _; omega, fun j hj => ?_⟩
  cases j with
  | zero => exact ⟨k, t, rfl, rfl, ht⟩
  | succ j =>
    obtain ⟨k', t', h1, h2, h3⟩ := h.2 j (by omega)
    exact ⟨k', t', by rw [show (j + 1) * 2 = j * 2 + 2 by omega]; exact h1, by rw [show (j + 1) * 2 + 1 = j * 2 + 1 + 2 by omega]; exact h2, h3⟩
theorem foldsOk_take {xs : List Value} {n : Nat} (h : FoldsOk xs n) (q : Nat) (hq : q ≤ n) : FoldsOk (xs.take (q * 2)) q := by
  refine ⟨by rw [List.length_take, h.1]; omega, fun j hj => ?_⟩
  obtain ⟨k', t', h1, h2, h3⟩ := h.2 j (by omega)
  exact ⟨k', t', by rw [List.getElem?_take_of_lt (by omega)]; exact h1, by rw [List.getElem?_take_of_lt (by omega)]; exact h2, h3⟩
theorem foldsOk_one {xs : List Value} {n : Nat} (h : FoldsOk xs n) : ∀ u ∈ xs, u.oneCell' = true := by
  intro u hu
  obtain ⟨i, hi⟩ := List.mem_iff_getElem?.1 hu
  have hl : i < n * 2 := by rw [← h.1]; exact (List.getElem?_eq_some_iff.1 hi).1
  obtain ⟨k', t', h1, h2, h3⟩ := h.2 (i / 2) (by omega)
  rcases Nat.mod_two_eq_zero_or_one i with e | e
  · rw [show i / 2 * 2 = i by omega, hi] at h1; cases h1; rfl
  · rw [show i / 2 * 2 + 1 = i by omega, hi] at h2; cases h2; rfl
theorem foldsOk_key {xs : List Value} {n : Nat} (h : FoldsOk xs n) (i : Nat) (k : Int) : FoldsOk (xs.set (i * 2) (.int .i64 k)) n := by
  refine ⟨by rw [List.length_set]; exact h.1, fun j hj => ?_⟩
  obtain ⟨k', t', h1, h2, h3⟩ := h.2 j hj
  rcases Nat.decEq j i with hne | rfl
  · exact ⟨k', t', by rw [List.getElem?_set_ne (by omega)]; exact h1, by rw [List.getElem?_set_ne (by omega)]; exact h2, h3⟩
  · exact ⟨k, t', by rw [List.getElem?_set_self (List.getElem?_eq_some_iff.1 h1).1], by rw [List.getElem?_set_ne (by omega)]; exact h2, h3⟩
theorem foldsOk_text {xs : List Value} {n : Nat} (h : FoldsOk xs n) (i : Nat) (t : ByteArray) (ht : t.size ≤ 9) : FoldsOk (xs.set (i * 2 + 1) (.string t)) n := by
  refine ⟨by rw [List.length_set]; exact h.1, fun j hj => ?_⟩
  obtain ⟨k', t', h1, h2, h3⟩ := h.2 j hj
  rcases Nat.decEq j i with hne | rfl
  · exact ⟨k', t', by rw [List.getElem?_set_ne (by omega)]; exact h1, by rw [List.getElem?_set_ne (by omega)]; exact h2, h3⟩
  · exact ⟨k', t, by rw [List.getElem?_set_ne (by omega)]; exact h1, by rw [List.getElem?_set_self (List.getElem?_eq_some_iff.1 h2).1], ht⟩
/-- a cell of the row is written -/
theorem FRow.set {w : World} {base g off : Nat} {v : Value} {n : Nat} {xs : List Value} (h : FRow w base g off v n xs) (i : Nat) (u : Value) (hk : FoldsOk (xs.set i u) n) : FRow (w.setCell ⟨g, off + i, none⟩ u) base g off v n (xs.set i u) := by
  obtain ⟨cap, cur, e, h1, h2, h3, h4, h5, h6, h7, h8⟩ := h
  refine ⟨cap, cur.setIfInBounds (off + i) u, e, h1, heap_setCell_same _ _ _ _ _ _ h2, by rw [Array.size_setIfInBounds]; exact h3, h4, h5, h6, ?_, hk⟩
  rw [Array.toList_setIfInBounds, List.drop_set, if_neg (by omega), List.take_set, ← h7, Nat.add_sub_cancel_left]
/-- an append of one fold -/
theorem app_frow {ops : Array Oper} {rest : List Oper} {o : Oper} {a : Act} {w : World} {Q : Exit → Act → World → Prop} (hgd : o.guard = none) (s x : Operand)
    (ho : o.op = .call { callee := .builtin .append, args := #[s, x], argTypes := #[56, 56] })
    (base g off : Nat) (v : Value) (n : Nat) (xs : List Value) (hs : a.eval s = v) (hF : FRow w base g off v n xs)
    (ad : Addr) (c : Nat) (k : Int) (t : ByteArray) (ht : t.size ≤ 9) (hx : a.eval x = .slice (some ad) 1 c) (hnews : ∀ j u, [Value.int .i64 k, .string t][j]? = some u → w.cell? (ad.add j) = some u)
    (hnm : n + 1 ≤ 4194304) (hbase : base ≤ w.heap.size)
    (h : ∀ v' w', (∃ g' o' xs', FRow w' base g' o' v' (n + 1) xs') → w.grownBy w' (some g) → wpList Tryz.prog ops Q rest (a.put o.dst v') w') : wpList Tryz.prog ops Q (o :: rest) a w := by
  obtain ⟨i0, hi, hz0, hz1, hz2⟩ := info_parts Tryz.infoFol
  have h1c : ∀ u ∈ [Value.int .i64 k, .string t], u.oneCell' = true := by intro u hu; simp only [List.mem_cons, List.not_mem_nil, or_false] at hu; rcases hu with rfl | rfl <;> rfl
  by_cases h0 : off = 0
  · have hO := hF.own h0
    obtain ⟨cap, cur, e, h1, h2, h3, h4, h5, h6, h7, h8⟩ := hF
    subst e
    exact wpList_append_own w hgd s x 56 ho base 64 i0 (.agg #[.int .i64 0, .string ⟨#[]⟩]) 2 24 Tryz.underlying56 hi hz0 hz1 hz2 rfl (by decide) _ n xs hs hO ad 1 c [Value.int .i64 k, .string t] hx rfl hnews h1c
      (by unfold maxLen; omega) (by omega) hbase (fun v' w' e1 e2 _ => by
        obtain ⟨g', hg'⟩ := FRow.of_own e1 (by omega) (foldsOk_put h8 k t ht)
        exact h v' w' ⟨g', 0, _, hg'⟩ e2)
  · have hc := fun j u hj => hF.cell (j := j) (u := u) hj
    obtain ⟨cap, cur, e, h1, h2, h3, h4, h5, h6, h7, h8⟩ := hF
    subst e
    have hcn : cap = n := h6.resolve_left h0
    exact wpList_append_grows w hgd s x 56 ho 64 i0 (.agg #[.int .i64 0, .string ⟨#[]⟩]) 2 24 Tryz.underlying56 hi hz0 hz1 hz2 rfl (by decide) (some ⟨g, off, none⟩) n cap xs hs (by intro e; cases e) h8.1
      (fun b hb j u hj => by cases hb; rw [Addr.add_lit]; exact hc j u hj) ad 1 c [Value.int .i64 k, .string t] hx rfl hnews h1c (by omega) (by unfold maxLen; omega) (by omega) (fun v' w' e1 e2 => by
        obtain ⟨g', hg'⟩ := FRow.of_own (own_lower2 e1 hbase) (by omega) (foldsOk_put h8 k t ht)
        exact h v' w' ⟨g', 0, _, hg'⟩ ⟨e2.os, e2.tape, e2.output, e2.size, fun k hk _ => e2.block k hk (by intro e; cases e)⟩)
/-- an append of a row's head behind one fold -/
theorem app_fhead {ops : Array Oper} {rest : List Oper} {o : Oper} {a : Act} {w : World} {Q : Exit → Act → World → Prop} (hgd : o.guard = none) (s x : Operand)
    (ho : o.op = .call { callee := .builtin .append, args := #[s, x], argTypes := #[56, 56] })
    (base g off : Nat) (v v1 : Value) (n q c : Nat) (xs : List Value) (k : Int) (t : ByteArray) (ht : t.size ≤ 9) (hs : a.eval s = v1) (hO : w.ownsRow base 64 2 v1 1 [.int .i64 k, .string t]) (hF : FRow w base g off v n xs) (hq : q ≤ n)
    (hx : a.eval x = .slice (some ⟨g, off, none⟩) q c)
    (hnm : n + 1 ≤ 4194304) (hbase : base ≤ w.heap.size)
    (h : ∀ v' w', (∃ g' o' xs', FRow w' base g' o' v' (1 + q) xs') → w.grownBy w' v1.ownBlock → wpList Tryz.prog ops Q rest (a.put o.dst v') w') : wpList Tryz.prog ops Q (o :: rest) a w := by
  obtain ⟨i0, hi, hz0, hz1, hz2⟩ := info_parts Tryz.infoFol
  have hk : FoldsOk xs n := by obtain ⟨_, _, _, _, _, _, _, _, _, _, hk⟩ := hF; exact hk
  have hkq := foldsOk_take hk q hq
  exact wpList_append_own w hgd s x 56 ho base 64 i0 (.agg #[.int .i64 0, .string ⟨#[]⟩]) 2 24 Tryz.underlying56 hi hz0 hz1 hz2 rfl (by decide) v1 1 [.int .i64 k, .string t] hs hO ⟨g, off, none⟩ q c (xs.take (q * 2)) hx hkq.1
    (fun j u hj => by
      rw [Addr.add_lit]
      have hl : j < q * 2 := by rw [← hkq.1]; exact (List.getElem?_eq_some_iff.1 hj).1
      rw [List.getElem?_take_of_lt hl] at hj
      exact hF.cell hj) (foldsOk_one hkq)
    (by unfold maxLen; omega) (by omega) hbase (fun v' w' e1 e2 _ => by
      obtain ⟨g', hg'⟩ := FRow.of_own e1 (by omega) (foldsOk_cons hkq k t ht)
      exact h v' w' ⟨g', 0, _, hg'⟩ e2)

end Go.Proofs.YtdidgaibgkdjoaaGreatDoor

namespace Go.Proofs.YtdidgaibgkdjoaaGreatDoor
open Go.RowKit

/-- the usual folds' cells -/
def dfCells : List Value := [.int .i64 18, .string ⟨#[105, 110, 103]⟩, .int .i64 21, .string ⟨#[101, 100]⟩, .int .i64 20, .string ⟨#[115]⟩, .int .i64 22, .string ⟨#[115]⟩]
theorem specDefault_w (w : World) : Calls Tryz.prog 110 #[] w fun e w' => e = .returned (.slice (some ⟨w.heap.size, 0, none⟩) 4 4) ∧ w' = w.alloc (.cells #[.int .i64 18, .string ⟨#[105, 110, 103]⟩, .int .i64 21, .string ⟨#[101, 100]⟩, .int .i64 20, .string ⟨#[115]⟩, .int .i64 22, .string ⟨#[115]⟩] 64) := by
  go_enter Tryz.func110, Tryz.ntmps110
  go_wp2
  go_ret
  exact ⟨rfl, rfl⟩
/-- their tail -/
theorem df_row (w : World) (r : Nat) (hr : r < 3) : FRow (w.alloc (.cells #[.int .i64 18, .string ⟨#[105, 110, 103]⟩, .int .i64 21, .string ⟨#[101, 100]⟩, .int .i64 20, .string ⟨#[115]⟩, .int .i64 22, .string ⟨#[115]⟩] 64)) w.heap.size w.heap.size (r * 2) (.slice (some ⟨w.heap.size, r * 2, none⟩) (4 - r) (4 - r)) (4 - r) (dfCells.drop (r * 2)) := by
  refine ⟨4 - r, _, rfl, Nat.le_refl _, heap_alloc_new w _, ?_, Nat.le_refl _, by unfold maxLen; omega, .inr rfl, ?_, ?_, ?_⟩
  · show 8 = _; omega
  · obtain rfl | rfl | rfl : r = 0 ∨ r = 1 ∨ r = 2 := by omega
    all_goals rfl
  · rw [List.length_drop]; show 8 - _ = _; omega
  · intro j hj
    obtain rfl | rfl | rfl : r = 0 ∨ r = 1 ∨ r = 2 := by omega
    · obtain rfl | rfl | rfl | rfl : j = 0 ∨ j = 1 ∨ j = 2 ∨ j = 3 := by omega
      all_goals exact ⟨_, _, rfl, rfl, by decide⟩
    · obtain rfl | rfl | rfl : j = 0 ∨ j = 1 ∨ j = 2 := by omega
      all_goals exact ⟨_, _, rfl, rfl, by decide⟩
    · obtain rfl | rfl : j = 0 ∨ j = 1 := by omega
      all_goals exact ⟨_, _, rfl, rfl, by decide⟩
/-- folds, in new memory -/
def DrawnF (v : Value) (m g B : Nat) (w w0 : World) (e : Ending) (w' : World) : Prop :=
  (∃ (g' off n : Nat) (lv : Value) (xs : List Value), e = .returned lv ∧ FRow w' w.heap.size g' off lv n xs ∧ 1 ≤ n ∧ n ≤ 7) ∧ Read v m g B w0 w'

theorem FRow.thaw {w : World} {base g off : Nat} {v : Value} {n : Nat} {xs : List Value} (h : FRow w base g off v n xs) (j : Nat) : w.frozen? ⟨g, j, none⟩ = false := by
  obtain ⟨cap, cur, _, _, h2, _⟩ := h
  simp [World.frozen?, h2]
theorem FRow.ok {w : World} {base g off : Nat} {v : Value} {n : Nat} {xs : List Value} (h : FRow w base g off v n xs) : FoldsOk xs n := by
  obtain ⟨_, _, _, _, _, _, _, _, _, _, h⟩ := h
  exact h
theorem FRow.at {w : World} {base g off : Nat} {v : Value} {n : Nat} {xs : List Value} (h : FRow w base g off v n xs) {i : Nat} (hi : i < n) : ∃ (k : Int) (t : ByteArray), w.cell? ⟨g, off + i * 2, none⟩ = some (.int .i64 k) ∧ w.cell? ⟨g, off + i * 2 + 1, none⟩ = some (.string t) ∧ t.size ≤ 9 := by
  obtain ⟨k, t, h1, h2, h3⟩ := h.ok.2 i hi
  exact ⟨k, t, h.cell h1, h.cell h2, h3⟩
theorem FRow.form {w : World} {base g off : Nat} {v : Value} {n : Nat} {xs : List Value} (h : FRow w base g off v n xs) : ∃ c, v = .slice (some ⟨g, off, none⟩) n c ∧ n ≤ c := by
  obtain ⟨c, _, e, _, _, _, h4, _⟩ := h
  exact ⟨c, e, h4⟩

theorem rows_one {base : Nat} (w : World) (k : Int) (t : ByteArray) (hb : base ≤ w.heap.size) : (w.alloc (.cells #[.int .i64 k, .string t] 64)).ownsRow base 64 2 (.slice (some ⟨w.heap.size, 0, none⟩) 1 1) 1 [.int .i64 k, .string t] :=
  ⟨rfl, .inr ⟨w.heap.size, 1, _, rfl, hb, heap_alloc_new w _, Nat.le_refl _, by unfold maxLen; omega, rfl, rfl⟩⟩
set_option maxRecDepth 20000 in
set_option maxHeartbeats 1600000 in
theorem l10DrawFolds_any {v : Value} {m g B : Nat} {w0 w : World} (h : Read v m g B w0 w) (hB : B ≤ 500000000) :
    Calls Tryz.prog 65 #[.pointer (some ⟨g, 0, none⟩)] w (DrawnF v m g (B + 100) w w0) := by
  have h1 := h.1
  have hg := h1.lt
  have HA := Lib.hid ((Read.refl h1).alloc (.cells #[.int .i64 18, .string ⟨#[105, 110, 103]⟩, .int .i64 21, .string ⟨#[101, 100]⟩, .int .i64 20, .string ⟨#[115]⟩, .int .i64 22, .string ⟨#[115]⟩] 64))
  have HH := Lib.hid h; have HN := Lib.hid h1; clear h h1
  go_enter Tryz.func65, Tryz.ntmps65
  go_upto_region 2 with (first
    | (go_at_call 45; refine (pick_any 3 (Read.refl HA.out.1) (by omega) (by omega) (by omega)).mono ?_; rintro e w1 ⟨⟨ra, rfl, hra⟩, hd⟩; have H1 := Lib.hid (HA.out.trans hd); have F1 := Lib.hid ((df_row w ra hra).read hd hg); have ra0 : (0 : Int) ≤ (ra : Int) := (by omega); have ra1 : (ra : Int) ≤ 4 := (by omega); have ra2 : ¬ ra = 4 := (by omega); have ra3 : ra < 4 := (by omega); clear hd)
    | (go_at_call 110; refine (specDefault_w _).mono ?_; rintro e w1 ⟨rfl, rfl⟩))
  clear HA
  have hn2 : 2 ≤ 4 - ra := by omega
  have hn4 : 4 - ra ≤ 4 := by omega
  clear ra0 ra1 ra2 ra3 hra
  generalize dfCells.drop (ra * 2) = xs at F1
  generalize 4 - ra = n at F1 hn2 hn4 ⊢
  generalize ra * 2 = off at F1 ⊢
  have hz1 := H1.out.2.size
  go_upto_region 3 with (go_at_call 44; refine (one_any 4 (Read.refl H1.out.1) (by omega) (by decide) (by decide)).mono ?_; rintro e w2 ⟨⟨ba, rfl⟩, hd⟩; have H2 := Lib.hid (H1.out.trans hd); have F2 := Lib.hid (F1.out.read hd hg); clear hd)
  · go_upto_region 4 with (first
      | (at_builtin; refine app_fhead rfl _ _ rfl w.heap.size w.heap.size off _ _ n q n xs (13 + (d : Int)) sa hsa rfl O5.out F5.out (by omega) rfl (by omega) hz5 ?_; rintro v6 w6 ⟨g6, o6, xs6, hF6⟩ hg6; obtain ⟨c6, rfl, hc6⟩ := hF6.form)
      | (go_at_call 45; have hx := H4; refine (pick_any (n + 1) (Read.refl (H4.out.alloc (.cells #[.int .i64 (13 + (d : Int)), .string sa] 64)).1) (by omega) (by omega) (by omega)).mono ?_; rintro e w5 ⟨⟨q, rfl, hq⟩, hd⟩; have H5 := Lib.hid ((H4.out.alloc (.cells #[.int .i64 (13 + (d : Int)), .string sa] 64)).trans hd); have F5 := Lib.hid ((F4.out.alloc (.cells #[.int .i64 (13 + (d : Int)), .string sa] 64)).read hd hg); have O5 := Lib.hid (own_read (rows_one w4 (13 + (d : Int)) sa H4.out.2.size) hd hg); have hq0 : (0 : Int) ≤ (q : Int) := (by omega); have hq1 : (q : Int) ≤ (n : Int) := (by omega); have hz5 := H5.out.2.size; clear hd hx)
      | (go_at_call 90; have hx := H3; refine (of_lit [⟨#[101, 114]⟩, ⟨#[108, 121]⟩, ⟨#[105, 110, 103]⟩] 9 (Read.refl H3.out.1) (by omega) (by decide) (by decide) (by decide) _).mono ?_; rintro e w4 ⟨⟨sa, rfl, hsa⟩, hd⟩; have H4 := Lib.hid (H3.out.trans hd); have F4 := Lib.hid (F3.out.read hd hg); clear hd hx)
      | (go_at_call 45; have hx := H2; refine (pick_any 10 (Read.refl H2.out.1) (by omega) (by decide) (by decide)).mono ?_; rintro e w3 ⟨⟨d, rfl, hdd⟩, hd⟩; have H3 := Lib.hid (H2.out.trans hd); have F3 := Lib.hid (F2.out.read hd hg); clear hd hx H2 F2))
    have hO5 := O5.out.lt
    have H6 := Lib.hid (H5.out.grownNew HN.out hg6 (fun j hj => (hO5 j hj).1))
    have F6 := Lib.hid hF6
    have hN6 : 1 + q ≤ 5 := by omega
    clear H5 F5 O5 hF6 hg6 H3 H4 F3 F4 F1 H1 hO5 hz5 hq0 hq1
    have hN0 : 1 ≤ 1 + q := by omega
    generalize 1 + q = n6 at F6 hN6 hN0 hc6 ⊢
    have hN1 : 1 ≤ n6 := by omega
    have hN7 : n6 ≤ 5 := by omega
    go_upto_region 5 with (go_at_call 44; refine (one_any 15 (Read.refl H6.out.1) (by omega) (by decide) (by decide)).mono ?_; rintro e x1 ⟨⟨bb, rfl⟩, hd⟩; have X1 := Lib.hid (H6.out.trans hd); have Y1 := Lib.hid (F6.out.read hd hg); clear hd)
    · go_upto_region 7 with (first
        | (go_at_call 45; have hx := X2; refine (pick_any 3 (Read.refl X2.out.1) (by omega) (by decide) (by decide)).mono ?_; rintro e x3 ⟨⟨r, rfl, hr⟩, hd⟩; have X3 := Lib.hid (X2.out.trans hd); have Y3 := Lib.hid (Y2.out.read hd hg); clear hd hx)
        | (go_at_call 45; refine (pick_any n6 (Read.refl X1.out.1) (by omega) (by omega) (by omega)).mono ?_; rintro e x2 ⟨⟨i, rfl, hi⟩, hd⟩; have X2 := Lib.hid (X1.out.trans hd); have Y2 := Lib.hid (Y1.out.read hd hg); clear hd))
      have hi0 : (0 : Int) ≤ (i : Int) := by omega
      have hi1 : (i : Int) < (n6 : Int) := by omega
      obtain rfl | rfl | rfl : r = 0 ∨ r = 1 ∨ r = 2 := by omega
      · go_wp2_with (go_at_call 111; refine (among_lit [12, 23, -1, 20] (fun _ => True) (Read.refl X3.out.1) (by omega) (by decide) (by decide) (by simp) _).mono ?_; rintro e x4 ⟨⟨q, rfl, _⟩, hd⟩; have X4 := Lib.hid (X3.out.trans hd); have Y4 := Lib.hid (Y3.out.read hd hg); clear hd; obtain ⟨ck, ct, cc1, cc2, _⟩ := Y4.out.at hi; have ff := Y4.out.thaw (o6 + i * 2))
        go_ret
        have hlt := Y4.out.lt.1
        exact ⟨⟨_, _, _, _, _, rfl, Y4.out.set (i * 2) _ (foldsOk_key Y4.out.ok i q), by omega, by omega⟩, HH.out.trans ((X4.out.setNew HN.out hlt _ _).mono (by omega))⟩
      · go_wp2_with (go_at_call 90; refine (of_lit [⟨#[]⟩, ⟨#[73, 110, 103]⟩, ⟨#[97, 98, 99, 100, 101, 102, 103, 104, 105]⟩, ⟨#[97, 98, 99, 100, 101, 102, 103, 104]⟩] 9 (Read.refl X3.out.1) (by omega) (by decide) (by decide) (by decide) _).mono ?_; rintro e x4 ⟨⟨q, rfl, hq⟩, hd⟩; have X4 := Lib.hid (X3.out.trans hd); have Y4 := Lib.hid (Y3.out.read hd hg); clear hd; obtain ⟨ck, ct, cc1, cc2, _⟩ := Y4.out.at hi; have ff := Y4.out.thaw (o6 + i * 2 + 1))
        go_ret
        have hlt := Y4.out.lt.1
        exact ⟨⟨_, _, _, _, _, rfl, Y4.out.set (i * 2 + 1) _ (foldsOk_text Y4.out.ok i q hq), by omega, by omega⟩, HH.out.trans ((X4.out.setNew HN.out hlt _ _).mono (by omega))⟩
      · rw [show ((2 : Nat) : Int) = 2 from rfl]
        go_wp2
        go_loopw [3, 5] (fun s3 s5 wr => ∃ (g' off' n' c' : Nat) (xs' : List Value) (c : Nat), s3 = .slice (some ⟨g', off', none⟩) n' c' ∧ s5 = .int .i64 ((13 + c : Nat) : Int) ∧ c ≤ 5 ∧ 1 ≤ n' ∧ n' ≤ 7 ∧ n' ≤ c' ∧ Hid (FRow wr w.heap.size g' off' (.slice (some ⟨g', off', none⟩) n' c') n' xs') ∧ Read v m g (B + 40 + 2 * c) w wr) (fun _ s5 _ => 18 - (intOf s5).toNat)
        case atStart => exact ⟨_, _, _, _, _, 0, rfl, by go_num, by omega, by omega, by omega, by omega, Y3, X3.out.mono (by omega)⟩
        case round =>
          obtain ⟨g', off', n', c', xs', c, rfl, rfl, hc5, hn1, hn7, hnc, HF, hd⟩ := hrel
          have HR := Lib.hid hd; clear hd
          go_upto_region 15 with (go_at_call 45; refine (pick_any 2 (Read.refl HR.out.1) (by omega) (by decide) (by decide)).mono ?_; rintro e y1 ⟨⟨p, rfl, hp⟩, hd⟩; have Z1 := Lib.hid (HR.out.trans hd); have F9 := Lib.hid (HF.out.read hd hg); clear hd)
          · have hz := HR.out.2.size
            have hz2 := Z1.out.2.size
            go_wp2_with (at_builtin; refine app_frow rfl _ _ rfl w.heap.size g' off' _ n' xs' rfl (F9.out.alloc _) ⟨_, 0, none⟩ 1 (13 + (c : Int)) ⟨#[120]⟩ (by decide) rfl (atom_news _ _ _ _) (by omega) (by rw [World.size_alloc]; omega) ?_; rintro v2 y2 ⟨g2, o2, xs2, hF2⟩ hg2; obtain ⟨c2, rfl, hc2⟩ := hF2.form)
            have hb' := HF.out.lt.1
            have Z2 := Lib.hid ((Z1.out.alloc (.cells #[.int .i64 (13 + (c : Int)), .string ⟨#[120]⟩] 64)).grownNew HN.out hg2 (fun j hj => by cases hj; exact hb'))
            have F2' := Lib.hid hF2
            clear hF2 hg2 Z1 F9 HF HR
            go_roundw
            case rel => exact ⟨g2, o2, n' + 1, c2, xs2, c + 1, rfl, by go_num, by omega, by omega, by omega, by omega, F2', Z2.out.mono (by omega)⟩
            case measure => simp [intOf]; omega
          all_goals go_ret
          all_goals exact ⟨⟨_, _, _, _, _, rfl, F9.out, hn1, hn7⟩, HH.out.trans (Z1.out.mono (by omega))⟩
    · go_ret
      exact ⟨⟨_, _, _, _, _, rfl, Y1.out, by omega, by omega⟩, HH.out.trans (X1.out.mono (by omega))⟩
  · have hN1 : 1 ≤ n := by omega
    have hN7 : n ≤ 5 := by omega
    go_upto_region 5 with (go_at_call 44; refine (one_any 15 (Read.refl H2.out.1) (by omega) (by decide) (by decide)).mono ?_; rintro e x1 ⟨⟨bb, rfl⟩, hd⟩; have X1 := Lib.hid (H2.out.trans hd); have Y1 := Lib.hid (F2.out.read hd hg); clear hd)
    · go_upto_region 7 with (first
        | (go_at_call 45; have hx := X2; refine (pick_any 3 (Read.refl X2.out.1) (by omega) (by decide) (by decide)).mono ?_; rintro e x3 ⟨⟨r, rfl, hr⟩, hd⟩; have X3 := Lib.hid (X2.out.trans hd); have Y3 := Lib.hid (Y2.out.read hd hg); clear hd hx)
        | (go_at_call 45; refine (pick_any n (Read.refl X1.out.1) (by omega) (by omega) (by omega)).mono ?_; rintro e x2 ⟨⟨i, rfl, hi⟩, hd⟩; have X2 := Lib.hid (X1.out.trans hd); have Y2 := Lib.hid (Y1.out.read hd hg); clear hd))
      have hi0 : (0 : Int) ≤ (i : Int) := by omega
      have hi1 : (i : Int) < (n : Int) := by omega
      obtain rfl | rfl | rfl : r = 0 ∨ r = 1 ∨ r = 2 := by omega
      · go_wp2_with (go_at_call 111; refine (among_lit [12, 23, -1, 20] (fun _ => True) (Read.refl X3.out.1) (by omega) (by decide) (by decide) (by simp) _).mono ?_; rintro e x4 ⟨⟨q, rfl, _⟩, hd⟩; have X4 := Lib.hid (X3.out.trans hd); have Y4 := Lib.hid (Y3.out.read hd hg); clear hd; obtain ⟨ck, ct, cc1, cc2, _⟩ := Y4.out.at hi; have ff := Y4.out.thaw (off + i * 2))
        go_ret
        have hlt := Y4.out.lt.1
        exact ⟨⟨_, _, _, _, _, rfl, Y4.out.set (i * 2) _ (foldsOk_key Y4.out.ok i q), by omega, by omega⟩, HH.out.trans ((X4.out.setNew HN.out hlt _ _).mono (by omega))⟩
      · go_wp2_with (go_at_call 90; refine (of_lit [⟨#[]⟩, ⟨#[73, 110, 103]⟩, ⟨#[97, 98, 99, 100, 101, 102, 103, 104, 105]⟩, ⟨#[97, 98, 99, 100, 101, 102, 103, 104]⟩] 9 (Read.refl X3.out.1) (by omega) (by decide) (by decide) (by decide) _).mono ?_; rintro e x4 ⟨⟨q, rfl, hq⟩, hd⟩; have X4 := Lib.hid (X3.out.trans hd); have Y4 := Lib.hid (Y3.out.read hd hg); clear hd; obtain ⟨ck, ct, cc1, cc2, _⟩ := Y4.out.at hi; have ff := Y4.out.thaw (off + i * 2 + 1))
        go_ret
        have hlt := Y4.out.lt.1
        exact ⟨⟨_, _, _, _, _, rfl, Y4.out.set (i * 2 + 1) _ (foldsOk_text Y4.out.ok i q hq), by omega, by omega⟩, HH.out.trans ((X4.out.setNew HN.out hlt _ _).mono (by omega))⟩
      · rw [show ((2 : Nat) : Int) = 2 from rfl]
        go_wp2
        go_loopw [3, 5] (fun s3 s5 wr => ∃ (g' off' n' c' : Nat) (xs' : List Value) (c : Nat), s3 = .slice (some ⟨g', off', none⟩) n' c' ∧ s5 = .int .i64 ((13 + c : Nat) : Int) ∧ c ≤ 5 ∧ 1 ≤ n' ∧ n' ≤ 7 ∧ n' ≤ c' ∧ Hid (FRow wr w.heap.size g' off' (.slice (some ⟨g', off', none⟩) n' c') n' xs') ∧ Read v m g (B + 20 + 2 * c) w wr) (fun _ s5 _ => 18 - (intOf s5).toNat)
        case atStart => exact ⟨_, _, _, _, _, 0, rfl, by go_num, by omega, by omega, by omega, by omega, Y3, X3.out.mono (by omega)⟩
        case round =>
          obtain ⟨g', off', n', c', xs', c, rfl, rfl, hc5, hn1, hn7, hnc, HF, hd⟩ := hrel
          have HR := Lib.hid hd; clear hd
          go_upto_region 15 with (go_at_call 45; refine (pick_any 2 (Read.refl HR.out.1) (by omega) (by decide) (by decide)).mono ?_; rintro e y1 ⟨⟨p, rfl, hp⟩, hd⟩; have Z1 := Lib.hid (HR.out.trans hd); have F9 := Lib.hid (HF.out.read hd hg); clear hd)
          · have hz := HR.out.2.size
            have hz2 := Z1.out.2.size
            go_wp2_with (at_builtin; refine app_frow rfl _ _ rfl w.heap.size g' off' _ n' xs' rfl (F9.out.alloc _) ⟨_, 0, none⟩ 1 (13 + (c : Int)) ⟨#[120]⟩ (by decide) rfl (atom_news _ _ _ _) (by omega) (by rw [World.size_alloc]; omega) ?_; rintro v2 y2 ⟨g2, o2, xs2, hF2⟩ hg2; obtain ⟨c2, rfl, hc2⟩ := hF2.form)
            have hb' := HF.out.lt.1
            have Z2 := Lib.hid ((Z1.out.alloc (.cells #[.int .i64 (13 + (c : Int)), .string ⟨#[120]⟩] 64)).grownNew HN.out hg2 (fun j hj => by cases hj; exact hb'))
            have F2' := Lib.hid hF2
            clear hF2 hg2 Z1 F9 HF HR
            go_roundw
            case rel => exact ⟨g2, o2, n' + 1, c2, xs2, c + 1, rfl, by go_num, by omega, by omega, by omega, by omega, F2', Z2.out.mono (by omega)⟩
            case measure => simp [intOf]; omega
          all_goals go_ret
          all_goals exact ⟨⟨_, _, _, _, _, rfl, F9.out, hn1, hn7⟩, HH.out.trans (Z1.out.mono (by omega))⟩
    · go_ret
      exact ⟨⟨_, _, _, _, _, rfl, Y1.out, by omega, by omega⟩, HH.out.trans (X1.out.mono (by omega))⟩

end Go.Proofs.YtdidgaibgkdjoaaGreatDoor
