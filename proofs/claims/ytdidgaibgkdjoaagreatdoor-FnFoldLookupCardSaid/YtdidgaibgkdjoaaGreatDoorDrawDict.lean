/-
  CONTRACTS: a dictionary that is drawn, and an outline that may be one of its own.
-/
import Derived.Test.YtdidgaibgkdjoaaGreatDoorDrawEnt
namespace Go.Proofs.YtdidgaibgkdjoaaGreatDoor
open Go.RowKit

/-- what is told of drawn entries -/
def SmallD (L : List Ent) : Prop := ∀ q ∈ L, 1 ≤ q.1.length ∧ q.1.length ≤ 3 ∧ q.2.size ≤ 1070
/-- a dictionary, in new memory -/
def DrawnD (v : Value) (m g B : Nat) (w w0 : World) (most : Nat) (e : Ending) (w' : World) : Prop :=
  (∃ (dv : Value) (L : List Ent), e = .returned (.agg #[dv]) ∧ OwnD w' w.heap.size dv L ∧ 1 ≤ L.length ∧ L.length ≤ most ∧ SmallD L) ∧ Read v m g B w0 w'
/-- the variable and the result -/
def DicV (w : World) (b : Nat) (dv : Value) : Prop := (w.cell? ⟨b, 0, none⟩ = some (.slice none 0 0) ∧ w.frozen? ⟨b, 0, none⟩ = false) ∧ w.cell? ⟨b + 1, 0, none⟩ = some dv ∧ w.frozen? ⟨b + 1, 0, none⟩ = false
theorem dicV_new (w : World) (o : Obj) (T T' : TypeId) (ho : o = .cells #[.slice none 0 0] T') : DicV ((w.alloc o).alloc (.cells #[.slice none 0 0] T)) w.heap.size (.slice none 0 0) := by
  subst ho
  refine ⟨⟨?_, ?_⟩, ?_, ?_⟩
  all_goals simp [go_sem]
theorem DicV.keep {w w' : World} {b : Nat} {dv : Value} (h : DicV w b dv) (hb : Below w.heap.size w w') : DicV w' b dv := by
  obtain ⟨⟨h1, h2⟩, h3, h4⟩ := h
  exact ⟨⟨keepcP hb h1, by rw [hb.frozen (p := ⟨b, 0, none⟩) (World.block_lt_of_cell? _ _ h1)]; exact h2⟩, keepcP hb h3, by rw [hb.frozen (p := ⟨b + 1, 0, none⟩) (World.block_lt_of_cell? _ _ h3)]; exact h4⟩
theorem DicV.read {v : Value} {m g B : Nat} {a b : World} {n : Nat} {dv : Value} (h : DicV a n dv) (hd : Read v m g B a b) (hg : g < n) : DicV b n dv := by
  obtain ⟨⟨h1, h2⟩, h3, h4⟩ := h
  have n1 : n ≠ g := by omega
  have n2 : n + 1 ≠ g := by omega
  exact ⟨⟨hd.cellK n1 h1, (hd.cell (World.block_lt_of_cell? _ _ h1) n1 0).2.trans h2⟩, hd.cellK n2 h3, (hd.cell (World.block_lt_of_cell? _ _ h3) n2 0).2.trans h4⟩
theorem DicV.drewN {w : World} {n : Nat} {dv : Value} (h : DicV w n dv) (k : Nat) : DicV (w.drewN k) n dv := h
theorem DicV.store {w : World} {n : Nat} {dv : Value} (h : DicV w n dv) (x : Value) : DicV (w.setCell ⟨n + 1, 0, none⟩ x) n x := by
  obtain ⟨⟨h1, h2⟩, h3, h4⟩ := h
  exact ⟨⟨set1o h1 (by omega), by rw [World.frozen?_setCell]; exact h2⟩, World.cell?_setCell_same _ _ _ h3, by rw [World.frozen?_setCell]; exact h4⟩
theorem SmallD.put {L L' : List Ent} {p : List Int} {t : ByteArray} (h : SmallD L) (hq : ∀ q ∈ L', q ∈ L ∨ q = (p, t)) (h1 : 1 ≤ p.length) (h2 : p.length ≤ 3) (h3 : t.size ≤ 1070) : SmallD L' := by
  intro q hm
  rcases hq q hm with h' | rfl
  · exact h q h'
  · exact ⟨h1, h2, h3⟩

set_option maxRecDepth 20000 in
set_option maxHeartbeats 1600000 in
theorem dictionary_any {v : Value} {m g B : Nat} {w0 w : World} (h : Read v m g B w0 w) (hB : B ≤ 500000000) :
    Calls Tryz.prog 64 #[.pointer (some ⟨g, 0, none⟩)] w (DrawnD v m g (B + 3000) w w0 9) := by
  have h1 := h.1
  have hg := h1.lt
  have HA := Lib.hid (((Read.refl h1).alloc (.cells #[.slice none 0 0] 26)).alloc (.cells #[.slice none 0 0] 26))
  have HV := Lib.hid (dicV_new w (.cells #[.slice none 0 0] 26) 26 _ rfl)
  have HH := Lib.hid h; have HN := Lib.hid h1; clear h h1
  go_enter Tryz.func64, Tryz.ntmps64
  go_wp2_with (go_at_call 45; refine (pick_any 7 (Read.refl HA.out.1) (by omega) (by omega) (by omega)).mono ?_; rintro e w1 ⟨⟨ra, rfl, hra⟩, hd⟩; have H1 := Lib.hid (HA.out.trans hd); have V1 := Lib.hid (HV.out.read hd hg); clear hd HA HV)
  go_loopw [4] (fun n wr => ∃ (k : Nat) (dv : Value) (L : List Ent), n = .int .i64 k ∧ L.length + k ≤ 9 ∧ 1 ≤ L.length + k ∧ Hid (SmallD L) ∧ Hid (DicV wr w.heap.size dv) ∧ Hid (OwnD wr (w.heap.size + 2) dv L) ∧ Read v m g (B + 2 + 200 * (9 - k)) w wr) (fun n _ => (intOf n).toNat)
  case atStart => exact ⟨3 + ra, _, [], by go_num, by simp; omega, by simp; omega, Lib.hid (fun q hq => by cases hq), V1, Lib.hid (OwnD.nil _ _), H1.out.mono (by omega)⟩
  clear H1 V1
  case round =>
    obtain ⟨k, dv, L, rfl, hk, hk2, HSm, HV, HO, hd⟩ := hrel
    have HR := Lib.hid hd; clear hd
    obtain ⟨ad, cd, rfl⟩ := HO.out.form
    have c1 := HV.out.2.1
    by_cases h0 : 0 < k
    · have hk1 : (0 : Int) < (k : Int) := by omega
      go_upto_region 5 with fail
      refine wp_region_last (n := 4) (S := fun w' => w'.cell? ⟨w.heap.size + 1, 0, none⟩ = some (.slice ad L.length cd)) (by kernel_rfl) (by kernel_rfl) c1 (fun hHeld => ?_)
      refine takeH 0 13 (.agg #[.slice ad L.length cd]) rfl (by kernel_rfl) (by kernel_rfl) (by kernel_rfl) (by kernel_rfl) (fun _ _ _ _ h => h) hHeld (Or.inl ⟨rfl, fun w' hw => by first | rfl | (go_simp; done)⟩) ?_
      try simp only [Act.put, List.setIfInBounds_toArray, List.set_cons_zero, List.set_cons_succ]
      refine takeH 1 14 (.pointer (some ⟨g, 0, none⟩)) rfl (by kernel_rfl) (by kernel_rfl) (by kernel_rfl) (by kernel_rfl) (fun _ _ _ _ h => h) hHeld (Or.inl ⟨rfl, fun w' hw => by first | rfl | (go_simp; done)⟩) ?_
      try simp only [Act.put, List.setIfInBounds_toArray, List.set_cons_zero, List.set_cons_succ]
      refine wpAnyH_ready (rs := [2]) (by kernel_rfl) (by simp) ?_
      refine AllReadyH.cons (o := _) rfl (fun K hK => ?_) AllReadyH.nil
      go_simp
      (go_at_call 89; refine (entry_any (w := wr.drew) (Read.refl HR.out.1) (by omega)).mono ?_; rintro e w1 ⟨⟨la, lc, p, t, rfl, hown, hp1, hp2, ht⟩, hd⟩)
      have e1 : w1.cell? ⟨w.heap.size + 1, 0, none⟩ = some (.slice ad L.length cd) := ((HV.out.drewN 1).read hd hg).2.1
      have V1 := Lib.hid ((HV.out.drewN 1).read hd hg)
      have HW := Lib.hid ((show Read v m g (B + 2 + 200 * (9 - k)) w wr.drew from HR.out.to 1).trans hd)
      have HO1 := Lib.hid ((show OwnD wr.drew (w.heap.size + 2) (.slice ad L.length cd) L from HO.out).read hd (by omega))
      have HE := Lib.hid (Rows.of_own hown)
      clear hown hd
      go_wp2_with fail
      refine hK.out _ _ e1 (fun hHeld2 => ?_)
      clear hK K hHeld
      have hHeld := hHeld2
      clear hHeld2
      try simp only [Act.put, List.setIfInBounds_toArray, List.set_cons_zero, List.set_cons_succ]
      refine wpAnyH_ready (rs := [3]) (by kernel_rfl) (by simp) ?_
      refine AllReadyH.cons (o := _) rfl (fun K hK => ?_) AllReadyH.nil
      go_simp
      (go_at_call 109; refine (l6Put_any _ _ L p t w1 HO1.out.ents (by omega) (fun q hq => by have := HSm.out q hq; omega) HE.out (by omega)).mono ?_; rintro e w2 ⟨dv2, L2, rfl, hO2, hm2, hl2, hl3, hb⟩)
      obtain ⟨a2, c2, rfl⟩ := hO2.form
      have V2 := Lib.hid (V1.out.keep hb)
      have e2 := V2.out.2.1
      have f2 := V2.out.2.2
      have hs1 : w.heap.size + 2 ≤ w1.heap.size := World.block_lt_of_cell? _ _ e1
      have HW2 := Lib.hid (HW.out.onB hb)
      have HO2 := Lib.hid (hO2.lower hs1)
      have HS2 := Lib.hid (HSm.out.put hm2 hp1 hp2 ht)
      clear hO2 hb hm2
      go_wp2_with fail
      refine hK.out _ _ e2 (fun hHeld2 => ?_)
      clear hK K hHeld hHeld2
      try simp only [Act.put, List.setIfInBounds_toArray]
      refine wpAnyH_done (by kernel_rfl) ?_ _
      refine thenLast_normal (wpOp_step (o := _) rfl (fun K hK => ?_))
      go_simp
      refine hK _ _ ?_
      have HV3 := Lib.hid (V2.out.store (.slice a2 L2.length c2))
      have HO3 := Lib.hid (HO2.out.kept (grown_set w2 (w.heap.size + 1) 0 (.slice a2 L2.length c2)) (fun g hk => .inl (by cases hk; omega)))
      have HW3 := Lib.hid (HW2.out.setNew HN.out (show w.heap.size ≤ w.heap.size + 1 by omega) 0 (.slice a2 L2.length c2))
      clear hK e1 e2 f2 c1 V1 V2 HW HW2 HO HO1 HO2 HE HV HR
      go_wp2
      go_roundw
      case rel => exact ⟨k - 1, _, L2, by go_num, by omega, by omega, HS2, HV3, HO3, HW3.out.mono (by omega)⟩
      case measure => simp [intOf]; omega
    · have hk1 : ¬ (0 : Int) < (k : Int) := by omega
      have c0 := HV.out.1.1
      have f0 := HV.out.1.2
      have hs0 : w.heap.size + 2 ≤ wr.heap.size := World.block_lt_of_cell? _ _ c1
      go_wp2
      refine bodyPost_ret (v := .agg #[.slice ad L.length cd]) (by simp [results, Tryz.results64, go_sem, *]) rfl ⟨⟨_, L, rfl, ?_, by omega, by omega, HSm.out⟩, ?_⟩
      · exact OwnD.lower (HO.out.kept (grown_set _ _ _ _) (fun g hk => .inl (by cases hk; omega))) (Nat.le_add_right _ _)
      · exact HH.out.trans ((HR.out.setNew HN.out (Nat.le_refl _) 0 _).mono (by omega))

end Go.Proofs.YtdidgaibgkdjoaaGreatDoor
