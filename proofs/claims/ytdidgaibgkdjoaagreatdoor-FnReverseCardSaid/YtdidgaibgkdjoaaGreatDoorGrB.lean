/-
  CONTRACTS: a fold and an outline that are drawn: l10DrawFold, l10DrawOutline.
  MEMORY: a variable that holds a dictionary; a drawn dictionary's entries written.
  CONTRACT: a dictionary that need not be valid: anyDictionary.
  CONTRACT: DrawLookupFolded: of what is drawn only bounds are told.
  CONTRACT: DrawReverseLookup: of what is drawn only bounds are told.
-/
import Derived.Test.YtdidgaibgkdjoaaGreatDoorGrA
import Derived.Test.YtdidgaibgkdjoaaGreatDoorUnfS
namespace Go.Proofs.YtdidgaibgkdjoaaGreatDoor
open Go.RowKit

/-- a number of the call's own row is written -/
theorem own_setI {w : World} {base la n c : Nat} {l : List Int} (h : w.ownsRow base 3 1 (.slice (some ⟨la, 0, none⟩) n c) n (ints l)) (i : Nat) (y : Int) : (w.setCell ⟨la, i, none⟩ (.int .i64 y)).ownsRow base 3 1 (.slice (some ⟨la, 0, none⟩) n c) n (ints (l.set i y)) := by
  obtain ⟨h1, h2⟩ := h
  refine ⟨by simpa [ints] using h1, ?_⟩
  rcases h2 with ⟨h3, _⟩ | ⟨g, cap, cur, e, h3, h4, h5, h6, h7, h8⟩
  · cases h3
  · cases e
    refine .inr ⟨la, c, cur.setIfInBounds i (.int .i64 y), rfl, h3, heap_setCell_same _ _ _ _ _ _ h4, h5, h6, by rw [Array.size_setIfInBounds]; exact h7, ?_⟩
    rw [Array.toList_setIfInBounds, List.take_set, h8]
    simp [ints, List.map_set]
/-- the cells of a row of the call's own, as news -/
theorem own_cells {w : World} {base lg lc : Nat} {l : List Int} (h : w.ownsRow base 3 1 (.slice (some ⟨lg, 0, none⟩) l.length lc) l.length (ints l)) : ∀ j u, (ints l)[j]? = some u → w.cell? ((⟨lg, 0, none⟩ : Addr).add j) = some u := by
  intro j u hj
  exact h.cells rfl j u hj
theorem ints_get (l : List Int) (j : Nat) : (ints l)[j]? = l[j]?.map (Value.int .i64) := by simp [ints]
theorem own_thaw {w : World} {base lg n lc : Nat} {xs : List Value} (h : w.ownsRow base 3 1 (.slice (some ⟨lg, 0, none⟩) n lc) n xs) (j : Nat) : w.frozen? ⟨lg, j, none⟩ = false := by
  rcases h.2 with ⟨e, _⟩ | ⟨g, c, u, e, _, h2, _⟩
  · cases e
  · cases e
    simp [World.frozen?, h2]
theorem among_keys : ∀ s ∈ ([18, 21, 20, 22, 19] : List Int), ∃ j : Nat, s = j ∧ j ≤ 22 := by
  intro s hs
  simp only [List.mem_cons, List.not_mem_nil, or_false] at hs
  rcases hs with rfl | rfl | rfl | rfl | rfl
  · exact ⟨18, rfl, by omega⟩
  · exact ⟨21, rfl, by omega⟩
  · exact ⟨20, rfl, by omega⟩
  · exact ⟨22, rfl, by omega⟩
  · exact ⟨19, rfl, by omega⟩
theorem u64_nat {j : Nat} (h : j ≤ 22) : IntKind.u64.wrap (j : Int) = j := by
  have h9 : ∀ i : Fin 23, IntKind.u64.wrap (i.val : Int) = i.val := by decide
  exact h9 ⟨j, by omega⟩
/-- an outline, in new memory -/
def DrawnR (v : Value) (m g B : Nat) (w w0 : World) (e : Ending) (w' : World) : Prop :=
  (∃ (lv : Value) (l : List Int), e = .returned lv ∧ w'.ownsRow w.heap.size 3 1 lv l.length (ints l) ∧ l.length ≤ 100) ∧ Read v m g B w0 w'

set_option maxRecDepth 20000 in
set_option maxHeartbeats 1600000 in
theorem l10DrawOutline_any {v : Value} {m g B : Nat} {w0 w : World} (base : Nat) (vd : Value) (L : List Ent) (h : Read v m g B w0 w) (hB : B ≤ 400000000) (hO : OwnD w base vd L) (hgb : g < base) (h1L : 1 ≤ L.length) (hL : L.length ≤ 100) (hs : ∀ q ∈ L, 1 ≤ q.1.length ∧ q.1.length ≤ 100) :
    Calls Tryz.prog 66 #[.pointer (some ⟨g, 0, none⟩), .agg #[vd]] w (DrawnR v m g (B + 600) w w0) := by
  have h1 := h.1
  have hg := h1.lt
  obtain ⟨ad, cd, rfl⟩ := hO.form
  have HA := Lib.hid (((Read.refl h1).alloc (.cells #[.slice ad L.length cd] 26)).alloc (.cells #[] 3))
  have HOA := Lib.hid ((hO.alloc (.cells #[.slice ad L.length cd] 26)).alloc (.cells #[] 3))
  have cv : ((w.alloc (.cells #[.slice ad L.length cd] 26)).alloc (.cells #[] 3)).cell? ⟨w.heap.size, 0, none⟩ = some (.slice ad L.length cd) := by simp [go_sem]
  have HO1 := Lib.hid (made1 w (.cells #[.slice ad L.length cd] 26))
  have HH := Lib.hid h; have HN := Lib.hid h1; clear h h1 hO
  have HS := Lib.hid hs; clear hs
  go_enter Tryz.func66, Tryz.ntmps66
  go_upto_region 2 with (first
    | (at_builtin; have hx := O2; refine app_outs rfl _ _ rfl w.heap.size _ 0 [] rfl O2.out ⟨lg, 0, none⟩ l.length lc l rfl rfl K2.out (by omega) hz2 ?_; intro v3 w3 hown3 hg3; obtain ⟨a3, c3, rfl⟩ := row_formO hown3; have O3 := Lib.hid hown3; have H3 := Lib.hid (H2.out.grownNew HN.out hg3 (fun j hj => (O2.out.lt j hj).1)); clear hx hown3 hg3 O2 K2)
    | (go_at_call 112; refine (known_any base _ L (Read.refl HA.out.1) (by omega) HOA.out hgb h1L hL HS.out).mono ?_; rintro e w2 ⟨⟨lg, lc, l, rfl, hown, hl1, hl⟩, hd⟩; have H2 := Lib.hid (HA.out.trans hd); have O2 := Lib.hid (own_read HO1.out hd hg); have K2 := Lib.hid (own_cells hown); have hz2 := H2.out.2.size; clear hd hown))
  have O3' : w3.ownsRow w.heap.size 3 1 (.slice a3 l.length c3) l.length (ints l) := by have h9 := O3.out; rw [Nat.zero_add, List.nil_append] at h9; exact h9
  clear O3
  have O3 := Lib.hid O3'
  clear O3'
  go_upto_region 4 with (first
    | (go_at_call 91; have hx := H4; refine (anyOutline_any (Read.refl H4.out.1) (by omega)).mono ?_; rintro e w5 ⟨⟨l5, c5, l6, rfl, hown, hl5, hl6⟩, hd⟩; have H5 := Lib.hid (H4.out.trans hd); have O5 := Lib.hid (own_lower2 hown H4.out.2.size); clear hd hown hx)
    | (go_at_call 44; refine (one_any 10 (Read.refl H3.out.1) (by omega) (by decide) (by decide)).mono ?_; rintro e w4 ⟨⟨ba, rfl⟩, hd⟩; have H4 := Lib.hid (H3.out.trans hd); have O4 := Lib.hid (own_read O3.out hd hg); clear hd))
  · have hl9 : l6.length ≤ 100 := by omega
    by_cases h0 : 0 < l6.length
    · have hl0 : (0 : Int) < (l6.length : Int) := by omega
      skip
      go_upto_region 5 with (go_at_call 45; refine (pick_any 3 (Read.refl H5.out.1) (by omega) (by decide) (by decide)).mono ?_; rintro e x1 ⟨⟨r, rfl, hr⟩, hd⟩; have X1 := Lib.hid (H5.out.trans hd); have Y1 := Lib.hid (own_read O5.out hd hg); clear hd)
      · obtain ⟨mm, hmm⟩ : ∃ mm, l6.length = mm + 1 := ⟨l6.length - 1, by omega⟩
        obtain ⟨x, hx⟩ : ∃ x, l6[mm]? = some x := ⟨l6[mm]'(by omega), List.getElem?_eq_getElem _⟩
        have cx : x1.cell? ⟨l5, mm, none⟩ = some (.int .i64 x) := by
          have h9 := own_cells Y1.out mm _ (by rw [ints_get, hx]; rfl)
          rw [Addr.add_lit, Nat.zero_add] at h9
          exact h9
        have fx : x1.frozen? ⟨l5, mm, none⟩ = false := own_thaw Y1.out mm
        have hla : w.heap.size ≤ l5 := (Y1.out.lt l5 rfl).1
        have hw1 : IntKind.i64.wrap ((l6.length : Int) - 1) = (mm : Int) := by rw [show (l6.length : Int) - 1 = (mm : Int) by omega]; exact IntWalk.i64_in _ ⟨by omega, by omega⟩
        have hm0 : (0 : Int) ≤ (mm : Int) := by omega
        have hm1 : (mm : Int) < (l6.length : Int) := by omega
        clear hmm hx
        refine wp_region_last (n := 17) (S := fun w' => w'.cell? ⟨l5, mm, none⟩ = some (.int .i64 x)) (by kernel_rfl) (by kernel_rfl) cx (fun hHeld => ?_)
        refine takeH 0 23 (.slice (some ⟨l5, 0, none⟩) l6.length c5) rfl (by kernel_rfl) (by kernel_rfl) (by kernel_rfl) (by kernel_rfl) (fun _ _ _ _ h => h) hHeld (Or.inl ⟨rfl, fun w' hw => by first | rfl | (go_simp; done)⟩) ?_
        try simp only [Act.put, List.setIfInBounds_toArray, List.set_cons_zero, List.set_cons_succ]
        refine takeH 1 24 (.slice (some ⟨l5, 0, none⟩) l6.length c5) rfl (by kernel_rfl) (by kernel_rfl) (by kernel_rfl) (by kernel_rfl) (fun _ _ _ _ h => h) hHeld (Or.inl ⟨rfl, fun w' hw => by first | rfl | (go_simp; done)⟩) ?_
        try simp only [Act.put, List.setIfInBounds_toArray, List.set_cons_zero, List.set_cons_succ]
        refine takeH 2 25 (.int .i64 (l6.length : Int)) rfl (by kernel_rfl) (by kernel_rfl) (by kernel_rfl) (by kernel_rfl) (fun _ _ _ _ h => h) hHeld (Or.inl ⟨rfl, fun w' hw => by first | rfl | (go_simp; done)⟩) ?_
        try simp only [Act.put, List.setIfInBounds_toArray, List.set_cons_zero, List.set_cons_succ]
        refine takeH 3 26 (.int .i64 (mm : Int)) rfl (by kernel_rfl) (by kernel_rfl) (by kernel_rfl) (by kernel_rfl) (fun _ _ _ _ h => h) hHeld (Or.inl ⟨rfl, fun w' hw => by first | rfl | (go_simp; done)⟩) ?_
        try simp only [Act.put, List.setIfInBounds_toArray, List.set_cons_zero, List.set_cons_succ]
        refine takeH 4 27 (.slice (some ⟨l5, 0, none⟩) l6.length c5) rfl (by kernel_rfl) (by kernel_rfl) (by kernel_rfl) (by kernel_rfl) (fun _ _ _ _ h => h) hHeld (Or.inl ⟨rfl, fun w' hw => by first | rfl | (go_simp; done)⟩) ?_
        try simp only [Act.put, List.setIfInBounds_toArray, List.set_cons_zero, List.set_cons_succ]
        refine takeH 5 28 (.slice (some ⟨l5, 0, none⟩) l6.length c5) rfl (by kernel_rfl) (by kernel_rfl) (by kernel_rfl) (by kernel_rfl) (fun _ _ _ _ h => h) hHeld (Or.inl ⟨rfl, fun w' hw => by first | rfl | (go_simp; done)⟩) ?_
        try simp only [Act.put, List.setIfInBounds_toArray, List.set_cons_zero, List.set_cons_succ]
        refine takeH 6 29 (.int .i64 (l6.length : Int)) rfl (by kernel_rfl) (by kernel_rfl) (by kernel_rfl) (by kernel_rfl) (fun _ _ _ _ h => h) hHeld (Or.inl ⟨rfl, fun w' hw => by first | rfl | (go_simp; done)⟩) ?_
        try simp only [Act.put, List.setIfInBounds_toArray, List.set_cons_zero, List.set_cons_succ]
        refine takeH 7 30 (.int .i64 (mm : Int)) rfl (by kernel_rfl) (by kernel_rfl) (by kernel_rfl) (by kernel_rfl) (fun _ _ _ _ h => h) hHeld (Or.inl ⟨rfl, fun w' hw => by first | rfl | (go_simp; done)⟩) ?_
        try simp only [Act.put, List.setIfInBounds_toArray, List.set_cons_zero, List.set_cons_succ]
        refine takeH 8 31 (.pointer (some ⟨l5, mm, none⟩)) rfl (by kernel_rfl) (by kernel_rfl) (by kernel_rfl) (by kernel_rfl) (fun _ _ _ _ h => h) hHeld (Or.inl ⟨rfl, fun w' hw => by first | rfl | (go_simp; done)⟩) ?_
        try simp only [Act.put, List.setIfInBounds_toArray, List.set_cons_zero, List.set_cons_succ]
        refine takeH 9 32 (.int .i64 x) rfl (by kernel_rfl) (by kernel_rfl) (by kernel_rfl) (by kernel_rfl) (fun _ _ _ _ h => h) hHeld (Or.inl ⟨rfl, fun w' hw => by first | rfl | (go_simp; done)⟩) ?_
        try simp only [Act.put, List.setIfInBounds_toArray, List.set_cons_zero, List.set_cons_succ]
        refine takeH 10 33 (.pointer (some ⟨g, 0, none⟩)) rfl (by kernel_rfl) (by kernel_rfl) (by kernel_rfl) (by kernel_rfl) (fun _ _ _ _ h => h) hHeld (Or.inl ⟨rfl, fun w' hw => by first | rfl | (go_simp; done)⟩) ?_
        try simp only [Act.put, List.setIfInBounds_toArray, List.set_cons_zero, List.set_cons_succ]
        refine wpAnyH_ready (rs := [11]) (by kernel_rfl) (by simp) ?_
        refine AllReadyH.cons (o := _) rfl (fun K hK => ?_) AllReadyH.nil
        go_simp
        refine hK.out _ _ (keepcP (Joins.below_alloc1 _ _) cx) (fun hHeld2 => ?_)
        clear hK K hHeld
        have hHeld := hHeld2
        clear hHeld2
        try simp only [Act.put, List.setIfInBounds_toArray, List.set_cons_zero, List.set_cons_succ]
        refine wpAnyH_ready (rs := [12]) (by kernel_rfl) (by simp) ?_
        refine AllReadyH.cons (o := _) rfl (fun K hK => ?_) AllReadyH.nil
        go_simp
        (go_at_call 111; refine (among_lit (w := x1.drew) [18, 21, 20, 22, 19] (fun q => ∃ j : Nat, q = j ∧ j ≤ 22) (Read.refl (show Cur v m g _ x1.drew from X1.out.1)) (by omega) (by decide) (by decide) among_keys _).mono ?_; rintro e x2 ⟨⟨q, rfl, j, rfl, hj⟩, hd⟩)
        have e2 : x2.cell? ⟨l5, mm, none⟩ = some (.int .i64 x) := hd.cellK (show l5 ≠ g by omega) (show x1.drew.cell? ⟨l5, mm, none⟩ = some (.int .i64 x) from cx)
        have Y2 := Lib.hid (own_read (show x1.drew.ownsRow w.heap.size 3 1 _ _ _ from Y1.out) hd hg)
        have X2 := Lib.hid ((show Read v m g _ w x1.drew from X1.out.to 1).trans hd)
        have f2 : x2.frozen? ⟨l5, mm, none⟩ = false := own_thaw Y2.out mm
        have hj0 : (0 : Int) ≤ (j : Int) := by omega
        have hj1 : (j : Int) ≤ 22 := by omega
        clear hd cx fx
        go_wp2_with fail
        refine hK.out _ _ e2 (fun hHeld2 => ?_)
        clear hK K hHeld
        have hHeld := hHeld2
        clear hHeld2
        try simp only [Act.put, List.setIfInBounds_toArray, List.set_cons_zero, List.set_cons_succ]
        have hw36 := u64_nat hj
        have hw37 : IntKind.i64.wrap ((2 : Int) ^ j) = (2 : Int) ^ j := wrapI (by have := pow_bd hj; omega) (by have := pow_bd hj; omega)
        refine takeH 13 36 (.int .u64 (j : Int)) rfl (by kernel_rfl) (by kernel_rfl) (by kernel_rfl) (by kernel_rfl) (fun _ _ _ _ h => h) hHeld (Or.inl ⟨rfl, fun w' hw => by first | rfl | (go_simp; done)⟩) ?_
        try simp only [Act.put, List.setIfInBounds_toArray, List.set_cons_zero, List.set_cons_succ]
        refine takeH 14 37 (.int .i64 ((2 : Int) ^ j)) rfl (by kernel_rfl) (by kernel_rfl) (by kernel_rfl) (by kernel_rfl) (fun _ _ _ _ h => h) hHeld (Or.inl ⟨rfl, fun w' hw => by (go_simp; (try done))⟩) ?_
        try simp only [Act.put, List.setIfInBounds_toArray, List.set_cons_zero, List.set_cons_succ]
        refine takeH 15 38 (.int .i64 (bits .or .i64 x ((2 : Int) ^ j))) rfl (by kernel_rfl) (by kernel_rfl) (by kernel_rfl) (by kernel_rfl) (fun _ _ _ _ h => h) hHeld (Or.inl ⟨rfl, fun w' hw => by first | rfl | (go_simp; done)⟩) ?_
        try simp only [Act.put, List.setIfInBounds_toArray, List.set_cons_zero, List.set_cons_succ]
        refine takeH 16 39 (.pointer (some ⟨l5, mm, none⟩)) rfl (by kernel_rfl) (by kernel_rfl) (by kernel_rfl) (by kernel_rfl) (fun _ _ _ _ h => h) hHeld (Or.inl ⟨rfl, fun w' hw => by first | rfl | (go_simp; done)⟩) ?_
        try simp only [Act.put, List.setIfInBounds_toArray, List.set_cons_zero, List.set_cons_succ]
        refine wpAnyH_done (by kernel_rfl) ?_ _
        refine thenLast_normal (wpOp_step (o := _) rfl (fun K hK => ?_))
        go_simp
        refine hK _ _ ?_
        clear hK hHeld
        go_wp2
        go_ret
        refine ⟨⟨_, l6.set mm (bits .or .i64 x ((2 : Int) ^ j)), rfl, ?_, by rw [List.length_set]; exact hl9⟩, HH.out.trans ((X2.out.setNew HN.out hla _ _).mono (by omega))⟩
        rw [List.length_set]
        exact own_setI Y2.out mm _
      · go_ret
        exact ⟨⟨_, _, rfl, Y1.out, hl9⟩, HH.out.trans (X1.out.mono (by omega))⟩
    · have hl0 : ¬ (0 : Int) < (l6.length : Int) := by omega
      go_wp2
      go_ret
      exact ⟨⟨_, _, rfl, O5.out, hl9⟩, HH.out.trans (H5.out.mono (by omega))⟩
  · have hl9 : l.length ≤ 100 := by omega
    by_cases h0 : 0 < l.length
    · have hl0 : (0 : Int) < (l.length : Int) := by omega
      (obtain ⟨la, lc', hform⟩ := Joins.ownsRow_form O4.out h0; cases hform)
      go_upto_region 5 with (go_at_call 45; refine (pick_any 3 (Read.refl H4.out.1) (by omega) (by decide) (by decide)).mono ?_; rintro e x1 ⟨⟨r, rfl, hr⟩, hd⟩; have X1 := Lib.hid (H4.out.trans hd); have Y1 := Lib.hid (own_read O4.out hd hg); clear hd)
      · obtain ⟨mm, hmm⟩ : ∃ mm, l.length = mm + 1 := ⟨l.length - 1, by omega⟩
        obtain ⟨x, hx⟩ : ∃ x, l[mm]? = some x := ⟨l[mm]'(by omega), List.getElem?_eq_getElem _⟩
        have cx : x1.cell? ⟨la, mm, none⟩ = some (.int .i64 x) := by
          have h9 := own_cells Y1.out mm _ (by rw [ints_get, hx]; rfl)
          rw [Addr.add_lit, Nat.zero_add] at h9
          exact h9
        have fx : x1.frozen? ⟨la, mm, none⟩ = false := own_thaw Y1.out mm
        have hla : w.heap.size ≤ la := (Y1.out.lt la rfl).1
        have hw1 : IntKind.i64.wrap ((l.length : Int) - 1) = (mm : Int) := by rw [show (l.length : Int) - 1 = (mm : Int) by omega]; exact IntWalk.i64_in _ ⟨by omega, by omega⟩
        have hm0 : (0 : Int) ≤ (mm : Int) := by omega
        have hm1 : (mm : Int) < (l.length : Int) := by omega
        clear hmm hx
        refine wp_region_last (n := 17) (S := fun w' => w'.cell? ⟨la, mm, none⟩ = some (.int .i64 x)) (by kernel_rfl) (by kernel_rfl) cx (fun hHeld => ?_)
        refine takeH 0 23 (.slice (some ⟨la, 0, none⟩) l.length c3) rfl (by kernel_rfl) (by kernel_rfl) (by kernel_rfl) (by kernel_rfl) (fun _ _ _ _ h => h) hHeld (Or.inl ⟨rfl, fun w' hw => by first | rfl | (go_simp; done)⟩) ?_
        try simp only [Act.put, List.setIfInBounds_toArray, List.set_cons_zero, List.set_cons_succ]
        refine takeH 1 24 (.slice (some ⟨la, 0, none⟩) l.length c3) rfl (by kernel_rfl) (by kernel_rfl) (by kernel_rfl) (by kernel_rfl) (fun _ _ _ _ h => h) hHeld (Or.inl ⟨rfl, fun w' hw => by first | rfl | (go_simp; done)⟩) ?_
        try simp only [Act.put, List.setIfInBounds_toArray, List.set_cons_zero, List.set_cons_succ]
        refine takeH 2 25 (.int .i64 (l.length : Int)) rfl (by kernel_rfl) (by kernel_rfl) (by kernel_rfl) (by kernel_rfl) (fun _ _ _ _ h => h) hHeld (Or.inl ⟨rfl, fun w' hw => by first | rfl | (go_simp; done)⟩) ?_
        try simp only [Act.put, List.setIfInBounds_toArray, List.set_cons_zero, List.set_cons_succ]
        refine takeH 3 26 (.int .i64 (mm : Int)) rfl (by kernel_rfl) (by kernel_rfl) (by kernel_rfl) (by kernel_rfl) (fun _ _ _ _ h => h) hHeld (Or.inl ⟨rfl, fun w' hw => by first | rfl | (go_simp; done)⟩) ?_
        try simp only [Act.put, List.setIfInBounds_toArray, List.set_cons_zero, List.set_cons_succ]
        refine takeH 4 27 (.slice (some ⟨la, 0, none⟩) l.length c3) rfl (by kernel_rfl) (by kernel_rfl) (by kernel_rfl) (by kernel_rfl) (fun _ _ _ _ h => h) hHeld (Or.inl ⟨rfl, fun w' hw => by first | rfl | (go_simp; done)⟩) ?_
        try simp only [Act.put, List.setIfInBounds_toArray, List.set_cons_zero, List.set_cons_succ]
        refine takeH 5 28 (.slice (some ⟨la, 0, none⟩) l.length c3) rfl (by kernel_rfl) (by kernel_rfl) (by kernel_rfl) (by kernel_rfl) (fun _ _ _ _ h => h) hHeld (Or.inl ⟨rfl, fun w' hw => by first | rfl | (go_simp; done)⟩) ?_
        try simp only [Act.put, List.setIfInBounds_toArray, List.set_cons_zero, List.set_cons_succ]
        refine takeH 6 29 (.int .i64 (l.length : Int)) rfl (by kernel_rfl) (by kernel_rfl) (by kernel_rfl) (by kernel_rfl) (fun _ _ _ _ h => h) hHeld (Or.inl ⟨rfl, fun w' hw => by first | rfl | (go_simp; done)⟩) ?_
        try simp only [Act.put, List.setIfInBounds_toArray, List.set_cons_zero, List.set_cons_succ]
        refine takeH 7 30 (.int .i64 (mm : Int)) rfl (by kernel_rfl) (by kernel_rfl) (by kernel_rfl) (by kernel_rfl) (fun _ _ _ _ h => h) hHeld (Or.inl ⟨rfl, fun w' hw => by first | rfl | (go_simp; done)⟩) ?_
        try simp only [Act.put, List.setIfInBounds_toArray, List.set_cons_zero, List.set_cons_succ]
        refine takeH 8 31 (.pointer (some ⟨la, mm, none⟩)) rfl (by kernel_rfl) (by kernel_rfl) (by kernel_rfl) (by kernel_rfl) (fun _ _ _ _ h => h) hHeld (Or.inl ⟨rfl, fun w' hw => by first | rfl | (go_simp; done)⟩) ?_
        try simp only [Act.put, List.setIfInBounds_toArray, List.set_cons_zero, List.set_cons_succ]
        refine takeH 9 32 (.int .i64 x) rfl (by kernel_rfl) (by kernel_rfl) (by kernel_rfl) (by kernel_rfl) (fun _ _ _ _ h => h) hHeld (Or.inl ⟨rfl, fun w' hw => by first | rfl | (go_simp; done)⟩) ?_
        try simp only [Act.put, List.setIfInBounds_toArray, List.set_cons_zero, List.set_cons_succ]
        refine takeH 10 33 (.pointer (some ⟨g, 0, none⟩)) rfl (by kernel_rfl) (by kernel_rfl) (by kernel_rfl) (by kernel_rfl) (fun _ _ _ _ h => h) hHeld (Or.inl ⟨rfl, fun w' hw => by first | rfl | (go_simp; done)⟩) ?_
        try simp only [Act.put, List.setIfInBounds_toArray, List.set_cons_zero, List.set_cons_succ]
        refine wpAnyH_ready (rs := [11]) (by kernel_rfl) (by simp) ?_
        refine AllReadyH.cons (o := _) rfl (fun K hK => ?_) AllReadyH.nil
        go_simp
        refine hK.out _ _ (keepcP (Joins.below_alloc1 _ _) cx) (fun hHeld2 => ?_)
        clear hK K hHeld
        have hHeld := hHeld2
        clear hHeld2
        try simp only [Act.put, List.setIfInBounds_toArray, List.set_cons_zero, List.set_cons_succ]
        refine wpAnyH_ready (rs := [12]) (by kernel_rfl) (by simp) ?_
        refine AllReadyH.cons (o := _) rfl (fun K hK => ?_) AllReadyH.nil
        go_simp
        (go_at_call 111; refine (among_lit (w := x1.drew) [18, 21, 20, 22, 19] (fun q => ∃ j : Nat, q = j ∧ j ≤ 22) (Read.refl (show Cur v m g _ x1.drew from X1.out.1)) (by omega) (by decide) (by decide) among_keys _).mono ?_; rintro e x2 ⟨⟨q, rfl, j, rfl, hj⟩, hd⟩)
        have e2 : x2.cell? ⟨la, mm, none⟩ = some (.int .i64 x) := hd.cellK (show la ≠ g by omega) (show x1.drew.cell? ⟨la, mm, none⟩ = some (.int .i64 x) from cx)
        have Y2 := Lib.hid (own_read (show x1.drew.ownsRow w.heap.size 3 1 _ _ _ from Y1.out) hd hg)
        have X2 := Lib.hid ((show Read v m g _ w x1.drew from X1.out.to 1).trans hd)
        have f2 : x2.frozen? ⟨la, mm, none⟩ = false := own_thaw Y2.out mm
        have hj0 : (0 : Int) ≤ (j : Int) := by omega
        have hj1 : (j : Int) ≤ 22 := by omega
        clear hd cx fx
        go_wp2_with fail
        refine hK.out _ _ e2 (fun hHeld2 => ?_)
        clear hK K hHeld
        have hHeld := hHeld2
        clear hHeld2
        try simp only [Act.put, List.setIfInBounds_toArray, List.set_cons_zero, List.set_cons_succ]
        have hw36 := u64_nat hj
        have hw37 : IntKind.i64.wrap ((2 : Int) ^ j) = (2 : Int) ^ j := wrapI (by have := pow_bd hj; omega) (by have := pow_bd hj; omega)
        refine takeH 13 36 (.int .u64 (j : Int)) rfl (by kernel_rfl) (by kernel_rfl) (by kernel_rfl) (by kernel_rfl) (fun _ _ _ _ h => h) hHeld (Or.inl ⟨rfl, fun w' hw => by first | rfl | (go_simp; done)⟩) ?_
        try simp only [Act.put, List.setIfInBounds_toArray, List.set_cons_zero, List.set_cons_succ]
        refine takeH 14 37 (.int .i64 ((2 : Int) ^ j)) rfl (by kernel_rfl) (by kernel_rfl) (by kernel_rfl) (by kernel_rfl) (fun _ _ _ _ h => h) hHeld (Or.inl ⟨rfl, fun w' hw => by (go_simp; (try done))⟩) ?_
        try simp only [Act.put, List.setIfInBounds_toArray, List.set_cons_zero, List.set_cons_succ]
        refine takeH 15 38 (.int .i64 (bits .or .i64 x ((2 : Int) ^ j))) rfl (by kernel_rfl) (by kernel_rfl) (by kernel_rfl) (by kernel_rfl) (fun _ _ _ _ h => h) hHeld (Or.inl ⟨rfl, fun w' hw => by first | rfl | (go_simp; done)⟩) ?_
        try simp only [Act.put, List.setIfInBounds_toArray, List.set_cons_zero, List.set_cons_succ]
        refine takeH 16 39 (.pointer (some ⟨la, mm, none⟩)) rfl (by kernel_rfl) (by kernel_rfl) (by kernel_rfl) (by kernel_rfl) (fun _ _ _ _ h => h) hHeld (Or.inl ⟨rfl, fun w' hw => by first | rfl | (go_simp; done)⟩) ?_
        try simp only [Act.put, List.setIfInBounds_toArray, List.set_cons_zero, List.set_cons_succ]
        refine wpAnyH_done (by kernel_rfl) ?_ _
        refine thenLast_normal (wpOp_step (o := _) rfl (fun K hK => ?_))
        go_simp
        refine hK _ _ ?_
        clear hK hHeld
        go_wp2
        go_ret
        refine ⟨⟨_, l.set mm (bits .or .i64 x ((2 : Int) ^ j)), rfl, ?_, by rw [List.length_set]; exact hl9⟩, HH.out.trans ((X2.out.setNew HN.out hla _ _).mono (by omega))⟩
        rw [List.length_set]
        exact own_setI Y2.out mm _
      · go_ret
        exact ⟨⟨_, _, rfl, Y1.out, hl9⟩, HH.out.trans (X1.out.mono (by omega))⟩
    · have hl0 : ¬ (0 : Int) < (l.length : Int) := by omega
      go_wp2
      go_ret
      exact ⟨⟨_, _, rfl, O4.out, hl9⟩, HH.out.trans (H4.out.mono (by omega))⟩

end Go.Proofs.YtdidgaibgkdjoaaGreatDoor

namespace Go.Proofs.YtdidgaibgkdjoaaGreatDoor
open Go.RowKit

/-- the variable b holds the dictionary with the row dv -/
def VarD (w : World) (b : Nat) (dv : Value) : Prop := w.heap[b]? = some (.cells #[dv] 26 (0, 0))
theorem VarD.new (w : World) (dv : Value) : VarD (w.alloc (.cells #[dv] 26)) w.heap.size dv := heap_alloc_new w _
theorem VarD.lt {w : World} {b : Nat} {dv : Value} (h : VarD w b dv) : b < w.heap.size := (Array.getElem?_eq_some_iff.1 h).1
theorem VarD.cell {w : World} {b : Nat} {dv : Value} (h : VarD w b dv) : w.cell? ⟨b, 0, none⟩ = some dv := by
  unfold VarD at h
  simp [World.cell?, h]
theorem VarD.thaw {w : World} {b : Nat} {dv : Value} (h : VarD w b dv) (j : Nat) : w.frozen? ⟨b, j, none⟩ = false := by
  unfold VarD at h
  simp [World.frozen?, h]
theorem VarD.grown {w w' : World} {b : Nat} {dv : Value} {r : Option Nat} (h : VarD w b dv) (hg : w.grownBy w' r) (hr : r ≠ some b) : VarD w' b dv :=
  (hg.block b h.lt (fun e => hr e.symm)).trans h
theorem VarD.keep {w w' : World} {b : Nat} {dv : Value} (h : VarD w b dv) (hb : Below w.heap.size w w') : VarD w' b dv := h.grown (below_grown hb none) (by intro e; cases e)
theorem VarD.alloc {w : World} {b : Nat} {dv : Value} (h : VarD w b dv) (o : Obj) : VarD (w.alloc o) b dv := h.keep (Joins.below_alloc1 _ _)
theorem VarD.read {v0 : Value} {m g B : Nat} {a c : World} {b : Nat} {dv : Value} (h : VarD a b dv) (hd : Read v0 m g B a c) (hg : b ≠ g) : VarD c b dv := h.grown hd.2 (fun e => hg (by injection e with e; exact e.symm))
theorem VarD.store {w : World} {b : Nat} {dv : Value} (h : VarD w b dv) (x : Value) : VarD (w.setCell ⟨b, 0, none⟩ x) b x := heap_setCell_same w b 0 _ _ x h
theorem VarD.other {w : World} {b c i : Nat} {dv : Value} (h : VarD w b dv) (hne : b ≠ c) (x : Value) : VarD (w.setCell ⟨c, i, none⟩ x) b dv := h.grown (grown_set w c i x) (fun e => hne (by injection e with e; exact e.symm))
/-- an entry's row and an outline's row are not the variable -/
theorem VarD.apart {w : World} {b base s n : Nat} {dv u : Value} {E : TypeId} {xs : List Value} (h : VarD w b dv) (hu : w.ownsRow base E s u n xs) (hE : 26 ≠ E) : u.ownBlock ≠ some b := by
  rcases hu.2 with ⟨rfl, _⟩ | ⟨g1, c1, u1, rfl, _, k1, _⟩
  · simp [Value.ownBlock]
  · simp only [Value.ownBlock, ne_eq, Option.some.injEq]
    intro e
    subst e
    unfold VarD at h
    rw [h] at k1
    cases k1
    exact hE rfl
theorem OwnD.var {w : World} {base b : Nat} {v dv : Value} {l : List Ent} (h : OwnD w base v l) (hv : VarD w b dv) (x : Value) : OwnD (w.setCell ⟨b, 0, none⟩ x) base v l :=
  h.kept (grown_set w b 0 x) (fun g hg => .inr (by cases hg; exact ⟨_, _, _, hv, by decide, by decide⟩))
/-- a cell of a row of the call's own is written -/
theorem own_set {w : World} {base la n c s : Nat} {E : TypeId} {xs : List Value} (h : w.ownsRow base E s (.slice (some ⟨la, 0, none⟩) n c) n xs) (i : Nat) (y : Value) : (w.setCell ⟨la, i, none⟩ y).ownsRow base E s (.slice (some ⟨la, 0, none⟩) n c) n (xs.set i y) := by
  obtain ⟨h1, h2⟩ := h
  refine ⟨by rw [List.length_set]; exact h1, ?_⟩
  rcases h2 with ⟨h3, _⟩ | ⟨g, cap, cur, e, h3, h4, h5, h6, h7, h8⟩
  · cases h3
  · cases e
    refine .inr ⟨la, c, cur.setIfInBounds i y, rfl, h3, heap_setCell_same _ _ _ _ _ _ h4, h5, h6, by rw [Array.size_setIfInBounds]; exact h7, ?_⟩
    rw [Array.toList_setIfInBounds, List.take_set, h8]
/-- the text of an entry is written -/
theorem OwnD.setText {w : World} {base la c : Nat} {L : List Ent} (h : OwnD w base (.slice (some ⟨la, 0, none⟩) L.length c) L) (j : Nat) (hj : j < L.length) (t : ByteArray) :
    OwnD (w.setCell ⟨la, j * 2 + 1, none⟩ (.string t)) base (.slice (some ⟨la, 0, none⟩) L.length c) (L.set j ((L[j]).1, t)) := by
  obtain ⟨xs, h1, h2⟩ := h
  have hl : xs.length = L.length * 2 := h1.1
  refine ⟨xs.set (j * 2 + 1) (.string t), by rw [List.length_set]; exact own_set h1 _ _, fun i hi => ?_⟩
  rw [List.length_set] at hi
  obtain ⟨u, e1, e2, e3⟩ := h2 i hi
  have hk : (w.setCell ⟨la, j * 2 + 1, none⟩ (.string t)).ownsRow base 3 1 u (L[i]).1.length (ints (L[i]).1) := e3.kept (grown_set _ _ _ _) (apartT e3 h1 (by decide))
  rw [List.getElem_set]
  rcases Nat.decEq j i with hne | rfl
  · rw [if_neg hne]
    exact ⟨u, by rw [List.getElem?_set_ne (by omega)]; exact e1, by rw [List.getElem?_set_ne (by omega)]; exact e2, hk⟩
  · rw [if_pos rfl]
    exact ⟨u, by rw [List.getElem?_set_ne (by omega)]; exact e1, by rw [List.getElem?_set_self (by omega)], hk⟩
/-- the outline of an entry is written -/
theorem OwnD.setOut {w : World} {base la c : Nat} {L : List Ent} (h : OwnD w base (.slice (some ⟨la, 0, none⟩) L.length c) L) (j : Nat) (hj : j < L.length) (u : Value) (o : List Int) (hu : w.ownsRow base 3 1 u o.length (ints o)) :
    OwnD (w.setCell ⟨la, j * 2, none⟩ u) base (.slice (some ⟨la, 0, none⟩) L.length c) (L.set j (o, (L[j]).2)) := by
  obtain ⟨xs, h1, h2⟩ := h
  have hl : xs.length = L.length * 2 := h1.1
  refine ⟨xs.set (j * 2) u, by rw [List.length_set]; exact own_set h1 _ _, fun i hi => ?_⟩
  rw [List.length_set] at hi
  obtain ⟨u', e1, e2, e3⟩ := h2 i hi
  have hk : (w.setCell ⟨la, j * 2, none⟩ u).ownsRow base 3 1 u' (L[i]).1.length (ints (L[i]).1) := e3.kept (grown_set _ _ _ _) (apartT e3 h1 (by decide))
  have hk2 : (w.setCell ⟨la, j * 2, none⟩ u).ownsRow base 3 1 u o.length (ints o) := hu.kept (grown_set _ _ _ _) (apartT hu h1 (by decide))
  rw [List.getElem_set]
  rcases Nat.decEq j i with hne | rfl
  · rw [if_neg hne]
    exact ⟨u', by rw [List.getElem?_set_ne (by omega)]; exact e1, by rw [List.getElem?_set_ne (by omega)]; exact e2, hk⟩
  · rw [if_pos rfl]
    exact ⟨u, by rw [List.getElem?_set_self (by omega)], by rw [List.getElem?_set_ne (by omega)]; exact e2, hk2⟩
/-- the row of a dictionary's entries, opened -/
theorem OwnD.slice {w : World} {base : Nat} {v : Value} {L : List Ent} (h : OwnD w base v L) (h1 : 1 ≤ L.length) : ∃ la c, v = .slice (some ⟨la, 0, none⟩) L.length c ∧ base ≤ la := by
  obtain ⟨xs, h2, _⟩ := h
  obtain ⟨la, c, rfl⟩ := Joins.ownsRow_form h2 (by omega)
  exact ⟨la, c, rfl, (h2.lt la rfl).1⟩
theorem row_one {base : Nat} (w : World) (x : Int) (hb : base ≤ w.heap.size) : (w.alloc (.cells #[.int .i64 x] 3)).ownsRow base 3 1 (.slice (some ⟨w.heap.size, 0, none⟩) 1 1) 1 (ints [x]) :=
  ⟨rfl, .inr ⟨w.heap.size, 1, _, rfl, hb, heap_alloc_new w _, Nat.le_refl _, by unfold maxLen; omega, rfl, rfl⟩⟩

end Go.Proofs.YtdidgaibgkdjoaaGreatDoor

namespace Go.Proofs.YtdidgaibgkdjoaaGreatDoor
open Go.RowKit

/-- what is told of such a dictionary's entries -/
def LooseD (L : List Ent) : Prop := ∀ q ∈ L, q.1.length ≤ 7 ∧ q.2.size ≤ 1070
theorem SmallD.loose {L : List Ent} (h : SmallD L) : LooseD L := fun q hq => ⟨by have := h q hq; omega, (h q hq).2.2⟩
theorem LooseD.snoc {L : List Ent} (h : LooseD L) (p : List Int) (t : ByteArray) (h1 : p.length ≤ 7) (h2 : t.size ≤ 1070) : LooseD (L ++ [(p, t)]) := by
  intro q hq
  rw [List.mem_append] at hq
  rcases hq with hq | hq
  · exact h q hq
  · simp at hq; subst hq; exact ⟨h1, h2⟩
theorem LooseD.set {L : List Ent} (h : LooseD L) (j : Nat) (p : List Int) (t : ByteArray) (h1 : p.length ≤ 7) (h2 : t.size ≤ 1070) : LooseD (L.set j (p, t)) := by
  intro q hq
  rcases List.mem_or_eq_of_mem_set hq with hq | rfl
  · exact h q hq
  · exact ⟨h1, h2⟩
theorem LooseD.nil : LooseD [] := fun q hq => by cases hq
/-- such a dictionary, in new memory -/
def DrawnX (v : Value) (m g B : Nat) (w w0 : World) (e : Ending) (w' : World) : Prop :=
  (∃ (dv : Value) (L : List Ent), e = .returned (.agg #[dv]) ∧ OwnD w' w.heap.size dv L ∧ L.length ≤ 41 ∧ LooseD L) ∧ Read v m g B w0 w'

theorem own_thawE {w : World} {base lg n lc s : Nat} {E : TypeId} {xs : List Value} (h : w.ownsRow base E s (.slice (some ⟨lg, 0, none⟩) n lc) n xs) (j : Nat) : w.frozen? ⟨lg, j, none⟩ = false := by
  rcases h.2 with ⟨e, _⟩ | ⟨g, c, u, e, _, h2, _⟩
  · cases e
  · cases e
    simp [World.frozen?, h2]
set_option maxRecDepth 20000 in
set_option maxHeartbeats 3200000 in
theorem anyDictionary_any {v : Value} {m g B : Nat} {w0 w : World} (h : Read v m g B w0 w) (hB : B ≤ 300000000) :
    Calls Tryz.prog 43 #[.pointer (some ⟨g, 0, none⟩)] w (DrawnX v m g (B + 5000) w w0) := by
  have h1 := h.1
  have hg := h1.lt
  have HA := Lib.hid ((Read.refl h1).alloc (.cells #[.slice none 0 0] 26))
  have RA := Lib.hid (VarD.new w (.slice none 0 0))
  have HZ := Lib.hid (World.size_alloc w (.cells #[.slice none 0 0] 26))
  have hwg : w.heap.size ≠ g := by omega
  have hgb : g < w.heap.size + 1 := by omega
  have HH := Lib.hid h; have HN := Lib.hid h1; clear h h1
  go_enter Tryz.func43, Tryz.ntmps43
  go_upto_region 2 with (go_at_call 64; refine (dictionary_any (Read.refl HA.out.1) (by omega)).mono ?_; rintro e w1 ⟨⟨dv, L, rfl, hO, hL1, hL9, hSm⟩, hd⟩; have H1 := Lib.hid (HA.out.trans hd); have O1 := Lib.hid (hO.lower (Nat.le_of_eq HZ.out.symm)); have R1 := Lib.hid (RA.out.read hd hwg); have HSm := Lib.hid hSm; clear hd hO hSm; obtain ⟨la, lc, rfl, hla⟩ := O1.out.slice hL1)
  have hz1 : w.heap.size + 1 ≤ w1.heap.size := by have := R1.out.lt; omega
  have H2 := Lib.hid (H1.out.alloc (.cells #[.slice (some ⟨la, 0, none⟩) L.length lc] 26))
  have O2 := Lib.hid (O1.out.alloc (.cells #[.slice (some ⟨la, 0, none⟩) L.length lc] 26))
  have R2 := Lib.hid (R1.out.alloc (.cells #[.slice (some ⟨la, 0, none⟩) L.length lc] 26))
  have V2 := Lib.hid (VarD.new w1 (.slice (some ⟨la, 0, none⟩) L.length lc))
  clear H1 O1 R1 HA RA
  generalize w1.alloc (.cells #[.slice (some ⟨la, 0, none⟩) L.length lc] 26) = w2 at H2 O2 R2 V2 ⊢
  generalize w1.heap.size = b3 at hz1 V2 ⊢
  have hbg : b3 ≠ g := by omega
  have hwb : w.heap.size ≠ b3 := by omega
  go_upto_region 3 with (go_at_call 45; refine (pick_any 20 (Read.refl H2.out.1) (by omega) (by decide) (by decide)).mono ?_; rintro e w3 ⟨⟨r, rfl, hr⟩, hd⟩; have H3 := Lib.hid (H2.out.trans hd); have O3 := Lib.hid (O2.out.read hd hgb); have V3 := Lib.hid (V2.out.read hd hbg); have R3 := Lib.hid (R2.out.read hd hwg); clear hd)
  clear H2 O2 R2 V2
  have hlb : la ≠ b3 := by
    obtain ⟨xs, hx, _⟩ := O3.out
    have := V3.out.apart hx (by decide)
    simpa [Value.ownBlock] using this
  have c3 := V3.out.cell
  have hL0 : (0 : Int) < (L.length : Int) := by omega
  have hLn : ¬ L = [] := by intro e; rw [e] at hL1; simp at hL1
  by_cases h4 : 4 ≤ r
  · have n0 : ¬ (r : Int) = 0 := by omega
    have n1 : ¬ (r : Int) = 1 := by omega
    have n2 : ¬ (r : Int) = 2 := by omega
    have n3 : ¬ (r : Int) = 3 := by omega
    go_upto_region 11 with fail
    have HL := Lib.hid HSm.out.loose
    have cv0 := V3.out.cell
    have cf0 := V3.out.thaw 0
    have cr0 := R3.out.cell
    have cg0 := R3.out.thaw 0
    go_upto_region 12 with (go_at_call 44; refine (one_any 40 (Read.refl H3.out.1) (by omega) (by decide) (by decide)).mono ?_; rintro e y1 ⟨⟨bb, rfl⟩, hd⟩; have H9 := Lib.hid (H3.out.trans hd); have O9 := Lib.hid (O3.out.read hd hgb); have V9 := Lib.hid (V3.out.read hd hbg); have R9 := Lib.hid (R3.out.read hd hwg); have cv := V9.out.cell; have cf := V9.out.thaw 0; have cr := R9.out.cell; have cg := R9.out.thaw 0; clear hd)
    · obtain rfl : bb = true := by assumption
      clear cv0 cf0 cr0 cg0
      go_wp2
      have H8 := Lib.hid (H9.out.setNew HN.out (show w.heap.size ≤ b3 by omega) 0 (.slice none 0 0))
      have V8 := Lib.hid (V9.out.store (.slice none 0 0))
      have R8 := Lib.hid (R9.out.other hwb (i := 0) (.slice none 0 0))
      clear O9 H9 V9 R9 cv cf cr cg
      go_loopw [4] (fun n wr => ∃ (dv : Value) (M : List Ent), n = .int .i64 ((1 + M.length : Nat) : Int) ∧ M.length ≤ 41 ∧ Hid (LooseD M) ∧ Hid (VarD wr b3 dv) ∧ Hid (VarD wr w.heap.size (.slice none 0 0)) ∧ Hid (OwnD wr (w.heap.size + 1) dv M) ∧ Read v m g (B + 4000 + 2 * M.length) w wr) (fun n _ => 50 - (intOf n).toNat)
      case atStart => exact ⟨_, [], by go_num, by simp, Lib.hid LooseD.nil, V8, R8, Lib.hid (OwnD.nil _ _), H8.out.mono (by omega)⟩
      case round =>
        obtain ⟨dv, M, rfl, hc, HS, HV, HR, HO, hd⟩ := hrel
        have HW := Lib.hid hd; clear hd
        obtain ⟨am, cm, rfl⟩ := HO.out.form
        go_upto_region 16 with (go_at_call 45; refine (pick_any 2 (Read.refl HW.out.1) (by omega) (by decide) (by decide)).mono ?_; rintro e y1 ⟨⟨p, rfl, hp⟩, hd⟩; have W1 := Lib.hid (HW.out.trans hd); have O1 := Lib.hid (HO.out.read hd hgb); have V1 := Lib.hid (HV.out.read hd hbg); have R1 := Lib.hid (HR.out.read hd hwg); have cv := V1.out.cell; have cr := R1.out.cell; have cg := R1.out.thaw 0; clear hd)
        · obtain ⟨xs, hx, hD⟩ := O1.out
          have hz1' : w.heap.size + 1 ≤ y1.heap.size := by have := R1.out.lt; omega
          have hm40 : M.length ≤ 40 := by omega
          have AX := Lib.hid ((hx.alloc (.cells #[.int .i64 (1 + (M.length : Int))] 3)).alloc (.cells #[.slice (some ⟨y1.heap.size, 0, none⟩) 1 1, .string ⟨#[97]⟩] 39))
          have AV := Lib.hid ((V1.out.alloc (.cells #[.int .i64 (1 + (M.length : Int))] 3)).alloc (.cells #[.slice (some ⟨y1.heap.size, 0, none⟩) 1 1, .string ⟨#[97]⟩] 39))
          have AR := Lib.hid ((R1.out.alloc (.cells #[.int .i64 (1 + (M.length : Int))] 3)).alloc (.cells #[.slice (some ⟨y1.heap.size, 0, none⟩) 1 1, .string ⟨#[97]⟩] 39))
          have AH := Lib.hid ((W1.out.alloc (.cells #[.int .i64 (1 + (M.length : Int))] 3)).alloc (.cells #[.slice (some ⟨y1.heap.size, 0, none⟩) 1 1, .string ⟨#[97]⟩] 39))
          have AU := Lib.hid ((row_one (base := w.heap.size + 1) y1 (1 + (M.length : Int)) hz1').alloc (.cells #[.slice (some ⟨y1.heap.size, 0, none⟩) 1 1, .string ⟨#[97]⟩] 39))
          have AD := Lib.hid (show ∀ j (h : j < M.length), ∃ u, xs[j * 2]? = some u ∧ xs[j * 2 + 1]? = some (.string (M[j]).2) ∧ ((y1.alloc (.cells #[.int .i64 (1 + (M.length : Int))] 3)).alloc (.cells #[.slice (some ⟨y1.heap.size, 0, none⟩) 1 1, .string ⟨#[97]⟩] 39)).ownsRow (w.heap.size + 1) 3 1 u (M[j]).1.length (ints (M[j]).1) from fun j hj => by obtain ⟨u, e1, e2, e3⟩ := hD j hj; exact ⟨u, e1, e2, (e3.alloc _).alloc _⟩)
          clear hx hD
          go_wp2_with (at_builtin; refine app_den rfl _ _ rfl (w.heap.size + 1) _ M.length xs rfl AX.out ⟨_, 0, none⟩ 1 (some ⟨y1.heap.size, 0, none⟩) 1 1 ⟨#[97]⟩ rfl (den_news _ _ _ _ _ (World.size_alloc _ _).symm) (by omega) (by rw [World.size_alloc, World.size_alloc]; omega) ?_; intro v2 y3 hown2 hg2; obtain ⟨a2, c2, rfl⟩ := row_formO hown2; have V3 := Lib.hid (AV.out.grown hg2 (AV.out.apart AX.out (by decide))); have cv3 := V3.out.cell; have cf3 := V3.out.thaw 0)
          have OD := OwnD.snoc (l := M) (p := [1 + (M.length : Int)]) (t := ⟨#[97]⟩) AX.out AD.out AU.out hown2 hg2
          have O3 := Lib.hid (OD.var V3.out (.slice a2 (M.length + 1) c2))
          have H3 := Lib.hid ((AH.out.grownNew HN.out hg2 (fun j hj => Nat.le_of_succ_le (AX.out.lt j hj).1)).setNew HN.out (show w.heap.size ≤ b3 by omega) 0 (.slice a2 (M.length + 1) c2))
          have R3 := Lib.hid ((AR.out.grown hg2 (fun e => by have := (AX.out.lt _ e).1; omega)).other hwb (i := 0) (.slice a2 (M.length + 1) c2))
          have V4 := Lib.hid (V3.out.store (.slice a2 (M.length + 1) c2))
          have HS3 := Lib.hid (HS.out.snoc [1 + (M.length : Int)] ⟨#[97]⟩ (by simp) (by decide))
          clear OD AX AV AR AH AU AD hown2 hg2 cv3 cf3 V3 O1 V1 R1 W1 HO HV HR HW cv cr cg
          go_roundw
          case rel => exact ⟨_, M ++ [([1 + (M.length : Int)], ⟨#[97]⟩)], by rw [List.length_append]; go_num, by rw [List.length_append]; show M.length + 1 ≤ 41; omega, HS3, V4, R3, O3, by rw [List.length_append]; exact H3.out.mono (by show _ ≤ B + 4000 + 2 * (M.length + 1); omega)⟩
          case measure => simp [intOf]; omega
        · refine bodyPost_ret (v := .agg #[.slice am M.length cm]) (by simp [results, Tryz.results43, go_sem, *]) rfl ⟨⟨_, M, rfl, ?_, hc, HS.out⟩, ?_⟩
          · exact (O1.out.var R1.out _).lower (Nat.le_add_right _ _)
          · exact HH.out.trans ((W1.out.setNew HN.out (Nat.le_refl _) 0 _).mono (by omega))
    · refine bodyPost_ret (v := .agg #[.slice (some ⟨la, 0, none⟩) L.length lc]) (by simp [results, Tryz.results43, go_sem, *]) rfl ⟨⟨_, L, rfl, ?_, (by omega), HL.out⟩, ?_⟩
      · exact (O9.out.var R9.out _).lower (Nat.le_add_right _ _)
      · exact HH.out.trans ((H9.out.setNew HN.out (Nat.le_refl _) 0 _).mono (by omega))
  · obtain rfl | rfl | rfl | rfl : r = 0 ∨ r = 1 ∨ r = 2 ∨ r = 3 := by omega
    · go_upto_region 4 with fail
      refine wp_region_last (n := 7) (S := (fun w' => w'.cell? ⟨b3, 0, none⟩ = some (.slice (some ⟨la, 0, none⟩) L.length lc))) (by kernel_rfl) (by kernel_rfl) c3 (fun hHeld => ?_)
      refine takeH 0 11 (.pointer (some ⟨b3, 0, none⟩)) rfl (by kernel_rfl) (by kernel_rfl) (by kernel_rfl) (by kernel_rfl) (fun _ _ _ _ h => h) hHeld (Or.inl ⟨rfl, fun w' hw => by first | rfl | (go_simp; done)⟩) ?_
      try simp only [Act.put, List.setIfInBounds_toArray, List.set_cons_zero, List.set_cons_succ]
      refine takeH 1 12 (.slice (some ⟨la, 0, none⟩) L.length lc) rfl (by kernel_rfl) (by kernel_rfl) (by kernel_rfl) (by kernel_rfl) (fun _ _ _ _ h => h) hHeld (Or.inl ⟨rfl, fun w' hw => by first | rfl | (go_simp; done)⟩) ?_
      try simp only [Act.put, List.setIfInBounds_toArray, List.set_cons_zero, List.set_cons_succ]
      refine takeH 2 13 (.pointer (some ⟨g, 0, none⟩)) rfl (by kernel_rfl) (by kernel_rfl) (by kernel_rfl) (by kernel_rfl) (fun _ _ _ _ h => h) hHeld (Or.inl ⟨rfl, fun w' hw => by first | rfl | (go_simp; done)⟩) ?_
      try simp only [Act.put, List.setIfInBounds_toArray, List.set_cons_zero, List.set_cons_succ]
      refine wpAnyH_ready (rs := [3]) (by kernel_rfl) (by simp) ?_
      refine AllReadyH.cons (o := _) rfl (fun K hK => ?_) AllReadyH.nil
      go_simp
      (go_at_call 89; refine (entry_any (w := w3.drew) (Read.refl (show Cur v m g _ w3.drew from H3.out.1)) (by omega)).mono ?_; rintro e w4 ⟨⟨pa, pc, p, t, rfl, hown, hp1, hp2, ht⟩, hd⟩)
      have H4 := Lib.hid ((show Read v m g _ w w3.drew from H3.out.to 1).trans hd)
      have O4 := Lib.hid ((show OwnD w3.drew _ _ L from O3.out).read hd hgb)
      have V4 := Lib.hid ((show VarD w3.drew _ _ from V3.out).read hd hbg)
      have R4 := Lib.hid ((show VarD w3.drew _ _ from R3.out).read hd hwg)
      have hz3 : w.heap.size + 1 ≤ w3.heap.size := by have := R3.out.lt; omega
      have U4 := Lib.hid (own_lower2 (b' := w.heap.size + 1) hown hz3)
      clear hd hown
      go_wp2_with fail
      refine hK.out _ _ V4.out.cell (fun hHeld2 => ?_)
      clear hK K hHeld
      have hHeld := hHeld2
      clear hHeld2
      try simp only [Act.put, List.setIfInBounds_toArray, List.set_cons_zero, List.set_cons_succ]
      refine wpAnyH_ready (rs := [4]) (by kernel_rfl) (by simp) ?_
      refine AllReadyH.cons (o := _) rfl (fun K hK => ?_) AllReadyH.nil
      go_simp
      refine hK.out _ _ (V4.out.alloc _).cell (fun hHeld2 => ?_)
      clear hK K hHeld
      have hHeld := hHeld2
      clear hHeld2
      try simp only [Act.put, List.setIfInBounds_toArray, List.set_cons_zero, List.set_cons_succ]
      refine wpAnyH_ready (rs := [5]) (by kernel_rfl) (by simp) ?_
      refine AllReadyH.cons (o := _) rfl (fun K hK => ?_) AllReadyH.nil
      obtain ⟨xs, hx, hD⟩ := O4.out
      have AX := Lib.hid (hx.alloc (.cells #[.slice (some ⟨pa, 0, none⟩) p.length pc, .string t] 39))
      have AV := Lib.hid (V4.out.alloc (.cells #[.slice (some ⟨pa, 0, none⟩) p.length pc, .string t] 39))
      have AR := Lib.hid (R4.out.alloc (.cells #[.slice (some ⟨pa, 0, none⟩) p.length pc, .string t] 39))
      have AH := Lib.hid (H4.out.alloc (.cells #[.slice (some ⟨pa, 0, none⟩) p.length pc, .string t] 39))
      have AU := Lib.hid (U4.out.alloc (.cells #[.slice (some ⟨pa, 0, none⟩) p.length pc, .string t] 39))
      have AD := Lib.hid (show ∀ j (h : j < L.length), ∃ u, xs[j * 2]? = some u ∧ xs[j * 2 + 1]? = some (.string (L[j]).2) ∧ (w4.alloc (.cells #[.slice (some ⟨pa, 0, none⟩) p.length pc, .string t] 39)).ownsRow (w.heap.size + 1) 3 1 u (L[j]).1.length (ints (L[j]).1) from fun j hj => by obtain ⟨u, e1, e2, e3⟩ := hD j hj; exact ⟨u, e1, e2, e3.alloc _⟩)
      have hz4 : w.heap.size + 1 ≤ w4.heap.size := by have := R4.out.lt; omega
      clear hx hD
      refine step_app_den rfl (.tmp 12) (.tmp 15) rfl (w.heap.size + 1) _ L.length xs rfl AX.out ⟨_, 0, none⟩ 1 (some ⟨pa, 0, none⟩) p.length pc t rfl (den_news _ _ _ _ _ rfl) (by omega) (by rw [World.size_alloc]; omega) ?_
      intro v6 w6 hown6 hg6
      obtain ⟨a6, c6, rfl⟩ := row_formO hown6
      have V6 := Lib.hid (AV.out.grown hg6 (AV.out.apart AX.out (by decide)))
      have cv6 := V6.out.cell
      have cf6 := V6.out.thaw 0
      have OD := OwnD.snoc (l := L) (p := p) (t := t) AX.out AD.out AU.out hown6 hg6
      have O7 := Lib.hid (OD.var V6.out (.slice a6 (L.length + 1) c6))
      have H7 := Lib.hid ((AH.out.grownNew HN.out hg6 (fun j hj => Nat.le_of_succ_le (AX.out.lt j hj).1)).setNew HN.out (show w.heap.size ≤ b3 by omega) 0 (.slice a6 (L.length + 1) c6))
      have R7 := Lib.hid ((AR.out.grown hg6 (fun e => by have := (AX.out.lt _ e).1; omega)).other hwb (i := 0) (.slice a6 (L.length + 1) c6))
      have V7 := Lib.hid (V6.out.store (.slice a6 (L.length + 1) c6))
      have HS7 := Lib.hid (HSm.out.loose.snoc p t (by omega) ht)
      refine hK.out _ _ V6.out.cell (fun hHeld2 => ?_)
      clear hK K hHeld
      have hHeld := hHeld2
      clear hHeld2
      try simp only [Act.put, List.setIfInBounds_toArray]
      refine takeH 6 17 (.pointer (some ⟨b3, 0, none⟩)) rfl (by kernel_rfl) (by kernel_rfl) (by kernel_rfl) (by kernel_rfl) (fun _ _ _ _ h => h) hHeld (Or.inl ⟨rfl, fun w' hw => by first | rfl | (go_simp; done)⟩) ?_
      try simp only [Act.put]
      refine wpAnyH_done (by kernel_rfl) ?_ _
      refine thenLast_normal (wpOp_step (o := _) rfl (fun K hK => ?_))
      go_simp
      refine hK _ _ ?_
      clear hK hHeld AX AV AR AH AU AD OD hown6 hg6 cv6 cf6 V6 O4 V4 R4 U4 H4 H3 O3 V3 R3 c3
      have hL' : (L ++ [(p, t)]).length = L.length + 1 := by rw [List.length_append]; rfl
      go_upto_region 11 with fail
      generalize L ++ [(p, t)] = L' at O7 HS7 hL'
      have cv0 := V7.out.cell
      have cf0 := V7.out.thaw 0
      have cr0 := R7.out.cell
      have cg0 := R7.out.thaw 0
      go_upto_region 12 with (go_at_call 44; refine (one_any 40 (Read.refl H7.out.1) (by omega) (by decide) (by decide)).mono ?_; rintro e y1 ⟨⟨bb, rfl⟩, hd⟩; have H9 := Lib.hid (H7.out.trans hd); have O9 := Lib.hid (O7.out.read hd hgb); have V9 := Lib.hid (V7.out.read hd hbg); have R9 := Lib.hid (R7.out.read hd hwg); have cv := V9.out.cell; have cf := V9.out.thaw 0; have cr := R9.out.cell; have cg := R9.out.thaw 0; clear hd)
      · obtain rfl : bb = true := by assumption
        clear cv0 cf0 cr0 cg0
        go_wp2
        have H8 := Lib.hid (H9.out.setNew HN.out (show w.heap.size ≤ b3 by omega) 0 (.slice none 0 0))
        have V8 := Lib.hid (V9.out.store (.slice none 0 0))
        have R8 := Lib.hid (R9.out.other hwb (i := 0) (.slice none 0 0))
        clear O9 H9 V9 R9 cv cf cr cg
        go_loopw [4] (fun n wr => ∃ (dv : Value) (M : List Ent), n = .int .i64 ((1 + M.length : Nat) : Int) ∧ M.length ≤ 41 ∧ Hid (LooseD M) ∧ Hid (VarD wr b3 dv) ∧ Hid (VarD wr w.heap.size (.slice none 0 0)) ∧ Hid (OwnD wr (w.heap.size + 1) dv M) ∧ Read v m g (B + 4000 + 2 * M.length) w wr) (fun n _ => 50 - (intOf n).toNat)
        case atStart => exact ⟨_, [], by go_num, by simp, Lib.hid LooseD.nil, V8, R8, Lib.hid (OwnD.nil _ _), H8.out.mono (by omega)⟩
        case round =>
          obtain ⟨dv, M, rfl, hc, HS, HV, HR, HO, hd⟩ := hrel
          have HW := Lib.hid hd; clear hd
          obtain ⟨am, cm, rfl⟩ := HO.out.form
          go_upto_region 16 with (go_at_call 45; refine (pick_any 2 (Read.refl HW.out.1) (by omega) (by decide) (by decide)).mono ?_; rintro e y1 ⟨⟨p, rfl, hp⟩, hd⟩; have W1 := Lib.hid (HW.out.trans hd); have O1 := Lib.hid (HO.out.read hd hgb); have V1 := Lib.hid (HV.out.read hd hbg); have R1 := Lib.hid (HR.out.read hd hwg); have cv := V1.out.cell; have cr := R1.out.cell; have cg := R1.out.thaw 0; clear hd)
          · obtain ⟨xs, hx, hD⟩ := O1.out
            have hz1' : w.heap.size + 1 ≤ y1.heap.size := by have := R1.out.lt; omega
            have hm40 : M.length ≤ 40 := by omega
            have AX := Lib.hid ((hx.alloc (.cells #[.int .i64 (1 + (M.length : Int))] 3)).alloc (.cells #[.slice (some ⟨y1.heap.size, 0, none⟩) 1 1, .string ⟨#[97]⟩] 39))
            have AV := Lib.hid ((V1.out.alloc (.cells #[.int .i64 (1 + (M.length : Int))] 3)).alloc (.cells #[.slice (some ⟨y1.heap.size, 0, none⟩) 1 1, .string ⟨#[97]⟩] 39))
            have AR := Lib.hid ((R1.out.alloc (.cells #[.int .i64 (1 + (M.length : Int))] 3)).alloc (.cells #[.slice (some ⟨y1.heap.size, 0, none⟩) 1 1, .string ⟨#[97]⟩] 39))
            have AH := Lib.hid ((W1.out.alloc (.cells #[.int .i64 (1 + (M.length : Int))] 3)).alloc (.cells #[.slice (some ⟨y1.heap.size, 0, none⟩) 1 1, .string ⟨#[97]⟩] 39))
            have AU := Lib.hid ((row_one (base := w.heap.size + 1) y1 (1 + (M.length : Int)) hz1').alloc (.cells #[.slice (some ⟨y1.heap.size, 0, none⟩) 1 1, .string ⟨#[97]⟩] 39))
            have AD := Lib.hid (show ∀ j (h : j < M.length), ∃ u, xs[j * 2]? = some u ∧ xs[j * 2 + 1]? = some (.string (M[j]).2) ∧ ((y1.alloc (.cells #[.int .i64 (1 + (M.length : Int))] 3)).alloc (.cells #[.slice (some ⟨y1.heap.size, 0, none⟩) 1 1, .string ⟨#[97]⟩] 39)).ownsRow (w.heap.size + 1) 3 1 u (M[j]).1.length (ints (M[j]).1) from fun j hj => by obtain ⟨u, e1, e2, e3⟩ := hD j hj; exact ⟨u, e1, e2, (e3.alloc _).alloc _⟩)
            clear hx hD
            go_wp2_with (at_builtin; refine app_den rfl _ _ rfl (w.heap.size + 1) _ M.length xs rfl AX.out ⟨_, 0, none⟩ 1 (some ⟨y1.heap.size, 0, none⟩) 1 1 ⟨#[97]⟩ rfl (den_news _ _ _ _ _ (World.size_alloc _ _).symm) (by omega) (by rw [World.size_alloc, World.size_alloc]; omega) ?_; intro v2 y3 hown2 hg2; obtain ⟨a2, c2, rfl⟩ := row_formO hown2; have V3 := Lib.hid (AV.out.grown hg2 (AV.out.apart AX.out (by decide))); have cv3 := V3.out.cell; have cf3 := V3.out.thaw 0)
            have OD := OwnD.snoc (l := M) (p := [1 + (M.length : Int)]) (t := ⟨#[97]⟩) AX.out AD.out AU.out hown2 hg2
            have O3 := Lib.hid (OD.var V3.out (.slice a2 (M.length + 1) c2))
            have H3 := Lib.hid ((AH.out.grownNew HN.out hg2 (fun j hj => Nat.le_of_succ_le (AX.out.lt j hj).1)).setNew HN.out (show w.heap.size ≤ b3 by omega) 0 (.slice a2 (M.length + 1) c2))
            have R3 := Lib.hid ((AR.out.grown hg2 (fun e => by have := (AX.out.lt _ e).1; omega)).other hwb (i := 0) (.slice a2 (M.length + 1) c2))
            have V4 := Lib.hid (V3.out.store (.slice a2 (M.length + 1) c2))
            have HS3 := Lib.hid (HS.out.snoc [1 + (M.length : Int)] ⟨#[97]⟩ (by simp) (by decide))
            clear OD AX AV AR AH AU AD hown2 hg2 cv3 cf3 V3 O1 V1 R1 W1 HO HV HR HW cv cr cg
            go_roundw
            case rel => exact ⟨_, M ++ [([1 + (M.length : Int)], ⟨#[97]⟩)], by rw [List.length_append]; go_num, by rw [List.length_append]; show M.length + 1 ≤ 41; omega, HS3, V4, R3, O3, by rw [List.length_append]; exact H3.out.mono (by show _ ≤ B + 4000 + 2 * (M.length + 1); omega)⟩
            case measure => simp [intOf]; omega
          · refine bodyPost_ret (v := .agg #[.slice am M.length cm]) (by simp [results, Tryz.results43, go_sem, *]) rfl ⟨⟨_, M, rfl, ?_, hc, HS.out⟩, ?_⟩
            · exact (O1.out.var R1.out _).lower (Nat.le_add_right _ _)
            · exact HH.out.trans ((W1.out.setNew HN.out (Nat.le_refl _) 0 _).mono (by omega))
      · refine bodyPost_ret (v := .agg #[.slice a6 (L.length + 1) c6]) (by simp [results, Tryz.results43, go_sem, *]) rfl ⟨⟨_, L', rfl, ?_, (by omega), HS7.out⟩, ?_⟩
        · exact (O9.out.var R9.out _).lower (Nat.le_add_right _ _)
        · exact HH.out.trans ((H9.out.setNew HN.out (Nat.le_refl _) 0 _).mono (by omega))
    · go_upto_region 6 with fail
      refine wp_region_held_drew (S := (fun w' => w'.cell? ⟨b3, 0, none⟩ = some (.slice (some ⟨la, 0, none⟩) L.length lc))) (by kernel_rfl) c3 (fun hHeld => ?_)
      refine takeH 0 20 (.pointer (some ⟨b3, 0, none⟩)) rfl (by kernel_rfl) (by kernel_rfl) (by kernel_rfl) (by kernel_rfl) (fun _ _ _ _ h => h) hHeld (Or.inl ⟨rfl, fun w' hw => by first | rfl | (go_simp; done)⟩) ?_
      try simp only [Act.put, List.setIfInBounds_toArray, List.set_cons_zero, List.set_cons_succ]
      refine takeH 1 21 (.slice (some ⟨la, 0, none⟩) L.length lc) rfl (by kernel_rfl) (by kernel_rfl) (by kernel_rfl) (by kernel_rfl) (fun _ _ _ _ h => h) hHeld (Or.inl ⟨rfl, fun w' hw => by first | rfl | (go_simp; done)⟩) ?_
      try simp only [Act.put, List.setIfInBounds_toArray, List.set_cons_zero, List.set_cons_succ]
      refine takeH 2 22 (.pointer (some ⟨g, 0, none⟩)) rfl (by kernel_rfl) (by kernel_rfl) (by kernel_rfl) (by kernel_rfl) (fun _ _ _ _ h => h) hHeld (Or.inl ⟨rfl, fun w' hw => by first | rfl | (go_simp; done)⟩) ?_
      try simp only [Act.put, List.setIfInBounds_toArray, List.set_cons_zero, List.set_cons_succ]
      refine wpAnyH_ready (rs := [3]) (by kernel_rfl) (by simp) ?_
      refine AllReadyH.cons (o := _) rfl (fun K hK => ?_) AllReadyH.nil
      go_simp
      refine hK.out _ _ (V3.out.alloc _).cell (fun hHeld2 => ?_)
      clear hK K hHeld
      have hHeld := hHeld2
      clear hHeld2
      try simp only [Act.put, List.setIfInBounds_toArray, List.set_cons_zero, List.set_cons_succ]
      refine wpAnyH_ready (rs := [4]) (by kernel_rfl) (by simp) ?_
      refine AllReadyH.cons (o := _) rfl (fun K hK => ?_) AllReadyH.nil
      go_simp
      (go_at_call 90; refine (of_lit (w := w3.drew) [⟨#[]⟩, ⟨#[123]⟩, ⟨#[97, 32, 32, 98]⟩] 1070 (Read.refl (show Cur v m g _ w3.drew from H3.out.1)) (by omega) (by decide) (by decide) (by decide) _).mono ?_; rintro e w5 ⟨⟨t, rfl, ht⟩, hd⟩)
      have H5 := Lib.hid ((show Read v m g _ w w3.drew from H3.out.to 1).trans hd)
      have O5 := Lib.hid ((show OwnD w3.drew _ _ L from O3.out).read hd hgb)
      have V5 := Lib.hid ((show VarD w3.drew _ _ from V3.out).read hd hbg)
      have R5 := Lib.hid ((show VarD w3.drew _ _ from R3.out).read hd hwg)
      clear hd
      go_wp2_with fail
      refine hK.out _ _ V5.out.cell (fun hHeld2 => ?_)
      clear hK K hHeld
      have hHeld := hHeld2
      clear hHeld2
      try simp only [Act.put, List.setIfInBounds_toArray, List.set_cons_zero, List.set_cons_succ]
      refine takeH 5 25 (.pointer (some ⟨la, 0, none⟩)) rfl (by kernel_rfl) (by kernel_rfl) (by kernel_rfl) (by kernel_rfl) (fun _ _ _ _ h => h) hHeld (Or.inl ⟨rfl, fun w' hw => by first | rfl | (go_simp; done)⟩) ?_
      try simp only [Act.put, List.setIfInBounds_toArray, List.set_cons_zero, List.set_cons_succ]
      refine takeH 6 26 (.pointer (some ⟨la, 1, none⟩)) rfl (by kernel_rfl) (by kernel_rfl) (by kernel_rfl) (by kernel_rfl) (fun _ _ _ _ h => h) hHeld (Or.inl ⟨rfl, fun w' hw => by first | rfl | (go_simp; done)⟩) ?_
      try simp only [Act.put, List.setIfInBounds_toArray, List.set_cons_zero, List.set_cons_succ]
      obtain ⟨_, _, _, hbe, d1, d2, _⟩ := ent_at O5.out.ents 0 (by omega)
      cases hbe
      have fd : w5.frozen? ⟨la, 1, none⟩ = false := by
        obtain ⟨xs, hx, _⟩ := O5.out
        exact own_thawE hx 1
      have hwl : w.heap.size ≠ la := by omega
      have O7 := Lib.hid (O5.out.setText 0 (by omega) t)
      have H7 := Lib.hid (H5.out.setNew HN.out (show w.heap.size ≤ la by omega) 1 (.string t))
      have R7 := Lib.hid (R5.out.other hwl (i := 1) (.string t))
      have V7 := Lib.hid (V5.out.other (fun e => hlb e.symm) (i := 1) (.string t))
      have HS7 := Lib.hid (HSm.out.loose.set 0 (L[0]'(by omega)).1 t (by have := HSm.out _ (List.getElem_mem (show 0 < L.length by omega)); omega) ht)
      refine wpAnyH_ready (rs := [7]) (by kernel_rfl) (by simp) ?_
      refine AllReadyH.cons (o := _) rfl (fun K hK => ?_) AllReadyH.nil
      go_simp
      refine hK.out _ _ V7.out.cell (fun hHeld2 => ?_)
      clear hK K hHeld
      have hHeld := hHeld2
      clear hHeld2
      try simp only [Act.put]
      refine wpAnyH_done (by kernel_rfl) ?_ _
      clear hHeld d1 d2 fd O5 V5 R5 H5 H3 O3 V3 R3 c3
      have hL' : (L.set 0 ((L[0]'(by omega)).1, t)).length = L.length := List.length_set
      go_upto_region 11 with fail
      generalize L.set 0 ((L[0]'(by omega)).1, t) = L' at O7 HS7 hL'
      have cv0 := V7.out.cell
      have cf0 := V7.out.thaw 0
      have cr0 := R7.out.cell
      have cg0 := R7.out.thaw 0
      go_upto_region 12 with (go_at_call 44; refine (one_any 40 (Read.refl H7.out.1) (by omega) (by decide) (by decide)).mono ?_; rintro e y1 ⟨⟨bb, rfl⟩, hd⟩; have H9 := Lib.hid (H7.out.trans hd); have O9 := Lib.hid (O7.out.read hd hgb); have V9 := Lib.hid (V7.out.read hd hbg); have R9 := Lib.hid (R7.out.read hd hwg); have cv := V9.out.cell; have cf := V9.out.thaw 0; have cr := R9.out.cell; have cg := R9.out.thaw 0; clear hd)
      · obtain rfl : bb = true := by assumption
        clear cv0 cf0 cr0 cg0
        go_wp2
        have H8 := Lib.hid (H9.out.setNew HN.out (show w.heap.size ≤ b3 by omega) 0 (.slice none 0 0))
        have V8 := Lib.hid (V9.out.store (.slice none 0 0))
        have R8 := Lib.hid (R9.out.other hwb (i := 0) (.slice none 0 0))
        clear O9 H9 V9 R9 cv cf cr cg
        go_loopw [4] (fun n wr => ∃ (dv : Value) (M : List Ent), n = .int .i64 ((1 + M.length : Nat) : Int) ∧ M.length ≤ 41 ∧ Hid (LooseD M) ∧ Hid (VarD wr b3 dv) ∧ Hid (VarD wr w.heap.size (.slice none 0 0)) ∧ Hid (OwnD wr (w.heap.size + 1) dv M) ∧ Read v m g (B + 4000 + 2 * M.length) w wr) (fun n _ => 50 - (intOf n).toNat)
        case atStart => exact ⟨_, [], by go_num, by simp, Lib.hid LooseD.nil, V8, R8, Lib.hid (OwnD.nil _ _), H8.out.mono (by omega)⟩
        case round =>
          obtain ⟨dv, M, rfl, hc, HS, HV, HR, HO, hd⟩ := hrel
          have HW := Lib.hid hd; clear hd
          obtain ⟨am, cm, rfl⟩ := HO.out.form
          go_upto_region 16 with (go_at_call 45; refine (pick_any 2 (Read.refl HW.out.1) (by omega) (by decide) (by decide)).mono ?_; rintro e y1 ⟨⟨p, rfl, hp⟩, hd⟩; have W1 := Lib.hid (HW.out.trans hd); have O1 := Lib.hid (HO.out.read hd hgb); have V1 := Lib.hid (HV.out.read hd hbg); have R1 := Lib.hid (HR.out.read hd hwg); have cv := V1.out.cell; have cr := R1.out.cell; have cg := R1.out.thaw 0; clear hd)
          · obtain ⟨xs, hx, hD⟩ := O1.out
            have hz1' : w.heap.size + 1 ≤ y1.heap.size := by have := R1.out.lt; omega
            have hm40 : M.length ≤ 40 := by omega
            have AX := Lib.hid ((hx.alloc (.cells #[.int .i64 (1 + (M.length : Int))] 3)).alloc (.cells #[.slice (some ⟨y1.heap.size, 0, none⟩) 1 1, .string ⟨#[97]⟩] 39))
            have AV := Lib.hid ((V1.out.alloc (.cells #[.int .i64 (1 + (M.length : Int))] 3)).alloc (.cells #[.slice (some ⟨y1.heap.size, 0, none⟩) 1 1, .string ⟨#[97]⟩] 39))
            have AR := Lib.hid ((R1.out.alloc (.cells #[.int .i64 (1 + (M.length : Int))] 3)).alloc (.cells #[.slice (some ⟨y1.heap.size, 0, none⟩) 1 1, .string ⟨#[97]⟩] 39))
            have AH := Lib.hid ((W1.out.alloc (.cells #[.int .i64 (1 + (M.length : Int))] 3)).alloc (.cells #[.slice (some ⟨y1.heap.size, 0, none⟩) 1 1, .string ⟨#[97]⟩] 39))
            have AU := Lib.hid ((row_one (base := w.heap.size + 1) y1 (1 + (M.length : Int)) hz1').alloc (.cells #[.slice (some ⟨y1.heap.size, 0, none⟩) 1 1, .string ⟨#[97]⟩] 39))
            have AD := Lib.hid (show ∀ j (h : j < M.length), ∃ u, xs[j * 2]? = some u ∧ xs[j * 2 + 1]? = some (.string (M[j]).2) ∧ ((y1.alloc (.cells #[.int .i64 (1 + (M.length : Int))] 3)).alloc (.cells #[.slice (some ⟨y1.heap.size, 0, none⟩) 1 1, .string ⟨#[97]⟩] 39)).ownsRow (w.heap.size + 1) 3 1 u (M[j]).1.length (ints (M[j]).1) from fun j hj => by obtain ⟨u, e1, e2, e3⟩ := hD j hj; exact ⟨u, e1, e2, (e3.alloc _).alloc _⟩)
            clear hx hD
            go_wp2_with (at_builtin; refine app_den rfl _ _ rfl (w.heap.size + 1) _ M.length xs rfl AX.out ⟨_, 0, none⟩ 1 (some ⟨y1.heap.size, 0, none⟩) 1 1 ⟨#[97]⟩ rfl (den_news _ _ _ _ _ (World.size_alloc _ _).symm) (by omega) (by rw [World.size_alloc, World.size_alloc]; omega) ?_; intro v2 y3 hown2 hg2; obtain ⟨a2, c2, rfl⟩ := row_formO hown2; have V3 := Lib.hid (AV.out.grown hg2 (AV.out.apart AX.out (by decide))); have cv3 := V3.out.cell; have cf3 := V3.out.thaw 0)
            have OD := OwnD.snoc (l := M) (p := [1 + (M.length : Int)]) (t := ⟨#[97]⟩) AX.out AD.out AU.out hown2 hg2
            have O3 := Lib.hid (OD.var V3.out (.slice a2 (M.length + 1) c2))
            have H3 := Lib.hid ((AH.out.grownNew HN.out hg2 (fun j hj => Nat.le_of_succ_le (AX.out.lt j hj).1)).setNew HN.out (show w.heap.size ≤ b3 by omega) 0 (.slice a2 (M.length + 1) c2))
            have R3 := Lib.hid ((AR.out.grown hg2 (fun e => by have := (AX.out.lt _ e).1; omega)).other hwb (i := 0) (.slice a2 (M.length + 1) c2))
            have V4 := Lib.hid (V3.out.store (.slice a2 (M.length + 1) c2))
            have HS3 := Lib.hid (HS.out.snoc [1 + (M.length : Int)] ⟨#[97]⟩ (by simp) (by decide))
            clear OD AX AV AR AH AU AD hown2 hg2 cv3 cf3 V3 O1 V1 R1 W1 HO HV HR HW cv cr cg
            go_roundw
            case rel => exact ⟨_, M ++ [([1 + (M.length : Int)], ⟨#[97]⟩)], by rw [List.length_append]; go_num, by rw [List.length_append]; show M.length + 1 ≤ 41; omega, HS3, V4, R3, O3, by rw [List.length_append]; exact H3.out.mono (by show _ ≤ B + 4000 + 2 * (M.length + 1); omega)⟩
            case measure => simp [intOf]; omega
          · refine bodyPost_ret (v := .agg #[.slice am M.length cm]) (by simp [results, Tryz.results43, go_sem, *]) rfl ⟨⟨_, M, rfl, ?_, hc, HS.out⟩, ?_⟩
            · exact (O1.out.var R1.out _).lower (Nat.le_add_right _ _)
            · exact HH.out.trans ((W1.out.setNew HN.out (Nat.le_refl _) 0 _).mono (by omega))
      · refine bodyPost_ret (v := .agg #[.slice (some ⟨la, 0, none⟩) L.length lc]) (by simp [results, Tryz.results43, go_sem, *]) rfl ⟨⟨_, L', rfl, ?_, (by omega), HS7.out⟩, ?_⟩
        · exact (O9.out.var R9.out _).lower (Nat.le_add_right _ _)
        · exact HH.out.trans ((H9.out.setNew HN.out (Nat.le_refl _) 0 _).mono (by omega))
    · go_upto_region 8 with fail
      refine wp_region_held_drew (S := (fun w' => w'.cell? ⟨b3, 0, none⟩ = some (.slice (some ⟨la, 0, none⟩) L.length lc))) (by kernel_rfl) c3 (fun hHeld => ?_)
      refine takeH 0 29 (.pointer (some ⟨b3, 0, none⟩)) rfl (by kernel_rfl) (by kernel_rfl) (by kernel_rfl) (by kernel_rfl) (fun _ _ _ _ h => h) hHeld (Or.inl ⟨rfl, fun w' hw => by first | rfl | (go_simp; done)⟩) ?_
      try simp only [Act.put, List.setIfInBounds_toArray, List.set_cons_zero, List.set_cons_succ]
      refine takeH 1 30 (.slice (some ⟨la, 0, none⟩) L.length lc) rfl (by kernel_rfl) (by kernel_rfl) (by kernel_rfl) (by kernel_rfl) (fun _ _ _ _ h => h) hHeld (Or.inl ⟨rfl, fun w' hw => by first | rfl | (go_simp; done)⟩) ?_
      try simp only [Act.put, List.setIfInBounds_toArray, List.set_cons_zero, List.set_cons_succ]
      refine takeH 2 31 (.pointer (some ⟨g, 0, none⟩)) rfl (by kernel_rfl) (by kernel_rfl) (by kernel_rfl) (by kernel_rfl) (fun _ _ _ _ h => h) hHeld (Or.inl ⟨rfl, fun w' hw => by first | rfl | (go_simp; done)⟩) ?_
      try simp only [Act.put, List.setIfInBounds_toArray, List.set_cons_zero, List.set_cons_succ]
      refine wpAnyH_ready (rs := [3]) (by kernel_rfl) (by simp) ?_
      refine AllReadyH.cons (o := _) rfl (fun K hK => ?_) AllReadyH.nil
      go_simp
      (go_at_call 91; refine (anyOutline_any (w := w3.drew) (Read.refl (show Cur v m g _ w3.drew from H3.out.1)) (by omega)).mono ?_; rintro e w5 ⟨⟨oa, oc, o, rfl, hown, ho1, ho2⟩, hd⟩)
      have H5 := Lib.hid ((show Read v m g _ w w3.drew from H3.out.to 1).trans hd)
      have O5 := Lib.hid ((show OwnD w3.drew _ _ L from O3.out).read hd hgb)
      have V5 := Lib.hid ((show VarD w3.drew _ _ from V3.out).read hd hbg)
      have R5 := Lib.hid ((show VarD w3.drew _ _ from R3.out).read hd hwg)
      have hz3 : w.heap.size + 1 ≤ w3.heap.size := by have := R3.out.lt; omega
      have U5 := Lib.hid (own_lower2 (b' := w.heap.size + 1) hown hz3)
      clear hd hown
      go_wp2_with fail
      refine hK.out _ _ V5.out.cell (fun hHeld2 => ?_)
      clear hK K hHeld
      have hHeld := hHeld2
      clear hHeld2
      try simp only [Act.put, List.setIfInBounds_toArray, List.set_cons_zero, List.set_cons_succ]
      refine takeH 4 33 (.pointer (some ⟨la, 0, none⟩)) rfl (by kernel_rfl) (by kernel_rfl) (by kernel_rfl) (by kernel_rfl) (fun _ _ _ _ h => h) hHeld (Or.inl ⟨rfl, fun w' hw => by first | rfl | (go_simp; done)⟩) ?_
      try simp only [Act.put, List.setIfInBounds_toArray, List.set_cons_zero, List.set_cons_succ]
      refine takeH 5 34 (.pointer (some ⟨la, 0, none⟩)) rfl (by kernel_rfl) (by kernel_rfl) (by kernel_rfl) (by kernel_rfl) (fun _ _ _ _ h => h) hHeld (Or.inl ⟨rfl, fun w' hw => by first | rfl | (go_simp; done)⟩) ?_
      try simp only [Act.put, List.setIfInBounds_toArray, List.set_cons_zero, List.set_cons_succ]
      obtain ⟨_, _, _, hbe, d1, d2, _⟩ := ent_at O5.out.ents 0 (by omega)
      cases hbe
      have fd : w5.frozen? ⟨la, 0, none⟩ = false := by
        obtain ⟨xs, hx, _⟩ := O5.out
        exact own_thawE hx 0
      have hwl : w.heap.size ≠ la := by omega
      have O7 := Lib.hid (O5.out.setOut 0 (by omega) _ o U5.out)
      have H7 := Lib.hid (H5.out.setNew HN.out (show w.heap.size ≤ la by omega) 0 (.slice (some ⟨oa, 0, none⟩) o.length oc))
      have R7 := Lib.hid (R5.out.other hwl (i := 0) (.slice (some ⟨oa, 0, none⟩) o.length oc))
      have V7 := Lib.hid (V5.out.other (fun e => hlb e.symm) (i := 0) (.slice (some ⟨oa, 0, none⟩) o.length oc))
      have HS7 := Lib.hid (HSm.out.loose.set 0 o (L[0]'(by omega)).2 ho2 (HSm.out _ (List.getElem_mem (show 0 < L.length by omega))).2.2)
      refine wpAnyH_ready (rs := [6]) (by kernel_rfl) (by simp) ?_
      refine AllReadyH.cons (o := _) rfl (fun K hK => ?_) AllReadyH.nil
      go_simp
      refine hK.out _ _ V7.out.cell (fun hHeld2 => ?_)
      clear hK K hHeld
      have hHeld := hHeld2
      clear hHeld2
      try simp only [Act.put]
      refine wpAnyH_done (by kernel_rfl) ?_ _
      clear hHeld d1 d2 fd O5 V5 R5 H5 H3 O3 V3 R3 c3 U5
      have hL' : (L.set 0 (o, (L[0]'(by omega)).2)).length = L.length := List.length_set
      go_upto_region 11 with fail
      generalize L.set 0 (o, (L[0]'(by omega)).2) = L' at O7 HS7 hL'
      have cv0 := V7.out.cell
      have cf0 := V7.out.thaw 0
      have cr0 := R7.out.cell
      have cg0 := R7.out.thaw 0
      go_upto_region 12 with (go_at_call 44; refine (one_any 40 (Read.refl H7.out.1) (by omega) (by decide) (by decide)).mono ?_; rintro e y1 ⟨⟨bb, rfl⟩, hd⟩; have H9 := Lib.hid (H7.out.trans hd); have O9 := Lib.hid (O7.out.read hd hgb); have V9 := Lib.hid (V7.out.read hd hbg); have R9 := Lib.hid (R7.out.read hd hwg); have cv := V9.out.cell; have cf := V9.out.thaw 0; have cr := R9.out.cell; have cg := R9.out.thaw 0; clear hd)
      · obtain rfl : bb = true := by assumption
        clear cv0 cf0 cr0 cg0
        go_wp2
        have H8 := Lib.hid (H9.out.setNew HN.out (show w.heap.size ≤ b3 by omega) 0 (.slice none 0 0))
        have V8 := Lib.hid (V9.out.store (.slice none 0 0))
        have R8 := Lib.hid (R9.out.other hwb (i := 0) (.slice none 0 0))
        clear O9 H9 V9 R9 cv cf cr cg
        go_loopw [4] (fun n wr => ∃ (dv : Value) (M : List Ent), n = .int .i64 ((1 + M.length : Nat) : Int) ∧ M.length ≤ 41 ∧ Hid (LooseD M) ∧ Hid (VarD wr b3 dv) ∧ Hid (VarD wr w.heap.size (.slice none 0 0)) ∧ Hid (OwnD wr (w.heap.size + 1) dv M) ∧ Read v m g (B + 4000 + 2 * M.length) w wr) (fun n _ => 50 - (intOf n).toNat)
        case atStart => exact ⟨_, [], by go_num, by simp, Lib.hid LooseD.nil, V8, R8, Lib.hid (OwnD.nil _ _), H8.out.mono (by omega)⟩
        case round =>
          obtain ⟨dv, M, rfl, hc, HS, HV, HR, HO, hd⟩ := hrel
          have HW := Lib.hid hd; clear hd
          obtain ⟨am, cm, rfl⟩ := HO.out.form
          go_upto_region 16 with (go_at_call 45; refine (pick_any 2 (Read.refl HW.out.1) (by omega) (by decide) (by decide)).mono ?_; rintro e y1 ⟨⟨p, rfl, hp⟩, hd⟩; have W1 := Lib.hid (HW.out.trans hd); have O1 := Lib.hid (HO.out.read hd hgb); have V1 := Lib.hid (HV.out.read hd hbg); have R1 := Lib.hid (HR.out.read hd hwg); have cv := V1.out.cell; have cr := R1.out.cell; have cg := R1.out.thaw 0; clear hd)
          · obtain ⟨xs, hx, hD⟩ := O1.out
            have hz1' : w.heap.size + 1 ≤ y1.heap.size := by have := R1.out.lt; omega
            have hm40 : M.length ≤ 40 := by omega
            have AX := Lib.hid ((hx.alloc (.cells #[.int .i64 (1 + (M.length : Int))] 3)).alloc (.cells #[.slice (some ⟨y1.heap.size, 0, none⟩) 1 1, .string ⟨#[97]⟩] 39))
            have AV := Lib.hid ((V1.out.alloc (.cells #[.int .i64 (1 + (M.length : Int))] 3)).alloc (.cells #[.slice (some ⟨y1.heap.size, 0, none⟩) 1 1, .string ⟨#[97]⟩] 39))
            have AR := Lib.hid ((R1.out.alloc (.cells #[.int .i64 (1 + (M.length : Int))] 3)).alloc (.cells #[.slice (some ⟨y1.heap.size, 0, none⟩) 1 1, .string ⟨#[97]⟩] 39))
            have AH := Lib.hid ((W1.out.alloc (.cells #[.int .i64 (1 + (M.length : Int))] 3)).alloc (.cells #[.slice (some ⟨y1.heap.size, 0, none⟩) 1 1, .string ⟨#[97]⟩] 39))
            have AU := Lib.hid ((row_one (base := w.heap.size + 1) y1 (1 + (M.length : Int)) hz1').alloc (.cells #[.slice (some ⟨y1.heap.size, 0, none⟩) 1 1, .string ⟨#[97]⟩] 39))
            have AD := Lib.hid (show ∀ j (h : j < M.length), ∃ u, xs[j * 2]? = some u ∧ xs[j * 2 + 1]? = some (.string (M[j]).2) ∧ ((y1.alloc (.cells #[.int .i64 (1 + (M.length : Int))] 3)).alloc (.cells #[.slice (some ⟨y1.heap.size, 0, none⟩) 1 1, .string ⟨#[97]⟩] 39)).ownsRow (w.heap.size + 1) 3 1 u (M[j]).1.length (ints (M[j]).1) from fun j hj => by obtain ⟨u, e1, e2, e3⟩ := hD j hj; exact ⟨u, e1, e2, (e3.alloc _).alloc _⟩)
            clear hx hD
            go_wp2_with (at_builtin; refine app_den rfl _ _ rfl (w.heap.size + 1) _ M.length xs rfl AX.out ⟨_, 0, none⟩ 1 (some ⟨y1.heap.size, 0, none⟩) 1 1 ⟨#[97]⟩ rfl (den_news _ _ _ _ _ (World.size_alloc _ _).symm) (by omega) (by rw [World.size_alloc, World.size_alloc]; omega) ?_; intro v2 y3 hown2 hg2; obtain ⟨a2, c2, rfl⟩ := row_formO hown2; have V3 := Lib.hid (AV.out.grown hg2 (AV.out.apart AX.out (by decide))); have cv3 := V3.out.cell; have cf3 := V3.out.thaw 0)
            have OD := OwnD.snoc (l := M) (p := [1 + (M.length : Int)]) (t := ⟨#[97]⟩) AX.out AD.out AU.out hown2 hg2
            have O3 := Lib.hid (OD.var V3.out (.slice a2 (M.length + 1) c2))
            have H3 := Lib.hid ((AH.out.grownNew HN.out hg2 (fun j hj => Nat.le_of_succ_le (AX.out.lt j hj).1)).setNew HN.out (show w.heap.size ≤ b3 by omega) 0 (.slice a2 (M.length + 1) c2))
            have R3 := Lib.hid ((AR.out.grown hg2 (fun e => by have := (AX.out.lt _ e).1; omega)).other hwb (i := 0) (.slice a2 (M.length + 1) c2))
            have V4 := Lib.hid (V3.out.store (.slice a2 (M.length + 1) c2))
            have HS3 := Lib.hid (HS.out.snoc [1 + (M.length : Int)] ⟨#[97]⟩ (by simp) (by decide))
            clear OD AX AV AR AH AU AD hown2 hg2 cv3 cf3 V3 O1 V1 R1 W1 HO HV HR HW cv cr cg
            go_roundw
            case rel => exact ⟨_, M ++ [([1 + (M.length : Int)], ⟨#[97]⟩)], by rw [List.length_append]; go_num, by rw [List.length_append]; show M.length + 1 ≤ 41; omega, HS3, V4, R3, O3, by rw [List.length_append]; exact H3.out.mono (by show _ ≤ B + 4000 + 2 * (M.length + 1); omega)⟩
            case measure => simp [intOf]; omega
          · refine bodyPost_ret (v := .agg #[.slice am M.length cm]) (by simp [results, Tryz.results43, go_sem, *]) rfl ⟨⟨_, M, rfl, ?_, hc, HS.out⟩, ?_⟩
            · exact (O1.out.var R1.out _).lower (Nat.le_add_right _ _)
            · exact HH.out.trans ((W1.out.setNew HN.out (Nat.le_refl _) 0 _).mono (by omega))
      · refine bodyPost_ret (v := .agg #[.slice (some ⟨la, 0, none⟩) L.length lc]) (by simp [results, Tryz.results43, go_sem, *]) rfl ⟨⟨_, L', rfl, ?_, (by omega), HS7.out⟩, ?_⟩
        · exact (O9.out.var R9.out _).lower (Nat.le_add_right _ _)
        · exact HH.out.trans ((H9.out.setNew HN.out (Nat.le_refl _) 0 _).mono (by omega))
    · rw [show ((3 : Nat) : Int) = 3 from rfl]
      have cf3 := V3.out.thaw 0
      go_upto_region 11 with fail
      have O7 := Lib.hid (OwnD.nil (w3.setCell ⟨b3, 0, none⟩ (.slice none 0 0)) (w.heap.size + 1))
      have H7 := Lib.hid (H3.out.setNew HN.out (show w.heap.size ≤ b3 by omega) 0 (.slice none 0 0))
      have R7 := Lib.hid (R3.out.other hwb (i := 0) (.slice none 0 0))
      have V7 := Lib.hid (V3.out.store (.slice none 0 0))
      have HS7 := Lib.hid LooseD.nil
      clear H3 O3 R3 V3 c3 cf3
      have hL' : ([] : List Ent).length = 0 := rfl
      generalize ([] : List Ent) = L' at O7 HS7 hL'
      have cv0 := V7.out.cell
      have cf0 := V7.out.thaw 0
      have cr0 := R7.out.cell
      have cg0 := R7.out.thaw 0
      go_upto_region 12 with (go_at_call 44; refine (one_any 40 (Read.refl H7.out.1) (by omega) (by decide) (by decide)).mono ?_; rintro e y1 ⟨⟨bb, rfl⟩, hd⟩; have H9 := Lib.hid (H7.out.trans hd); have O9 := Lib.hid (O7.out.read hd hgb); have V9 := Lib.hid (V7.out.read hd hbg); have R9 := Lib.hid (R7.out.read hd hwg); have cv := V9.out.cell; have cf := V9.out.thaw 0; have cr := R9.out.cell; have cg := R9.out.thaw 0; clear hd)
      · obtain rfl : bb = true := by assumption
        clear cv0 cf0 cr0 cg0
        go_wp2
        have H8 := Lib.hid (H9.out.setNew HN.out (show w.heap.size ≤ b3 by omega) 0 (.slice none 0 0))
        have V8 := Lib.hid (V9.out.store (.slice none 0 0))
        have R8 := Lib.hid (R9.out.other hwb (i := 0) (.slice none 0 0))
        clear O9 H9 V9 R9 cv cf cr cg
        go_loopw [4] (fun n wr => ∃ (dv : Value) (M : List Ent), n = .int .i64 ((1 + M.length : Nat) : Int) ∧ M.length ≤ 41 ∧ Hid (LooseD M) ∧ Hid (VarD wr b3 dv) ∧ Hid (VarD wr w.heap.size (.slice none 0 0)) ∧ Hid (OwnD wr (w.heap.size + 1) dv M) ∧ Read v m g (B + 4000 + 2 * M.length) w wr) (fun n _ => 50 - (intOf n).toNat)
        case atStart => exact ⟨_, [], by go_num, by simp, Lib.hid LooseD.nil, V8, R8, Lib.hid (OwnD.nil _ _), H8.out.mono (by omega)⟩
        case round =>
          obtain ⟨dv, M, rfl, hc, HS, HV, HR, HO, hd⟩ := hrel
          have HW := Lib.hid hd; clear hd
          obtain ⟨am, cm, rfl⟩ := HO.out.form
          go_upto_region 16 with (go_at_call 45; refine (pick_any 2 (Read.refl HW.out.1) (by omega) (by decide) (by decide)).mono ?_; rintro e y1 ⟨⟨p, rfl, hp⟩, hd⟩; have W1 := Lib.hid (HW.out.trans hd); have O1 := Lib.hid (HO.out.read hd hgb); have V1 := Lib.hid (HV.out.read hd hbg); have R1 := Lib.hid (HR.out.read hd hwg); have cv := V1.out.cell; have cr := R1.out.cell; have cg := R1.out.thaw 0; clear hd)
          · obtain ⟨xs, hx, hD⟩ := O1.out
            have hz1' : w.heap.size + 1 ≤ y1.heap.size := by have := R1.out.lt; omega
            have hm40 : M.length ≤ 40 := by omega
            have AX := Lib.hid ((hx.alloc (.cells #[.int .i64 (1 + (M.length : Int))] 3)).alloc (.cells #[.slice (some ⟨y1.heap.size, 0, none⟩) 1 1, .string ⟨#[97]⟩] 39))
            have AV := Lib.hid ((V1.out.alloc (.cells #[.int .i64 (1 + (M.length : Int))] 3)).alloc (.cells #[.slice (some ⟨y1.heap.size, 0, none⟩) 1 1, .string ⟨#[97]⟩] 39))
            have AR := Lib.hid ((R1.out.alloc (.cells #[.int .i64 (1 + (M.length : Int))] 3)).alloc (.cells #[.slice (some ⟨y1.heap.size, 0, none⟩) 1 1, .string ⟨#[97]⟩] 39))
            have AH := Lib.hid ((W1.out.alloc (.cells #[.int .i64 (1 + (M.length : Int))] 3)).alloc (.cells #[.slice (some ⟨y1.heap.size, 0, none⟩) 1 1, .string ⟨#[97]⟩] 39))
            have AU := Lib.hid ((row_one (base := w.heap.size + 1) y1 (1 + (M.length : Int)) hz1').alloc (.cells #[.slice (some ⟨y1.heap.size, 0, none⟩) 1 1, .string ⟨#[97]⟩] 39))
            have AD := Lib.hid (show ∀ j (h : j < M.length), ∃ u, xs[j * 2]? = some u ∧ xs[j * 2 + 1]? = some (.string (M[j]).2) ∧ ((y1.alloc (.cells #[.int .i64 (1 + (M.length : Int))] 3)).alloc (.cells #[.slice (some ⟨y1.heap.size, 0, none⟩) 1 1, .string ⟨#[97]⟩] 39)).ownsRow (w.heap.size + 1) 3 1 u (M[j]).1.length (ints (M[j]).1) from fun j hj => by obtain ⟨u, e1, e2, e3⟩ := hD j hj; exact ⟨u, e1, e2, (e3.alloc _).alloc _⟩)
            clear hx hD
            go_wp2_with (at_builtin; refine app_den rfl _ _ rfl (w.heap.size + 1) _ M.length xs rfl AX.out ⟨_, 0, none⟩ 1 (some ⟨y1.heap.size, 0, none⟩) 1 1 ⟨#[97]⟩ rfl (den_news _ _ _ _ _ (World.size_alloc _ _).symm) (by omega) (by rw [World.size_alloc, World.size_alloc]; omega) ?_; intro v2 y3 hown2 hg2; obtain ⟨a2, c2, rfl⟩ := row_formO hown2; have V3 := Lib.hid (AV.out.grown hg2 (AV.out.apart AX.out (by decide))); have cv3 := V3.out.cell; have cf3 := V3.out.thaw 0)
            have OD := OwnD.snoc (l := M) (p := [1 + (M.length : Int)]) (t := ⟨#[97]⟩) AX.out AD.out AU.out hown2 hg2
            have O3 := Lib.hid (OD.var V3.out (.slice a2 (M.length + 1) c2))
            have H3 := Lib.hid ((AH.out.grownNew HN.out hg2 (fun j hj => Nat.le_of_succ_le (AX.out.lt j hj).1)).setNew HN.out (show w.heap.size ≤ b3 by omega) 0 (.slice a2 (M.length + 1) c2))
            have R3 := Lib.hid ((AR.out.grown hg2 (fun e => by have := (AX.out.lt _ e).1; omega)).other hwb (i := 0) (.slice a2 (M.length + 1) c2))
            have V4 := Lib.hid (V3.out.store (.slice a2 (M.length + 1) c2))
            have HS3 := Lib.hid (HS.out.snoc [1 + (M.length : Int)] ⟨#[97]⟩ (by simp) (by decide))
            clear OD AX AV AR AH AU AD hown2 hg2 cv3 cf3 V3 O1 V1 R1 W1 HO HV HR HW cv cr cg
            go_roundw
            case rel => exact ⟨_, M ++ [([1 + (M.length : Int)], ⟨#[97]⟩)], by rw [List.length_append]; go_num, by rw [List.length_append]; show M.length + 1 ≤ 41; omega, HS3, V4, R3, O3, by rw [List.length_append]; exact H3.out.mono (by show _ ≤ B + 4000 + 2 * (M.length + 1); omega)⟩
            case measure => simp [intOf]; omega
          · refine bodyPost_ret (v := .agg #[.slice am M.length cm]) (by simp [results, Tryz.results43, go_sem, *]) rfl ⟨⟨_, M, rfl, ?_, hc, HS.out⟩, ?_⟩
            · exact (O1.out.var R1.out _).lower (Nat.le_add_right _ _)
            · exact HH.out.trans ((W1.out.setNew HN.out (Nat.le_refl _) 0 _).mono (by omega))
      · refine bodyPost_ret (v := .agg #[.slice none 0 0]) (by simp [results, Tryz.results43, go_sem, *]) rfl ⟨⟨_, L', rfl, ?_, (by omega), HS7.out⟩, ?_⟩
        · exact (O9.out.var R9.out _).lower (Nat.le_add_right _ _)
        · exact HH.out.trans ((H9.out.setNew HN.out (Nat.le_refl _) 0 _).mono (by omega))

end Go.Proofs.YtdidgaibgkdjoaaGreatDoor

namespace Go.Proofs.YtdidgaibgkdjoaaGreatDoor
open Go.RowKit

theorem foldsOk_list : ∀ (n : Nat) (xs : List Value), FoldsOk xs n → ∃ F : List (Int × ByteArray), F.length = n ∧ folds F = xs ∧ ∀ p ∈ F, p.2.size ≤ 9
  | 0, xs, h => ⟨[], rfl, by
      have := h.1
      cases xs with
      | nil => rfl
      | cons a r => simp at this, fun p hp => by cases hp⟩
  | n + 1, xs, h => by
    obtain ⟨k, t, h1, h2, h3⟩ := h.2 0 (Nat.zero_lt_succ n)
    match xs, h, h1, h2 with
    | [], _, h1, _ => cases h1
    | [_], _, _, h2 => cases h2
    | a :: b :: r, h, h1, h2 =>
      simp at h1 h2
      subst h1; subst h2
      have hr : FoldsOk r n := by
        refine ⟨by have := h.1; simp at this; omega, fun j hj => ?_⟩
        obtain ⟨k', t', e1, e2, e3⟩ := h.2 (j + 1) (by omega)
        rw [show (j + 1) * 2 = j * 2 + 2 by omega] at e1 e2
        exact ⟨k', t', e1, e2, e3⟩
      obtain ⟨F, f1, f2, f3⟩ := foldsOk_list n r hr
      refine ⟨(k, t) :: F, by simp [f1], by rw [← f2]; rfl, fun p hp => ?_⟩
      rcases List.mem_cons.1 hp with rfl | hp
      · exact h3
      · exact f3 p hp
theorem FRow.toRows {w : World} {base g off : Nat} {v : Value} {n : Nat} {xs : List Value} (h : FRow w base g off v n xs) : Rows w v n 2 xs := by
  have hc := fun j u hj => h.cell (j := j) (u := u) hj
  obtain ⟨cap, cur, e, _, _, _, h4, h5, _, _, h7, _⟩ := h
  exact ⟨_, cap, e, h4, h5, h7, (fun e => by cases e), fun j u hj => ⟨g, off, rfl, hc j u hj⟩⟩
theorem FRow.notVar {w : World} {base g off b : Nat} {v dv : Value} {n : Nat} {xs : List Value} (h : FRow w base g off v n xs) (hv : VarD w b dv) : g ≠ b := by
  obtain ⟨cap, cur, _, _, h2, _⟩ := h
  intro e
  subst e
  unfold VarD at hv
  rw [hv] at h2
  cases h2
theorem own_neV {w : World} {b R : Nat} {E : TypeId} {s n : Nat} {v : Value} {xs : List Value} (h : w.ownsRow b E s v n xs) (hR : R < b) : v.ownBlock = none ∨ v.ownBlock ≠ some R := by
  cases hv : v.ownBlock with
  | none => exact .inl rfl
  | some k => exact .inr (fun e => by have := (h.lt k hv).1; injection e with e; omega)
/-- a dictionary, folds and an outline, made in new memory -/
def MadeDFO (w : World) (e : Ending) (w' : World) : Prop := ∃ (dv : Value) (L : List Ent) (fv : Value) (F : List (Int × ByteArray)) (ov : Value) (o : List Int), e = .returned (.tuple #[.agg #[dv], fv, ov]) ∧ Ents w' dv L ∧ L.length ≤ 41 ∧ LooseD L ∧ Rows w' fv F.length 2 (folds F) ∧ (F.length ≤ 7 ∧ ∀ p ∈ F, p.2.size ≤ 9) ∧ Rows w' ov o.length 1 (ints o) ∧ o.length ≤ 100 ∧ Below w.heap.size w w'

set_option maxRecDepth 20000 in
set_option maxHeartbeats 1600000 in
theorem DrawLookupFolded_any (v : Value) (w : World) (h : Code8 w v) : Calls Tryz.prog 26 #[v] w (MadeDFO w) := by
  obtain ⟨l, h1, h2⟩ := h.alloc (.cells #[.slice none 0 0] 26)
  clear h
  have h3 := h2
  obtain ⟨a, cap, rfl, _, _, _, _, _⟩ := h3
  have HD := Lib.hid (Read.refl (Cur.newAt (World.size_alloc w (.cells #[.slice none 0 0] 26)) rfl h1 h2 85))
  have RD := Lib.hid ((VarD.new w (.slice none 0 0)).alloc (.cells #[.slice a l.length cap, .int .i64 0, .int .u64 0] 85))
  have HB := Lib.hid (show Below w.heap.size w ((w.alloc (.cells #[.slice none 0 0] 26)).alloc (.cells #[.slice a l.length cap, .int .i64 0, .int .u64 0] 85)) from (by repeat (first | with_reducible exact Below.refl _ _ | with_reducible assumption | with_reducible refine Below.alloc ?_ ?_ _ | with_reducible refine Below.setCell ?_ ?_ _ | with_reducible refine Below.drew ?_ | with_reducible refine below_drewN ?_ _ | with_reducible refine Below.trans ?_ (Below.mono (by assumption) ?_) | omega | ((repeat (first | rw [World.size_alloc] | rw [size_setCell] | rw [size_drewN] | rw [size_drew])); omega) | exact Nat.le_refl _ | (dsimp only; omega) | (simp [World.setCell]; omega))))
  have HZ := Lib.hid (show ((w.alloc (.cells #[.slice none 0 0] 26)).alloc (.cells #[.slice a l.length cap, .int .i64 0, .int .u64 0] 85)).heap.size = w.heap.size + 2 by simp only [World.size_alloc])
  clear h1 h2
  generalize hW : (w.alloc (.cells #[.slice none 0 0] 26)).alloc (.cells #[.slice a l.length cap, .int .i64 0, .int .u64 0] 85) = W at HD RD HB HZ
  have HW := Lib.hid hW; clear hW
  have hne : w.heap.size ≠ w.heap.size + 1 := by omega
  have hgb : w.heap.size + 1 < w.heap.size + 2 := by omega
  go_enter Tryz.func26, Tryz.ntmps26
  go_upto_region 2 with fail
  rw [HW.out]
  clear HW
  go_upto_region 3 with (go_at_call 64; refine (dictionary_any HD.out (by omega)).mono ?_; rintro e w1 ⟨⟨dv, L, rfl, hO, hL1, hL9, hSm⟩, hd⟩; have H1 := Lib.hid hd; have O1 := Lib.hid (hO.lower (Nat.le_of_eq HZ.out.symm)); have R1 := Lib.hid (RD.out.read hd hne); have HSm := Lib.hid hSm; clear hd hO hSm; obtain ⟨la, lc, rfl, hla⟩ := O1.out.slice hL1)
  have hz1 : w.heap.size + 2 ≤ w1.heap.size := by have := H1.out.2.size; rw [HZ.out] at this; exact this
  have H2 := Lib.hid (H1.out.alloc (.cells #[.slice (some ⟨la, 0, none⟩) L.length lc] 26))
  have O2 := Lib.hid (O1.out.alloc (.cells #[.slice (some ⟨la, 0, none⟩) L.length lc] 26))
  have R2 := Lib.hid (R1.out.alloc (.cells #[.slice (some ⟨la, 0, none⟩) L.length lc] 26))
  have V2 := Lib.hid (VarD.new w1 (.slice (some ⟨la, 0, none⟩) L.length lc))
  have HN := Lib.hid HD.out.1
  clear H1 O1 R1 HD RD
  generalize w1.alloc (.cells #[.slice (some ⟨la, 0, none⟩) L.length lc] 26) = w2 at H2 O2 R2 V2 ⊢
  generalize w1.heap.size = b6 at hz1 V2 ⊢
  have hbg : b6 ≠ w.heap.size + 1 := by omega
  have hwb : w.heap.size ≠ b6 := by omega
  have hz2 : w.heap.size + 2 ≤ w2.heap.size := by have := V2.out.lt; omega
  go_upto_region 5 with (first
    | (go_at_call 66; have hx := F3; refine (l10DrawOutline_any (w.heap.size + 2) _ L (Read.refl H3.out.1) (by omega) O3.out hgb hL1 (by omega) (fun q hq => by have := HSm.out q hq; omega)).mono ?_; rintro e w4 ⟨⟨lv, o, rfl, hown, hol⟩, hd⟩; have H4 := Lib.hid (H3.out.trans hd); have O4 := Lib.hid (O3.out.read hd hgb); have V4 := Lib.hid (V3.out.read hd hbg); have R4 := Lib.hid (R3.out.read hd hne); have F4 := Lib.hid (F3.out.read hd hgb); have S4 := Lib.hid (own_lower2 (b' := w.heap.size + 2) hown hz3); clear hd hown hx)
    | (go_at_call 65; refine (l10DrawFolds_any (Read.refl H2.out.1) (by omega)).mono ?_; rintro e w3 ⟨⟨g', off, n, fv, xs, rfl, hF, hn1, hn7⟩, hd⟩; have H3 := Lib.hid (H2.out.trans hd); have O3 := Lib.hid (O2.out.read hd hgb); have V3 := Lib.hid (V2.out.read hd hbg); have R3 := Lib.hid (R2.out.read hd hne); have F3 := Lib.hid (hF.lower hz2); have cv3 := V3.out.cell; have hz3 := (Nat.le_trans hz2 hd.2.size); clear hd hF))
  clear H2 O2 R2 V2 H3 O3 R3 V3 F3 cv3
  have hz4 : w.heap.size + 2 ≤ w4.heap.size := by have := S4; have := H4.out.2.size; rw [HZ.out] at this; exact this
  go_upto_region 7 with (first
    | (go_at_call 43; have hx := H5; refine (anyDictionary_any (Read.refl H5.out.1) (by omega)).mono ?_; rintro e w6 ⟨⟨dx, M, rfl, hO, hM, hSx⟩, hd⟩; obtain ⟨ax, cx, rfl⟩ := hO.form; have H6 := Lib.hid (H5.out.trans hd); have O6 := Lib.hid (hO.lower hz5); have V6 := Lib.hid (V5.out.read hd hbg); have R6 := Lib.hid (R5.out.read hd hne); have F6 := Lib.hid (F5.out.read hd hgb); have S6 := Lib.hid (own_read S5.out hd hgb); have HSx := Lib.hid hSx; have cv6 := V6.out.cell; have cf6 := V6.out.thaw 0; clear hd hO hx)
    | (go_at_call 44; refine (one_any 20 (Read.refl H4.out.1) (by omega) (by decide) (by decide)).mono ?_; rintro e w5 ⟨⟨ba, rfl⟩, hd⟩; have H5 := Lib.hid (H4.out.trans hd); have O5 := Lib.hid (O4.out.read hd hgb); have V5 := Lib.hid (V4.out.read hd hbg); have R5 := Lib.hid (R4.out.read hd hne); have F5 := Lib.hid (F4.out.read hd hgb); have S5 := Lib.hid (own_read S4.out hd hgb); have hz5 := (Nat.le_trans hz4 hd.2.size); clear hd))
  · have hge := F6.out.notVar V6.out
    have O7 := Lib.hid (O6.out.var V6.out (.slice ax M.length cx))
    have V7 := Lib.hid (V6.out.store (.slice ax M.length cx))
    have R7 := Lib.hid (R6.out.other hwb (i := 0) (.slice ax M.length cx))
    have F7 := Lib.hid (F6.out.kept (grown_set w6 b6 0 (.slice ax M.length cx)) (by intro e; injection e with e; exact hge e.symm))
    have S7 := Lib.hid (S6.out.kept (grown_set w6 b6 0 (.slice ax M.length cx)) (.inr (V6.out.apart S6.out (by decide))))
    have H7 := Lib.hid (H6.out.setNew HN.out (show W.heap.size ≤ b6 by rw [HZ.out]; exact hz1) 0 (.slice ax M.length cx))
    clear O6 V6 R6 F6 S6 H6 O5 V5 R5 F5 S5 H5 O4 V4 R4 F4 S4 H4 cv6 cf6 hge
    obtain ⟨af, hff, hfc⟩ := F7.out.form
    subst hff
    obtain ⟨ao9, co9, hoo⟩ := row_formO S7.out
    subst hoo
    have cv := V7.out.cell
    have cr := R7.out.cell
    have fr := R7.out.thaw 0
    go_wp2
    have HB2 := HB.out.trans (H7.out.below w.heap.size (by omega) (by rw [HZ.out]; omega))
    have hFR := (F7.out.kept (grown_set (w6.setCell ⟨b6, 0, none⟩ (.slice ax M.length cx)) w.heap.size 0 (.slice ax M.length cx)) (by intro e; injection e with e; have := F7.out.lt; omega)).toRows
    obtain ⟨F, hF1, hF2, hF3⟩ := foldsOk_list _ _ F7.out.ok
    rw [← hF2, ← hF1] at hFR
    have hOR := Rows.of_own (S7.out.kept (grown_set (w6.setCell ⟨b6, 0, none⟩ (.slice ax M.length cx)) w.heap.size 0 (.slice ax M.length cx)) (own_neV S7.out (show w.heap.size < w.heap.size + 2 by omega)))
    have hDR := (O7.out.var R7.out (.slice ax M.length cx)).ents
    subst hF1
    refine bodyPost_ret (v := .tuple #[.agg #[.slice ax M.length cx], .slice (some ⟨g', off, none⟩) F.length af, .slice ao9 o.length co9]) (by simp [results, Tryz.results26, go_sem, *]) rfl ⟨_, M, _, F, _, o, rfl, hDR, ?_, ?_, hFR, ⟨by omega, hF3⟩, hOR, by omega, (by repeat (first | with_reducible exact Below.refl _ _ | with_reducible assumption | with_reducible refine Below.alloc ?_ ?_ _ | with_reducible refine Below.setCell ?_ ?_ _ | with_reducible refine Below.drew ?_ | with_reducible refine below_drewN ?_ _ | with_reducible refine Below.trans ?_ (Below.mono (by assumption) ?_) | omega | ((repeat (first | rw [World.size_alloc] | rw [size_setCell] | rw [size_drewN] | rw [size_drew])); omega) | exact Nat.le_refl _ | (dsimp only; omega) | (simp [World.setCell]; omega)))⟩
    · exact hM
    · exact HSx.out
  · clear O4 V4 R4 F4 S4 H4
    obtain ⟨af, hff, hfc⟩ := F5.out.form
    subst hff
    obtain ⟨ao9, co9, hoo⟩ := row_formO S5.out
    subst hoo
    have cv := V5.out.cell
    have cr := R5.out.cell
    have fr := R5.out.thaw 0
    go_wp2
    have HB2 := HB.out.trans (H5.out.below w.heap.size (by omega) (by rw [HZ.out]; omega))
    have hFR := (F5.out.kept (grown_set w5 w.heap.size 0 (.slice (some ⟨la, 0, none⟩) L.length lc)) (by intro e; injection e with e; have := F5.out.lt; omega)).toRows
    obtain ⟨F, hF1, hF2, hF3⟩ := foldsOk_list _ _ F5.out.ok
    rw [← hF2, ← hF1] at hFR
    have hOR := Rows.of_own (S5.out.kept (grown_set w5 w.heap.size 0 (.slice (some ⟨la, 0, none⟩) L.length lc)) (own_neV S5.out (show w.heap.size < w.heap.size + 2 by omega)))
    have hDR := (O5.out.var R5.out (.slice (some ⟨la, 0, none⟩) L.length lc)).ents
    subst hF1
    refine bodyPost_ret (v := .tuple #[.agg #[.slice (some ⟨la, 0, none⟩) L.length lc], .slice (some ⟨g', off, none⟩) F.length af, .slice ao9 o.length co9]) (by simp [results, Tryz.results26, go_sem, *]) rfl ⟨_, L, _, F, _, o, rfl, hDR, ?_, ?_, hFR, ⟨by omega, hF3⟩, hOR, by omega, (by repeat (first | with_reducible exact Below.refl _ _ | with_reducible assumption | with_reducible refine Below.alloc ?_ ?_ _ | with_reducible refine Below.setCell ?_ ?_ _ | with_reducible refine Below.drew ?_ | with_reducible refine below_drewN ?_ _ | with_reducible refine Below.trans ?_ (Below.mono (by assumption) ?_) | omega | ((repeat (first | rw [World.size_alloc] | rw [size_setCell] | rw [size_drewN] | rw [size_drew])); omega) | exact Nat.le_refl _ | (dsimp only; omega) | (simp [World.setCell]; omega)))⟩
    · omega
    · exact HSm.out.loose

end Go.Proofs.YtdidgaibgkdjoaaGreatDoor

namespace Go.Proofs.YtdidgaibgkdjoaaGreatDoor
open Go.RowKit

/-- the entries' texts, as they lie -/
def TextsAt (w : World) (la : Nat) (L : List Ent) : Prop := ∀ j (h : j < L.length), w.cell? ⟨la, j * 2 + 1, none⟩ = some (.string (L[j]).2)
theorem OwnD.texts {w : World} {base la n c : Nat} {L : List Ent} (h : OwnD w base (.slice (some ⟨la, 0, none⟩) n c) L) : TextsAt w la L := by
  intro j hj
  have hf := h.form
  obtain ⟨a, c', e⟩ := hf
  cases e
  obtain ⟨_, _, _, hbe, _, d2, _⟩ := ent_at h.ents j hj
  cases hbe
  rw [Nat.zero_add] at d2
  exact d2
/-- a dictionary and a text, made in new memory -/
def MadeDT (w : World) (e : Ending) (w' : World) : Prop := ∃ (dv : Value) (L : List Ent) (s : ByteArray), e = .returned (.tuple #[.agg #[dv], .string s]) ∧ Ents w' dv L ∧ L.length ≤ 41 ∧ LooseD L ∧ s.size ≤ 1070 ∧ Below w.heap.size w w'

set_option maxRecDepth 20000 in
set_option maxHeartbeats 3200000 in
theorem DrawReverseLookup_any (v : Value) (w : World) (h : Code8 w v) : Calls Tryz.prog 9 #[v] w (MadeDT w) := by
  obtain ⟨l, h1, h2⟩ := h.alloc (.cells #[.slice none 0 0] 26)
  clear h
  have h3 := h2
  obtain ⟨a, cap, rfl, _, _, _, _, _⟩ := h3
  have HD := Lib.hid (Read.refl (Cur.newAt (World.size_alloc w (.cells #[.slice none 0 0] 26)) rfl h1 h2 85))
  have RD := Lib.hid ((VarD.new w (.slice none 0 0)).alloc (.cells #[.slice a l.length cap, .int .i64 0, .int .u64 0] 85))
  have HB := Lib.hid (show Below w.heap.size w ((w.alloc (.cells #[.slice none 0 0] 26)).alloc (.cells #[.slice a l.length cap, .int .i64 0, .int .u64 0] 85)) from (by repeat (first | with_reducible exact Below.refl _ _ | with_reducible assumption | with_reducible refine Below.alloc ?_ ?_ _ | with_reducible refine Below.setCell ?_ ?_ _ | with_reducible refine Below.drew ?_ | with_reducible refine below_drewN ?_ _ | with_reducible refine Below.trans ?_ (Below.mono (by assumption) ?_) | omega | ((repeat (first | rw [World.size_alloc] | rw [size_setCell] | rw [size_drewN] | rw [size_drew])); omega) | exact Nat.le_refl _ | (dsimp only; omega) | (simp [World.setCell]; omega))))
  have HZ := Lib.hid (show ((w.alloc (.cells #[.slice none 0 0] 26)).alloc (.cells #[.slice a l.length cap, .int .i64 0, .int .u64 0] 85)).heap.size = w.heap.size + 2 by simp only [World.size_alloc])
  clear h1 h2
  generalize hW : (w.alloc (.cells #[.slice none 0 0] 26)).alloc (.cells #[.slice a l.length cap, .int .i64 0, .int .u64 0] 85) = W at HD RD HB HZ
  have HW := Lib.hid hW; clear hW
  have hwg : w.heap.size ≠ w.heap.size + 1 := by omega
  have hgb : w.heap.size + 1 < w.heap.size + 2 := by omega
  go_enter Tryz.func9, Tryz.ntmps9
  go_upto_region 2 with fail
  rw [HW.out]
  clear HW
  go_upto_region 3 with (go_at_call 43; refine (anyDictionary_any HD.out (by omega)).mono ?_; rintro e w1 ⟨⟨dv, L, rfl, hO, hL9, hSm⟩, hd⟩; have H1 := Lib.hid hd; have O1 := Lib.hid (hO.lower (Nat.le_of_eq HZ.out.symm)); have R1 := Lib.hid (RD.out.read hd hwg); have HSm := Lib.hid hSm; clear hd hO hSm; obtain ⟨ad, cd, rfl⟩ := O1.out.form)
  have hz1 : w.heap.size + 2 ≤ w1.heap.size := by have := H1.out.2.size; rw [HZ.out] at this; exact this
  have H2 := Lib.hid (H1.out.alloc (.cells #[.slice ad L.length cd] 26))
  have O2 := Lib.hid (O1.out.alloc (.cells #[.slice ad L.length cd] 26))
  have R2 := Lib.hid (R1.out.alloc (.cells #[.slice ad L.length cd] 26))
  have V2 := Lib.hid (VarD.new w1 (.slice ad L.length cd))
  have HN := Lib.hid HD.out.1
  clear H1 O1 R1 HD RD
  generalize w1.alloc (.cells #[.slice ad L.length cd] 26) = w2 at H2 O2 R2 V2 ⊢
  generalize w1.heap.size = b5 at hz1 V2 ⊢
  have hbg : b5 ≠ w.heap.size + 1 := by omega
  have hwb : w.heap.size ≠ b5 := by omega
  have cv2 := V2.out.cell
  by_cases h1L : 1 < L.length
  · have hL1 : (1 : Int) < (L.length : Int) := by omega
    obtain ⟨la, lc, hfm, hla⟩ := O2.out.slice (by omega)
    cases hfm
    have hl0 : (0 : Int) < (L.length : Int) := by omega
    go_upto_region 5 with (go_at_call 44; refine (one_any 2 (Read.refl H2.out.1) (by omega) (by decide) (by decide)).mono ?_; rintro e w3 ⟨⟨ba, rfl⟩, hd⟩; have H3 := Lib.hid (H2.out.trans hd); have O3 := Lib.hid (O2.out.read hd hgb); have V3 := Lib.hid (V2.out.read hd hbg); have R3 := Lib.hid (R2.out.read hd hwg); clear hd)
    · obtain rfl : ba = true := by assumption
      have hLn : ¬ L = [] := by intro e; rw [e] at h1L; simp at h1L
      obtain ⟨_, _, _, hbe, _, d2, _⟩ := ent_at O3.out.ents 0 (by omega)
      cases hbe
      simp only [Nat.zero_mul, Nat.zero_add] at d2
      have ht := (HSm.out _ (List.getElem_mem (show 0 < L.length by omega))).2
      generalize (L[0]'(by omega)).2 = t0 at d2 ht
      obtain ⟨_, _, _, hbe, _, d3, _⟩ := ent_at O3.out.ents 1 (by omega)
      cases hbe
      simp only [Nat.one_mul, Nat.zero_add] at d3
      have fd : w3.frozen? ⟨la, 3, none⟩ = false := by
        obtain ⟨xs, hx, _⟩ := O3.out
        exact own_thawE hx 3
      have hlb : la ≠ b5 := by
        obtain ⟨xs, hx, _⟩ := O3.out
        have := V3.out.apart hx (by decide)
        simpa [Value.ownBlock] using this
      refine wp_region_held_drew (S := fun w' => w'.cell? ⟨b5, 0, none⟩ = some (.slice (some ⟨la, 0, none⟩) L.length cd) ∧ w'.cell? ⟨la, 1, none⟩ = some (.string t0)) (by kernel_rfl) ⟨V3.out.cell, d2⟩ (fun hHeld => ?_)
      refine takeH 0 19 (.pointer (some ⟨b5, 0, none⟩)) rfl (by kernel_rfl) (by kernel_rfl) (by kernel_rfl) (by kernel_rfl) (fun _ _ _ _ h => h) hHeld (Or.inl ⟨rfl, fun w' hw => by obtain ⟨hw0, hw1⟩ := hw; first | rfl | (go_simp; done)⟩) ?_
      try simp only [Act.put, List.setIfInBounds_toArray, List.set_cons_zero, List.set_cons_succ]
      refine takeH 1 20 (.slice (some ⟨la, 0, none⟩) L.length cd) rfl (by kernel_rfl) (by kernel_rfl) (by kernel_rfl) (by kernel_rfl) (fun _ _ _ _ h => h) hHeld (Or.inl ⟨rfl, fun w' hw => by obtain ⟨hw0, hw1⟩ := hw; first | rfl | (go_simp; done)⟩) ?_
      try simp only [Act.put, List.setIfInBounds_toArray, List.set_cons_zero, List.set_cons_succ]
      refine takeH 2 21 (.pointer (some ⟨b5, 0, none⟩)) rfl (by kernel_rfl) (by kernel_rfl) (by kernel_rfl) (by kernel_rfl) (fun _ _ _ _ h => h) hHeld (Or.inl ⟨rfl, fun w' hw => by obtain ⟨hw0, hw1⟩ := hw; first | rfl | (go_simp; done)⟩) ?_
      try simp only [Act.put, List.setIfInBounds_toArray, List.set_cons_zero, List.set_cons_succ]
      refine takeH 3 22 (.slice (some ⟨la, 0, none⟩) L.length cd) rfl (by kernel_rfl) (by kernel_rfl) (by kernel_rfl) (by kernel_rfl) (fun _ _ _ _ h => h) hHeld (Or.inl ⟨rfl, fun w' hw => by obtain ⟨hw0, hw1⟩ := hw; first | rfl | (go_simp; done)⟩) ?_
      try simp only [Act.put, List.setIfInBounds_toArray, List.set_cons_zero, List.set_cons_succ]
      refine takeH 4 23 (.pointer (some ⟨la, 0, none⟩)) rfl (by kernel_rfl) (by kernel_rfl) (by kernel_rfl) (by kernel_rfl) (fun _ _ _ _ h => h) hHeld (Or.inl ⟨rfl, fun w' hw => by obtain ⟨hw0, hw1⟩ := hw; first | rfl | (go_simp; done)⟩) ?_
      try simp only [Act.put, List.setIfInBounds_toArray, List.set_cons_zero, List.set_cons_succ]
      refine takeH 5 24 (.pointer (some ⟨la, 1, none⟩)) rfl (by kernel_rfl) (by kernel_rfl) (by kernel_rfl) (by kernel_rfl) (fun _ _ _ _ h => h) hHeld (Or.inl ⟨rfl, fun w' hw => by obtain ⟨hw0, hw1⟩ := hw; first | rfl | (go_simp; done)⟩) ?_
      try simp only [Act.put, List.setIfInBounds_toArray, List.set_cons_zero, List.set_cons_succ]
      refine takeH 6 25 (.string t0) rfl (by kernel_rfl) (by kernel_rfl) (by kernel_rfl) (by kernel_rfl) (fun _ _ _ _ h => h) hHeld (Or.inl ⟨rfl, fun w' hw => by obtain ⟨hw0, hw1⟩ := hw; first | rfl | (go_simp; done)⟩) ?_
      try simp only [Act.put, List.setIfInBounds_toArray, List.set_cons_zero, List.set_cons_succ]
      refine takeH 7 26 (.pointer (some ⟨la, 2, none⟩)) rfl (by kernel_rfl) (by kernel_rfl) (by kernel_rfl) (by kernel_rfl) (fun _ _ _ _ h => h) hHeld (Or.inl ⟨rfl, fun w' hw => by obtain ⟨hw0, hw1⟩ := hw; first | rfl | (go_simp; done)⟩) ?_
      try simp only [Act.put, List.setIfInBounds_toArray, List.set_cons_zero, List.set_cons_succ]
      refine takeH 8 27 (.pointer (some ⟨la, 3, none⟩)) rfl (by kernel_rfl) (by kernel_rfl) (by kernel_rfl) (by kernel_rfl) (fun _ _ _ _ h => h) hHeld (Or.inl ⟨rfl, fun w' hw => by obtain ⟨hw0, hw1⟩ := hw; first | rfl | (go_simp; done)⟩) ?_
      try simp only [Act.put, List.setIfInBounds_toArray, List.set_cons_zero, List.set_cons_succ]
      have O5 := Lib.hid (show OwnD (w3.drew.setCell ⟨la, 3, none⟩ (.string t0)) _ _ _ from OwnD.setText (show OwnD w3.drew _ _ L from O3.out) 1 h1L t0)
      have H5 := Lib.hid ((show Read _ _ _ _ W w3.drew from H3.out.to 1).setNew HN.out (show W.heap.size ≤ la by rw [HZ.out]; omega) 3 (.string t0))
      have V5 := Lib.hid ((show VarD w3.drew _ _ from V3.out).other (fun e => hlb e.symm) (i := 3) (.string t0))
      have R5 := Lib.hid ((show VarD w3.drew _ _ from R3.out).other (show w.heap.size ≠ la by omega) (i := 3) (.string t0))
      have HS5 := Lib.hid (HSm.out.set 1 (L[1]'h1L).1 t0 (HSm.out _ (List.getElem_mem h1L)).1 ht)
      refine wpAnyH_ready (rs := [9]) (by kernel_rfl) (by simp) ?_
      refine AllReadyH.cons (o := _) rfl (fun K hK => ?_) AllReadyH.nil
      go_simp
      refine hK.out _ _ ⟨V5.out.cell, (show (w3.drew.setCell ⟨la, 3, none⟩ (.string t0)).cell? ⟨la, 1, none⟩ = some (.string t0) by rw [World.cell?_setCell_other _ _ _ _ (fun e => by injection e with _ e _; omega)]; exact d2)⟩ (fun hHeld2 => ?_)
      clear hK K hHeld
      have hHeld := hHeld2
      clear hHeld2
      try simp only [Act.put]
      refine wpAnyH_done (by kernel_rfl) ?_ _
      clear hHeld d2 d3 fd O3 V3 R3 H3
      have hL' : (L.set 1 ((L[1]'h1L).1, t0)).length = L.length := List.length_set
      go_upto_region 5 with fail
      generalize L.set 1 ((L[1]'h1L).1, t0) = L' at O5 HS5 hL'
      change Code.wp _ _ _ _ (w3.drew.setCell ⟨la, 3, none⟩ (.string t0))
      generalize w3.drew.setCell ⟨la, 3, none⟩ (.string t0) = w5 at O5 V5 R5 H5 ⊢
      have cv5 := V5.out.cell
      go_upto_region 6 with (go_at_call 44; refine (one_any 4 (Read.refl H5.out.1) (by omega) (by decide) (by decide)).mono ?_; rintro e x1 ⟨⟨bb, rfl⟩, hd⟩; have X1 := Lib.hid (H5.out.trans hd); have O1 := Lib.hid (O5.out.read hd hgb); have V1 := Lib.hid (V5.out.read hd hbg); have R1 := Lib.hid (R5.out.read hd hwg); clear hd)
      · have cvx := V1.out.cell
        have hNL : L'.length = L.length := by omega
        have htx : TextsAt x1 la L' := OwnD.texts O1.out
        refine wp_region_held_drew (S := fun w' => w'.cell? ⟨b5, 0, none⟩ = some (.slice (some ⟨la, 0, none⟩) L.length cd) ∧ TextsAt w' la L') (by kernel_rfl) ⟨cvx, htx⟩ (fun hHeld => ?_)
        refine takeH 0 37 (.agg #[.slice (some ⟨la, 0, none⟩) L.length cd]) rfl (by kernel_rfl) (by kernel_rfl) (by kernel_rfl) (by kernel_rfl) (fun _ _ _ _ h => h) hHeld (Or.inl ⟨rfl, fun w' hw => by obtain ⟨hw0, hw1⟩ := hw; first | rfl | (go_simp; done)⟩) ?_
        try simp only [Act.put, List.setIfInBounds_toArray, List.set_cons_zero, List.set_cons_succ]
        refine takeH 1 38 (.pointer (some ⟨b5, 0, none⟩)) rfl (by kernel_rfl) (by kernel_rfl) (by kernel_rfl) (by kernel_rfl) (fun _ _ _ _ h => h) hHeld (Or.inl ⟨rfl, fun w' hw => by obtain ⟨hw0, hw1⟩ := hw; first | rfl | (go_simp; done)⟩) ?_
        try simp only [Act.put, List.setIfInBounds_toArray, List.set_cons_zero, List.set_cons_succ]
        refine takeH 2 39 (.slice (some ⟨la, 0, none⟩) L.length cd) rfl (by kernel_rfl) (by kernel_rfl) (by kernel_rfl) (by kernel_rfl) (fun _ _ _ _ h => h) hHeld (Or.inl ⟨rfl, fun w' hw => by obtain ⟨hw0, hw1⟩ := hw; first | rfl | (go_simp; done)⟩) ?_
        try simp only [Act.put, List.setIfInBounds_toArray, List.set_cons_zero, List.set_cons_succ]
        refine takeH 3 40 (.pointer (some ⟨w.heap.size + 1, 0, none⟩)) rfl (by kernel_rfl) (by kernel_rfl) (by kernel_rfl) (by kernel_rfl) (fun _ _ _ _ h => h) hHeld (Or.inl ⟨rfl, fun w' hw => by obtain ⟨hw0, hw1⟩ := hw; first | rfl | (go_simp; done)⟩) ?_
        try simp only [Act.put, List.setIfInBounds_toArray, List.set_cons_zero, List.set_cons_succ]
        refine takeH 4 41 (.pointer (some ⟨b5, 0, none⟩)) rfl (by kernel_rfl) (by kernel_rfl) (by kernel_rfl) (by kernel_rfl) (fun _ _ _ _ h => h) hHeld (Or.inl ⟨rfl, fun w' hw => by obtain ⟨hw0, hw1⟩ := hw; first | rfl | (go_simp; done)⟩) ?_
        try simp only [Act.put, List.setIfInBounds_toArray, List.set_cons_zero, List.set_cons_succ]
        refine takeH 5 42 (.slice (some ⟨la, 0, none⟩) L.length cd) rfl (by kernel_rfl) (by kernel_rfl) (by kernel_rfl) (by kernel_rfl) (fun _ _ _ _ h => h) hHeld (Or.inl ⟨rfl, fun w' hw => by obtain ⟨hw0, hw1⟩ := hw; first | rfl | (go_simp; done)⟩) ?_
        try simp only [Act.put, List.setIfInBounds_toArray, List.set_cons_zero, List.set_cons_succ]
        refine takeH 6 43 (.int .i64 (L.length : Int)) rfl (by kernel_rfl) (by kernel_rfl) (by kernel_rfl) (by kernel_rfl) (fun _ _ _ _ h => h) hHeld (Or.inl ⟨rfl, fun w' hw => by obtain ⟨hw0, hw1⟩ := hw; first | rfl | (go_simp; done)⟩) ?_
        try simp only [Act.put, List.setIfInBounds_toArray, List.set_cons_zero, List.set_cons_succ]
        refine wpAnyH_ready (rs := [7]) (by kernel_rfl) (by simp) ?_
        refine AllReadyH.cons (o := _) rfl (fun K hK => ?_) AllReadyH.nil
        go_simp
        (go_at_call 45; refine (pick_any (w := x1.drew) L.length (Read.refl (show Cur _ _ _ _ x1.drew from X1.out.1)) (by omega) (by omega) (by omega)).mono ?_; rintro e x2 ⟨⟨r, rfl, hr⟩, hd⟩)
        have H8 := Lib.hid ((show Read _ _ _ _ W x1.drew from X1.out.to 1).trans hd)
        have O8 := Lib.hid ((show OwnD x1.drew _ _ L' from O1.out).read hd hgb)
        have V8 := Lib.hid ((show VarD x1.drew _ _ from V1.out).read hd hbg)
        have R8 := Lib.hid ((show VarD x1.drew _ _ from R1.out).read hd hwg)
        have cr8 := R8.out.cell
        have cg8 := R8.out.thaw 0
        have tx8 : TextsAt x2 la L' := OwnD.texts O8.out
        have O9 := Lib.hid (O8.out.var R8.out (.slice (some ⟨la, 0, none⟩) L.length cd))
        have tx9 : TextsAt (x2.setCell ⟨w.heap.size, 0, none⟩ (.slice (some ⟨la, 0, none⟩) L.length cd)) la L' := OwnD.texts O9.out
        clear hd
        have ht := (HS5.out _ (List.getElem_mem (show r < L'.length by omega))).2
        obtain ⟨t, hte⟩ : ∃ t, (L'[r]'(by omega)).2 = t := ⟨_, rfl⟩
        rw [hte] at ht
        have htr : ∀ W', TextsAt W' la L' → W'.cell? ⟨la, r * 2 + 1, none⟩ = some (.string t) := fun W' h => by rw [h r (by omega), hte]
        have HTR := Lib.hid htr
        clear htr hte
        have hr0 : (0 : Int) ≤ (r : Int) := by omega
        have hr1 : (r : Int) < (L.length : Int) := by omega
        go_wp2_with fail
        refine hK.out _ _ ⟨V8.out.cell, tx8⟩ (fun hHeld2 => ?_)
        clear hK K hHeld
        have hHeld := hHeld2
        clear hHeld2
        try simp only [Act.put, List.setIfInBounds_toArray, List.set_cons_zero, List.set_cons_succ]
        refine takeH 8 45 (.pointer (some ⟨la, r * 2, none⟩)) rfl (by kernel_rfl) (by kernel_rfl) (by kernel_rfl) (by kernel_rfl) (fun _ _ _ _ h => h) hHeld (Or.inl ⟨rfl, fun w' hw => by obtain ⟨hw0, hw1⟩ := hw; first | rfl | (go_simp; done)⟩) ?_
        try simp only [Act.put, List.setIfInBounds_toArray, List.set_cons_zero, List.set_cons_succ]
        refine takeH 9 46 (.pointer (some ⟨la, r * 2 + 1, none⟩)) rfl (by kernel_rfl) (by kernel_rfl) (by kernel_rfl) (by kernel_rfl) (fun _ _ _ _ h => h) hHeld (Or.inl ⟨rfl, fun w' hw => by obtain ⟨hw0, hw1⟩ := hw; first | rfl | (go_simp; done)⟩) ?_
        try simp only [Act.put, List.setIfInBounds_toArray, List.set_cons_zero, List.set_cons_succ]
        refine takeH 10 47 (.string t) rfl (by kernel_rfl) (by kernel_rfl) (by kernel_rfl) (by kernel_rfl) (fun _ _ _ _ h => h) hHeld (Or.inl ⟨rfl, fun w' hw => by obtain ⟨hw0, hw1⟩ := hw; have d2 := HTR.out w' hw1; go_simp⟩) ?_
        try simp only [Act.put, List.setIfInBounds_toArray, List.set_cons_zero, List.set_cons_succ]
        refine wpAnyH_ready (rs := [11]) (by kernel_rfl) (by simp) ?_
        refine AllReadyH.cons (o := _) rfl (fun K hK => ?_) AllReadyH.nil
        go_simp
        refine hK.out _ _ ⟨(V8.out.other (fun e => hwb e.symm) (i := 0) (.slice (some ⟨la, 0, none⟩) L.length cd)).cell, tx9⟩ (fun hHeld2 => ?_)
        clear hK K hHeld
        have hHeld := hHeld2
        clear hHeld2
        try simp only [Act.put, List.setIfInBounds_toArray, List.set_cons_zero, List.set_cons_succ]
        refine takeH 12 3 (.string t) rfl (by kernel_rfl) (by kernel_rfl) (by kernel_rfl) (by kernel_rfl) (fun _ _ _ _ h => h) hHeld (Or.inl ⟨rfl, fun w' hw => by obtain ⟨hw0, hw1⟩ := hw; first | rfl | (go_simp; done)⟩) ?_
        try simp only [Act.put, List.setIfInBounds_toArray, List.set_cons_zero, List.set_cons_succ]
        refine wpAnyH_done (by kernel_rfl) ?_ _
        clear hHeld
        go_wp2
        have hLx : L'.length ≤ 41 := by omega
        have HB2 := HB.out.trans (H8.out.below w.heap.size (by omega) (by rw [HZ.out]; omega))
        have hDR := O9.out.ents
        refine bodyPost_ret (v := .tuple #[.agg #[.slice (some ⟨la, 0, none⟩) L.length cd], .string t]) (by simp [results, Tryz.results9, go_sem, *]) rfl ⟨_, L', t, rfl, hDR, hLx, HS5.out, ht, (by repeat (first | with_reducible exact Below.refl _ _ | with_reducible assumption | with_reducible refine Below.alloc ?_ ?_ _ | with_reducible refine Below.setCell ?_ ?_ _ | with_reducible refine Below.drew ?_ | with_reducible refine below_drewN ?_ _ | with_reducible refine Below.trans ?_ (Below.mono (by assumption) ?_) | omega | ((repeat (first | rw [World.size_alloc] | rw [size_setCell] | rw [size_drewN] | rw [size_drew])); omega) | exact Nat.le_refl _ | (dsimp only; omega) | (simp [World.setCell]; omega)))⟩
      · have cvx := V1.out.cell
        refine wp_region_held_drew (S := fun w' => w'.cell? ⟨b5, 0, none⟩ = some (.slice (some ⟨la, 0, none⟩) L.length cd)) (by kernel_rfl) cvx (fun hHeld => ?_)
        refine takeH 0 48 (.agg #[.slice (some ⟨la, 0, none⟩) L.length cd]) rfl (by kernel_rfl) (by kernel_rfl) (by kernel_rfl) (by kernel_rfl) (fun _ _ _ _ h => h) hHeld (Or.inl ⟨rfl, fun w' hw => by first | rfl | (go_simp; done)⟩) ?_
        try simp only [Act.put, List.setIfInBounds_toArray, List.set_cons_zero, List.set_cons_succ]
        refine takeH 1 49 (.pointer (some ⟨w.heap.size + 1, 0, none⟩)) rfl (by kernel_rfl) (by kernel_rfl) (by kernel_rfl) (by kernel_rfl) (fun _ _ _ _ h => h) hHeld (Or.inl ⟨rfl, fun w' hw => by first | rfl | (go_simp; done)⟩) ?_
        try simp only [Act.put, List.setIfInBounds_toArray, List.set_cons_zero, List.set_cons_succ]
        refine wpAnyH_ready (rs := [2]) (by kernel_rfl) (by simp) ?_
        refine AllReadyH.cons (o := _) rfl (fun K hK => ?_) AllReadyH.nil
        go_simp
        (go_at_call 46; refine (translation_any (w := x1.drew) (Read.refl (show Cur _ _ _ _ x1.drew from X1.out.1)) (by omega)).mono ?_; rintro e x2 ⟨⟨t, rfl, ht⟩, hd⟩)
        have H8 := Lib.hid ((show Read _ _ _ _ W x1.drew from X1.out.to 1).trans hd)
        have O8 := Lib.hid ((show OwnD x1.drew _ _ L' from O1.out).read hd hgb)
        have V8 := Lib.hid ((show VarD x1.drew _ _ from V1.out).read hd hbg)
        have R8 := Lib.hid ((show VarD x1.drew _ _ from R1.out).read hd hwg)
        have cr8 := R8.out.cell
        have cg8 := R8.out.thaw 0
        clear hd
        go_wp2_with fail
        refine hK.out _ _ V8.out.cell (fun hHeld2 => ?_)
        clear hK K hHeld
        have hHeld := hHeld2
        clear hHeld2
        try simp only [Act.put, List.setIfInBounds_toArray, List.set_cons_zero, List.set_cons_succ]
        refine wpAnyH_ready (rs := [3]) (by kernel_rfl) (by simp) ?_
        refine AllReadyH.cons (o := _) rfl (fun K hK => ?_) AllReadyH.nil
        go_simp
        refine hK.out _ _ (V8.out.other (fun e => hwb e.symm) (i := 0) (.slice (some ⟨la, 0, none⟩) L.length cd)).cell (fun hHeld2 => ?_)
        clear hK K hHeld
        have hHeld := hHeld2
        clear hHeld2
        try simp only [Act.put, List.setIfInBounds_toArray, List.set_cons_zero, List.set_cons_succ]
        refine takeH 4 3 (.string t) rfl (by kernel_rfl) (by kernel_rfl) (by kernel_rfl) (by kernel_rfl) (fun _ _ _ _ h => h) hHeld (Or.inl ⟨rfl, fun w' hw => by first | rfl | (go_simp; done)⟩) ?_
        try simp only [Act.put, List.setIfInBounds_toArray, List.set_cons_zero, List.set_cons_succ]
        refine wpAnyH_done (by kernel_rfl) ?_ _
        clear hHeld
        go_wp2
        have hLx : L'.length ≤ 41 := by omega
        have HB2 := HB.out.trans (H8.out.below w.heap.size (by omega) (by rw [HZ.out]; omega))
        have hDR := (O8.out.var R8.out (.slice (some ⟨la, 0, none⟩) L.length cd)).ents
        refine bodyPost_ret (v := .tuple #[.agg #[.slice (some ⟨la, 0, none⟩) L.length cd], .string t]) (by simp [results, Tryz.results9, go_sem, *]) rfl ⟨_, L', t, rfl, hDR, hLx, HS5.out, ht, (by repeat (first | with_reducible exact Below.refl _ _ | with_reducible assumption | with_reducible refine Below.alloc ?_ ?_ _ | with_reducible refine Below.setCell ?_ ?_ _ | with_reducible refine Below.drew ?_ | with_reducible refine below_drewN ?_ _ | with_reducible refine Below.trans ?_ (Below.mono (by assumption) ?_) | omega | ((repeat (first | rw [World.size_alloc] | rw [size_setCell] | rw [size_drewN] | rw [size_drew])); omega) | exact Nat.le_refl _ | (dsimp only; omega) | (simp [World.setCell]; omega)))⟩
    · obtain rfl : ba = false := by assumption
      have cv3 := V3.out.cell
      go_upto_region 6 with (go_at_call 44; refine (one_any 4 (Read.refl H3.out.1) (by omega) (by decide) (by decide)).mono ?_; rintro e x1 ⟨⟨bb, rfl⟩, hd⟩; have X1 := Lib.hid (H3.out.trans hd); have O1 := Lib.hid (O3.out.read hd hgb); have V1 := Lib.hid (V3.out.read hd hbg); have R1 := Lib.hid (R3.out.read hd hwg); clear hd)
      · have cvx := V1.out.cell
        have hNL : L.length = L.length := by omega
        have htx : TextsAt x1 la L := OwnD.texts O1.out
        refine wp_region_held_drew (S := fun w' => w'.cell? ⟨b5, 0, none⟩ = some (.slice (some ⟨la, 0, none⟩) L.length cd) ∧ TextsAt w' la L) (by kernel_rfl) ⟨cvx, htx⟩ (fun hHeld => ?_)
        refine takeH 0 37 (.agg #[.slice (some ⟨la, 0, none⟩) L.length cd]) rfl (by kernel_rfl) (by kernel_rfl) (by kernel_rfl) (by kernel_rfl) (fun _ _ _ _ h => h) hHeld (Or.inl ⟨rfl, fun w' hw => by obtain ⟨hw0, hw1⟩ := hw; first | rfl | (go_simp; done)⟩) ?_
        try simp only [Act.put, List.setIfInBounds_toArray, List.set_cons_zero, List.set_cons_succ]
        refine takeH 1 38 (.pointer (some ⟨b5, 0, none⟩)) rfl (by kernel_rfl) (by kernel_rfl) (by kernel_rfl) (by kernel_rfl) (fun _ _ _ _ h => h) hHeld (Or.inl ⟨rfl, fun w' hw => by obtain ⟨hw0, hw1⟩ := hw; first | rfl | (go_simp; done)⟩) ?_
        try simp only [Act.put, List.setIfInBounds_toArray, List.set_cons_zero, List.set_cons_succ]
        refine takeH 2 39 (.slice (some ⟨la, 0, none⟩) L.length cd) rfl (by kernel_rfl) (by kernel_rfl) (by kernel_rfl) (by kernel_rfl) (fun _ _ _ _ h => h) hHeld (Or.inl ⟨rfl, fun w' hw => by obtain ⟨hw0, hw1⟩ := hw; first | rfl | (go_simp; done)⟩) ?_
        try simp only [Act.put, List.setIfInBounds_toArray, List.set_cons_zero, List.set_cons_succ]
        refine takeH 3 40 (.pointer (some ⟨w.heap.size + 1, 0, none⟩)) rfl (by kernel_rfl) (by kernel_rfl) (by kernel_rfl) (by kernel_rfl) (fun _ _ _ _ h => h) hHeld (Or.inl ⟨rfl, fun w' hw => by obtain ⟨hw0, hw1⟩ := hw; first | rfl | (go_simp; done)⟩) ?_
        try simp only [Act.put, List.setIfInBounds_toArray, List.set_cons_zero, List.set_cons_succ]
        refine takeH 4 41 (.pointer (some ⟨b5, 0, none⟩)) rfl (by kernel_rfl) (by kernel_rfl) (by kernel_rfl) (by kernel_rfl) (fun _ _ _ _ h => h) hHeld (Or.inl ⟨rfl, fun w' hw => by obtain ⟨hw0, hw1⟩ := hw; first | rfl | (go_simp; done)⟩) ?_
        try simp only [Act.put, List.setIfInBounds_toArray, List.set_cons_zero, List.set_cons_succ]
        refine takeH 5 42 (.slice (some ⟨la, 0, none⟩) L.length cd) rfl (by kernel_rfl) (by kernel_rfl) (by kernel_rfl) (by kernel_rfl) (fun _ _ _ _ h => h) hHeld (Or.inl ⟨rfl, fun w' hw => by obtain ⟨hw0, hw1⟩ := hw; first | rfl | (go_simp; done)⟩) ?_
        try simp only [Act.put, List.setIfInBounds_toArray, List.set_cons_zero, List.set_cons_succ]
        refine takeH 6 43 (.int .i64 (L.length : Int)) rfl (by kernel_rfl) (by kernel_rfl) (by kernel_rfl) (by kernel_rfl) (fun _ _ _ _ h => h) hHeld (Or.inl ⟨rfl, fun w' hw => by obtain ⟨hw0, hw1⟩ := hw; first | rfl | (go_simp; done)⟩) ?_
        try simp only [Act.put, List.setIfInBounds_toArray, List.set_cons_zero, List.set_cons_succ]
        refine wpAnyH_ready (rs := [7]) (by kernel_rfl) (by simp) ?_
        refine AllReadyH.cons (o := _) rfl (fun K hK => ?_) AllReadyH.nil
        go_simp
        (go_at_call 45; refine (pick_any (w := x1.drew) L.length (Read.refl (show Cur _ _ _ _ x1.drew from X1.out.1)) (by omega) (by omega) (by omega)).mono ?_; rintro e x2 ⟨⟨r, rfl, hr⟩, hd⟩)
        have H8 := Lib.hid ((show Read _ _ _ _ W x1.drew from X1.out.to 1).trans hd)
        have O8 := Lib.hid ((show OwnD x1.drew _ _ L from O1.out).read hd hgb)
        have V8 := Lib.hid ((show VarD x1.drew _ _ from V1.out).read hd hbg)
        have R8 := Lib.hid ((show VarD x1.drew _ _ from R1.out).read hd hwg)
        have cr8 := R8.out.cell
        have cg8 := R8.out.thaw 0
        have tx8 : TextsAt x2 la L := OwnD.texts O8.out
        have O9 := Lib.hid (O8.out.var R8.out (.slice (some ⟨la, 0, none⟩) L.length cd))
        have tx9 : TextsAt (x2.setCell ⟨w.heap.size, 0, none⟩ (.slice (some ⟨la, 0, none⟩) L.length cd)) la L := OwnD.texts O9.out
        clear hd
        have ht := (HSm.out _ (List.getElem_mem (show r < L.length by omega))).2
        obtain ⟨t, hte⟩ : ∃ t, (L[r]'(by omega)).2 = t := ⟨_, rfl⟩
        rw [hte] at ht
        have htr : ∀ W', TextsAt W' la L → W'.cell? ⟨la, r * 2 + 1, none⟩ = some (.string t) := fun W' h => by rw [h r (by omega), hte]
        have HTR := Lib.hid htr
        clear htr hte
        have hr0 : (0 : Int) ≤ (r : Int) := by omega
        have hr1 : (r : Int) < (L.length : Int) := by omega
        go_wp2_with fail
        refine hK.out _ _ ⟨V8.out.cell, tx8⟩ (fun hHeld2 => ?_)
        clear hK K hHeld
        have hHeld := hHeld2
        clear hHeld2
        try simp only [Act.put, List.setIfInBounds_toArray, List.set_cons_zero, List.set_cons_succ]
        refine takeH 8 45 (.pointer (some ⟨la, r * 2, none⟩)) rfl (by kernel_rfl) (by kernel_rfl) (by kernel_rfl) (by kernel_rfl) (fun _ _ _ _ h => h) hHeld (Or.inl ⟨rfl, fun w' hw => by obtain ⟨hw0, hw1⟩ := hw; first | rfl | (go_simp; done)⟩) ?_
        try simp only [Act.put, List.setIfInBounds_toArray, List.set_cons_zero, List.set_cons_succ]
        refine takeH 9 46 (.pointer (some ⟨la, r * 2 + 1, none⟩)) rfl (by kernel_rfl) (by kernel_rfl) (by kernel_rfl) (by kernel_rfl) (fun _ _ _ _ h => h) hHeld (Or.inl ⟨rfl, fun w' hw => by obtain ⟨hw0, hw1⟩ := hw; first | rfl | (go_simp; done)⟩) ?_
        try simp only [Act.put, List.setIfInBounds_toArray, List.set_cons_zero, List.set_cons_succ]
        refine takeH 10 47 (.string t) rfl (by kernel_rfl) (by kernel_rfl) (by kernel_rfl) (by kernel_rfl) (fun _ _ _ _ h => h) hHeld (Or.inl ⟨rfl, fun w' hw => by obtain ⟨hw0, hw1⟩ := hw; have d2 := HTR.out w' hw1; go_simp⟩) ?_
        try simp only [Act.put, List.setIfInBounds_toArray, List.set_cons_zero, List.set_cons_succ]
        refine wpAnyH_ready (rs := [11]) (by kernel_rfl) (by simp) ?_
        refine AllReadyH.cons (o := _) rfl (fun K hK => ?_) AllReadyH.nil
        go_simp
        refine hK.out _ _ ⟨(V8.out.other (fun e => hwb e.symm) (i := 0) (.slice (some ⟨la, 0, none⟩) L.length cd)).cell, tx9⟩ (fun hHeld2 => ?_)
        clear hK K hHeld
        have hHeld := hHeld2
        clear hHeld2
        try simp only [Act.put, List.setIfInBounds_toArray, List.set_cons_zero, List.set_cons_succ]
        refine takeH 12 3 (.string t) rfl (by kernel_rfl) (by kernel_rfl) (by kernel_rfl) (by kernel_rfl) (fun _ _ _ _ h => h) hHeld (Or.inl ⟨rfl, fun w' hw => by obtain ⟨hw0, hw1⟩ := hw; first | rfl | (go_simp; done)⟩) ?_
        try simp only [Act.put, List.setIfInBounds_toArray, List.set_cons_zero, List.set_cons_succ]
        refine wpAnyH_done (by kernel_rfl) ?_ _
        clear hHeld
        go_wp2
        have hLx : L.length ≤ 41 := by omega
        have HB2 := HB.out.trans (H8.out.below w.heap.size (by omega) (by rw [HZ.out]; omega))
        have hDR := O9.out.ents
        refine bodyPost_ret (v := .tuple #[.agg #[.slice (some ⟨la, 0, none⟩) L.length cd], .string t]) (by simp [results, Tryz.results9, go_sem, *]) rfl ⟨_, L, t, rfl, hDR, hLx, HSm.out, ht, (by repeat (first | with_reducible exact Below.refl _ _ | with_reducible assumption | with_reducible refine Below.alloc ?_ ?_ _ | with_reducible refine Below.setCell ?_ ?_ _ | with_reducible refine Below.drew ?_ | with_reducible refine below_drewN ?_ _ | with_reducible refine Below.trans ?_ (Below.mono (by assumption) ?_) | omega | ((repeat (first | rw [World.size_alloc] | rw [size_setCell] | rw [size_drewN] | rw [size_drew])); omega) | exact Nat.le_refl _ | (dsimp only; omega) | (simp [World.setCell]; omega)))⟩
      · have cvx := V1.out.cell
        refine wp_region_held_drew (S := fun w' => w'.cell? ⟨b5, 0, none⟩ = some (.slice (some ⟨la, 0, none⟩) L.length cd)) (by kernel_rfl) cvx (fun hHeld => ?_)
        refine takeH 0 48 (.agg #[.slice (some ⟨la, 0, none⟩) L.length cd]) rfl (by kernel_rfl) (by kernel_rfl) (by kernel_rfl) (by kernel_rfl) (fun _ _ _ _ h => h) hHeld (Or.inl ⟨rfl, fun w' hw => by first | rfl | (go_simp; done)⟩) ?_
        try simp only [Act.put, List.setIfInBounds_toArray, List.set_cons_zero, List.set_cons_succ]
        refine takeH 1 49 (.pointer (some ⟨w.heap.size + 1, 0, none⟩)) rfl (by kernel_rfl) (by kernel_rfl) (by kernel_rfl) (by kernel_rfl) (fun _ _ _ _ h => h) hHeld (Or.inl ⟨rfl, fun w' hw => by first | rfl | (go_simp; done)⟩) ?_
        try simp only [Act.put, List.setIfInBounds_toArray, List.set_cons_zero, List.set_cons_succ]
        refine wpAnyH_ready (rs := [2]) (by kernel_rfl) (by simp) ?_
        refine AllReadyH.cons (o := _) rfl (fun K hK => ?_) AllReadyH.nil
        go_simp
        (go_at_call 46; refine (translation_any (w := x1.drew) (Read.refl (show Cur _ _ _ _ x1.drew from X1.out.1)) (by omega)).mono ?_; rintro e x2 ⟨⟨t, rfl, ht⟩, hd⟩)
        have H8 := Lib.hid ((show Read _ _ _ _ W x1.drew from X1.out.to 1).trans hd)
        have O8 := Lib.hid ((show OwnD x1.drew _ _ L from O1.out).read hd hgb)
        have V8 := Lib.hid ((show VarD x1.drew _ _ from V1.out).read hd hbg)
        have R8 := Lib.hid ((show VarD x1.drew _ _ from R1.out).read hd hwg)
        have cr8 := R8.out.cell
        have cg8 := R8.out.thaw 0
        clear hd
        go_wp2_with fail
        refine hK.out _ _ V8.out.cell (fun hHeld2 => ?_)
        clear hK K hHeld
        have hHeld := hHeld2
        clear hHeld2
        try simp only [Act.put, List.setIfInBounds_toArray, List.set_cons_zero, List.set_cons_succ]
        refine wpAnyH_ready (rs := [3]) (by kernel_rfl) (by simp) ?_
        refine AllReadyH.cons (o := _) rfl (fun K hK => ?_) AllReadyH.nil
        go_simp
        refine hK.out _ _ (V8.out.other (fun e => hwb e.symm) (i := 0) (.slice (some ⟨la, 0, none⟩) L.length cd)).cell (fun hHeld2 => ?_)
        clear hK K hHeld
        have hHeld := hHeld2
        clear hHeld2
        try simp only [Act.put, List.setIfInBounds_toArray, List.set_cons_zero, List.set_cons_succ]
        refine takeH 4 3 (.string t) rfl (by kernel_rfl) (by kernel_rfl) (by kernel_rfl) (by kernel_rfl) (fun _ _ _ _ h => h) hHeld (Or.inl ⟨rfl, fun w' hw => by first | rfl | (go_simp; done)⟩) ?_
        try simp only [Act.put, List.setIfInBounds_toArray, List.set_cons_zero, List.set_cons_succ]
        refine wpAnyH_done (by kernel_rfl) ?_ _
        clear hHeld
        go_wp2
        have hLx : L.length ≤ 41 := by omega
        have HB2 := HB.out.trans (H8.out.below w.heap.size (by omega) (by rw [HZ.out]; omega))
        have hDR := (O8.out.var R8.out (.slice (some ⟨la, 0, none⟩) L.length cd)).ents
        refine bodyPost_ret (v := .tuple #[.agg #[.slice (some ⟨la, 0, none⟩) L.length cd], .string t]) (by simp [results, Tryz.results9, go_sem, *]) rfl ⟨_, L, t, rfl, hDR, hLx, HSm.out, ht, (by repeat (first | with_reducible exact Below.refl _ _ | with_reducible assumption | with_reducible refine Below.alloc ?_ ?_ _ | with_reducible refine Below.setCell ?_ ?_ _ | with_reducible refine Below.drew ?_ | with_reducible refine below_drewN ?_ _ | with_reducible refine Below.trans ?_ (Below.mono (by assumption) ?_) | omega | ((repeat (first | rw [World.size_alloc] | rw [size_setCell] | rw [size_drewN] | rw [size_drew])); omega) | exact Nat.le_refl _ | (dsimp only; omega) | (simp [World.setCell]; omega)))⟩
  · have hL1 : ¬ (1 : Int) < (L.length : Int) := by omega
    go_upto_region 5 with fail
    have cvy := V2.out.cell
    by_cases h0 : 0 < L.length
    · have hl0 : (0 : Int) < (L.length : Int) := by omega
      (obtain ⟨la, lc, hfm, hla⟩ := O2.out.slice (by omega); cases hfm)
      go_upto_region 6 with (go_at_call 44; refine (one_any 4 (Read.refl H2.out.1) (by omega) (by decide) (by decide)).mono ?_; rintro e x1 ⟨⟨bb, rfl⟩, hd⟩; have X1 := Lib.hid (H2.out.trans hd); have O1 := Lib.hid (O2.out.read hd hgb); have V1 := Lib.hid (V2.out.read hd hbg); have R1 := Lib.hid (R2.out.read hd hwg); clear hd)
      · have cvx := V1.out.cell
        have hNL : L.length = L.length := by omega
        have htx : TextsAt x1 la L := OwnD.texts O1.out
        refine wp_region_held_drew (S := fun w' => w'.cell? ⟨b5, 0, none⟩ = some (.slice (some ⟨la, 0, none⟩) L.length cd) ∧ TextsAt w' la L) (by kernel_rfl) ⟨cvx, htx⟩ (fun hHeld => ?_)
        refine takeH 0 37 (.agg #[.slice (some ⟨la, 0, none⟩) L.length cd]) rfl (by kernel_rfl) (by kernel_rfl) (by kernel_rfl) (by kernel_rfl) (fun _ _ _ _ h => h) hHeld (Or.inl ⟨rfl, fun w' hw => by obtain ⟨hw0, hw1⟩ := hw; first | rfl | (go_simp; done)⟩) ?_
        try simp only [Act.put, List.setIfInBounds_toArray, List.set_cons_zero, List.set_cons_succ]
        refine takeH 1 38 (.pointer (some ⟨b5, 0, none⟩)) rfl (by kernel_rfl) (by kernel_rfl) (by kernel_rfl) (by kernel_rfl) (fun _ _ _ _ h => h) hHeld (Or.inl ⟨rfl, fun w' hw => by obtain ⟨hw0, hw1⟩ := hw; first | rfl | (go_simp; done)⟩) ?_
        try simp only [Act.put, List.setIfInBounds_toArray, List.set_cons_zero, List.set_cons_succ]
        refine takeH 2 39 (.slice (some ⟨la, 0, none⟩) L.length cd) rfl (by kernel_rfl) (by kernel_rfl) (by kernel_rfl) (by kernel_rfl) (fun _ _ _ _ h => h) hHeld (Or.inl ⟨rfl, fun w' hw => by obtain ⟨hw0, hw1⟩ := hw; first | rfl | (go_simp; done)⟩) ?_
        try simp only [Act.put, List.setIfInBounds_toArray, List.set_cons_zero, List.set_cons_succ]
        refine takeH 3 40 (.pointer (some ⟨w.heap.size + 1, 0, none⟩)) rfl (by kernel_rfl) (by kernel_rfl) (by kernel_rfl) (by kernel_rfl) (fun _ _ _ _ h => h) hHeld (Or.inl ⟨rfl, fun w' hw => by obtain ⟨hw0, hw1⟩ := hw; first | rfl | (go_simp; done)⟩) ?_
        try simp only [Act.put, List.setIfInBounds_toArray, List.set_cons_zero, List.set_cons_succ]
        refine takeH 4 41 (.pointer (some ⟨b5, 0, none⟩)) rfl (by kernel_rfl) (by kernel_rfl) (by kernel_rfl) (by kernel_rfl) (fun _ _ _ _ h => h) hHeld (Or.inl ⟨rfl, fun w' hw => by obtain ⟨hw0, hw1⟩ := hw; first | rfl | (go_simp; done)⟩) ?_
        try simp only [Act.put, List.setIfInBounds_toArray, List.set_cons_zero, List.set_cons_succ]
        refine takeH 5 42 (.slice (some ⟨la, 0, none⟩) L.length cd) rfl (by kernel_rfl) (by kernel_rfl) (by kernel_rfl) (by kernel_rfl) (fun _ _ _ _ h => h) hHeld (Or.inl ⟨rfl, fun w' hw => by obtain ⟨hw0, hw1⟩ := hw; first | rfl | (go_simp; done)⟩) ?_
        try simp only [Act.put, List.setIfInBounds_toArray, List.set_cons_zero, List.set_cons_succ]
        refine takeH 6 43 (.int .i64 (L.length : Int)) rfl (by kernel_rfl) (by kernel_rfl) (by kernel_rfl) (by kernel_rfl) (fun _ _ _ _ h => h) hHeld (Or.inl ⟨rfl, fun w' hw => by obtain ⟨hw0, hw1⟩ := hw; first | rfl | (go_simp; done)⟩) ?_
        try simp only [Act.put, List.setIfInBounds_toArray, List.set_cons_zero, List.set_cons_succ]
        refine wpAnyH_ready (rs := [7]) (by kernel_rfl) (by simp) ?_
        refine AllReadyH.cons (o := _) rfl (fun K hK => ?_) AllReadyH.nil
        go_simp
        (go_at_call 45; refine (pick_any (w := x1.drew) L.length (Read.refl (show Cur _ _ _ _ x1.drew from X1.out.1)) (by omega) (by omega) (by omega)).mono ?_; rintro e x2 ⟨⟨r, rfl, hr⟩, hd⟩)
        have H8 := Lib.hid ((show Read _ _ _ _ W x1.drew from X1.out.to 1).trans hd)
        have O8 := Lib.hid ((show OwnD x1.drew _ _ L from O1.out).read hd hgb)
        have V8 := Lib.hid ((show VarD x1.drew _ _ from V1.out).read hd hbg)
        have R8 := Lib.hid ((show VarD x1.drew _ _ from R1.out).read hd hwg)
        have cr8 := R8.out.cell
        have cg8 := R8.out.thaw 0
        have tx8 : TextsAt x2 la L := OwnD.texts O8.out
        have O9 := Lib.hid (O8.out.var R8.out (.slice (some ⟨la, 0, none⟩) L.length cd))
        have tx9 : TextsAt (x2.setCell ⟨w.heap.size, 0, none⟩ (.slice (some ⟨la, 0, none⟩) L.length cd)) la L := OwnD.texts O9.out
        clear hd
        have ht := (HSm.out _ (List.getElem_mem (show r < L.length by omega))).2
        obtain ⟨t, hte⟩ : ∃ t, (L[r]'(by omega)).2 = t := ⟨_, rfl⟩
        rw [hte] at ht
        have htr : ∀ W', TextsAt W' la L → W'.cell? ⟨la, r * 2 + 1, none⟩ = some (.string t) := fun W' h => by rw [h r (by omega), hte]
        have HTR := Lib.hid htr
        clear htr hte
        have hr0 : (0 : Int) ≤ (r : Int) := by omega
        have hr1 : (r : Int) < (L.length : Int) := by omega
        go_wp2_with fail
        refine hK.out _ _ ⟨V8.out.cell, tx8⟩ (fun hHeld2 => ?_)
        clear hK K hHeld
        have hHeld := hHeld2
        clear hHeld2
        try simp only [Act.put, List.setIfInBounds_toArray, List.set_cons_zero, List.set_cons_succ]
        refine takeH 8 45 (.pointer (some ⟨la, r * 2, none⟩)) rfl (by kernel_rfl) (by kernel_rfl) (by kernel_rfl) (by kernel_rfl) (fun _ _ _ _ h => h) hHeld (Or.inl ⟨rfl, fun w' hw => by obtain ⟨hw0, hw1⟩ := hw; first | rfl | (go_simp; done)⟩) ?_
        try simp only [Act.put, List.setIfInBounds_toArray, List.set_cons_zero, List.set_cons_succ]
        refine takeH 9 46 (.pointer (some ⟨la, r * 2 + 1, none⟩)) rfl (by kernel_rfl) (by kernel_rfl) (by kernel_rfl) (by kernel_rfl) (fun _ _ _ _ h => h) hHeld (Or.inl ⟨rfl, fun w' hw => by obtain ⟨hw0, hw1⟩ := hw; first | rfl | (go_simp; done)⟩) ?_
        try simp only [Act.put, List.setIfInBounds_toArray, List.set_cons_zero, List.set_cons_succ]
        refine takeH 10 47 (.string t) rfl (by kernel_rfl) (by kernel_rfl) (by kernel_rfl) (by kernel_rfl) (fun _ _ _ _ h => h) hHeld (Or.inl ⟨rfl, fun w' hw => by obtain ⟨hw0, hw1⟩ := hw; have d2 := HTR.out w' hw1; go_simp⟩) ?_
        try simp only [Act.put, List.setIfInBounds_toArray, List.set_cons_zero, List.set_cons_succ]
        refine wpAnyH_ready (rs := [11]) (by kernel_rfl) (by simp) ?_
        refine AllReadyH.cons (o := _) rfl (fun K hK => ?_) AllReadyH.nil
        go_simp
        refine hK.out _ _ ⟨(V8.out.other (fun e => hwb e.symm) (i := 0) (.slice (some ⟨la, 0, none⟩) L.length cd)).cell, tx9⟩ (fun hHeld2 => ?_)
        clear hK K hHeld
        have hHeld := hHeld2
        clear hHeld2
        try simp only [Act.put, List.setIfInBounds_toArray, List.set_cons_zero, List.set_cons_succ]
        refine takeH 12 3 (.string t) rfl (by kernel_rfl) (by kernel_rfl) (by kernel_rfl) (by kernel_rfl) (fun _ _ _ _ h => h) hHeld (Or.inl ⟨rfl, fun w' hw => by obtain ⟨hw0, hw1⟩ := hw; first | rfl | (go_simp; done)⟩) ?_
        try simp only [Act.put, List.setIfInBounds_toArray, List.set_cons_zero, List.set_cons_succ]
        refine wpAnyH_done (by kernel_rfl) ?_ _
        clear hHeld
        go_wp2
        have hLx : L.length ≤ 41 := by omega
        have HB2 := HB.out.trans (H8.out.below w.heap.size (by omega) (by rw [HZ.out]; omega))
        have hDR := O9.out.ents
        refine bodyPost_ret (v := .tuple #[.agg #[.slice (some ⟨la, 0, none⟩) L.length cd], .string t]) (by simp [results, Tryz.results9, go_sem, *]) rfl ⟨_, L, t, rfl, hDR, hLx, HSm.out, ht, (by repeat (first | with_reducible exact Below.refl _ _ | with_reducible assumption | with_reducible refine Below.alloc ?_ ?_ _ | with_reducible refine Below.setCell ?_ ?_ _ | with_reducible refine Below.drew ?_ | with_reducible refine below_drewN ?_ _ | with_reducible refine Below.trans ?_ (Below.mono (by assumption) ?_) | omega | ((repeat (first | rw [World.size_alloc] | rw [size_setCell] | rw [size_drewN] | rw [size_drew])); omega) | exact Nat.le_refl _ | (dsimp only; omega) | (simp [World.setCell]; omega)))⟩
      · have cvx := V1.out.cell
        refine wp_region_held_drew (S := fun w' => w'.cell? ⟨b5, 0, none⟩ = some (.slice (some ⟨la, 0, none⟩) L.length cd)) (by kernel_rfl) cvx (fun hHeld => ?_)
        refine takeH 0 48 (.agg #[.slice (some ⟨la, 0, none⟩) L.length cd]) rfl (by kernel_rfl) (by kernel_rfl) (by kernel_rfl) (by kernel_rfl) (fun _ _ _ _ h => h) hHeld (Or.inl ⟨rfl, fun w' hw => by first | rfl | (go_simp; done)⟩) ?_
        try simp only [Act.put, List.setIfInBounds_toArray, List.set_cons_zero, List.set_cons_succ]
        refine takeH 1 49 (.pointer (some ⟨w.heap.size + 1, 0, none⟩)) rfl (by kernel_rfl) (by kernel_rfl) (by kernel_rfl) (by kernel_rfl) (fun _ _ _ _ h => h) hHeld (Or.inl ⟨rfl, fun w' hw => by first | rfl | (go_simp; done)⟩) ?_
        try simp only [Act.put, List.setIfInBounds_toArray, List.set_cons_zero, List.set_cons_succ]
        refine wpAnyH_ready (rs := [2]) (by kernel_rfl) (by simp) ?_
        refine AllReadyH.cons (o := _) rfl (fun K hK => ?_) AllReadyH.nil
        go_simp
        (go_at_call 46; refine (translation_any (w := x1.drew) (Read.refl (show Cur _ _ _ _ x1.drew from X1.out.1)) (by omega)).mono ?_; rintro e x2 ⟨⟨t, rfl, ht⟩, hd⟩)
        have H8 := Lib.hid ((show Read _ _ _ _ W x1.drew from X1.out.to 1).trans hd)
        have O8 := Lib.hid ((show OwnD x1.drew _ _ L from O1.out).read hd hgb)
        have V8 := Lib.hid ((show VarD x1.drew _ _ from V1.out).read hd hbg)
        have R8 := Lib.hid ((show VarD x1.drew _ _ from R1.out).read hd hwg)
        have cr8 := R8.out.cell
        have cg8 := R8.out.thaw 0
        clear hd
        go_wp2_with fail
        refine hK.out _ _ V8.out.cell (fun hHeld2 => ?_)
        clear hK K hHeld
        have hHeld := hHeld2
        clear hHeld2
        try simp only [Act.put, List.setIfInBounds_toArray, List.set_cons_zero, List.set_cons_succ]
        refine wpAnyH_ready (rs := [3]) (by kernel_rfl) (by simp) ?_
        refine AllReadyH.cons (o := _) rfl (fun K hK => ?_) AllReadyH.nil
        go_simp
        refine hK.out _ _ (V8.out.other (fun e => hwb e.symm) (i := 0) (.slice (some ⟨la, 0, none⟩) L.length cd)).cell (fun hHeld2 => ?_)
        clear hK K hHeld
        have hHeld := hHeld2
        clear hHeld2
        try simp only [Act.put, List.setIfInBounds_toArray, List.set_cons_zero, List.set_cons_succ]
        refine takeH 4 3 (.string t) rfl (by kernel_rfl) (by kernel_rfl) (by kernel_rfl) (by kernel_rfl) (fun _ _ _ _ h => h) hHeld (Or.inl ⟨rfl, fun w' hw => by first | rfl | (go_simp; done)⟩) ?_
        try simp only [Act.put, List.setIfInBounds_toArray, List.set_cons_zero, List.set_cons_succ]
        refine wpAnyH_done (by kernel_rfl) ?_ _
        clear hHeld
        go_wp2
        have hLx : L.length ≤ 41 := by omega
        have HB2 := HB.out.trans (H8.out.below w.heap.size (by omega) (by rw [HZ.out]; omega))
        have hDR := (O8.out.var R8.out (.slice (some ⟨la, 0, none⟩) L.length cd)).ents
        refine bodyPost_ret (v := .tuple #[.agg #[.slice (some ⟨la, 0, none⟩) L.length cd], .string t]) (by simp [results, Tryz.results9, go_sem, *]) rfl ⟨_, L, t, rfl, hDR, hLx, HSm.out, ht, (by repeat (first | with_reducible exact Below.refl _ _ | with_reducible assumption | with_reducible refine Below.alloc ?_ ?_ _ | with_reducible refine Below.setCell ?_ ?_ _ | with_reducible refine Below.drew ?_ | with_reducible refine below_drewN ?_ _ | with_reducible refine Below.trans ?_ (Below.mono (by assumption) ?_) | omega | ((repeat (first | rw [World.size_alloc] | rw [size_setCell] | rw [size_drewN] | rw [size_drew])); omega) | exact Nat.le_refl _ | (dsimp only; omega) | (simp [World.setCell]; omega)))⟩
    · have hl0 : ¬ (0 : Int) < (L.length : Int) := by omega
      go_upto_region 7 with fail
      have cvx := V2.out.cell
      refine wp_region_held_drew (S := fun w' => w'.cell? ⟨b5, 0, none⟩ = some (.slice ad L.length cd)) (by kernel_rfl) cvx (fun hHeld => ?_)
      refine takeH 0 48 (.agg #[.slice ad L.length cd]) rfl (by kernel_rfl) (by kernel_rfl) (by kernel_rfl) (by kernel_rfl) (fun _ _ _ _ h => h) hHeld (Or.inl ⟨rfl, fun w' hw => by first | rfl | (go_simp; done)⟩) ?_
      try simp only [Act.put, List.setIfInBounds_toArray, List.set_cons_zero, List.set_cons_succ]
      refine takeH 1 49 (.pointer (some ⟨w.heap.size + 1, 0, none⟩)) rfl (by kernel_rfl) (by kernel_rfl) (by kernel_rfl) (by kernel_rfl) (fun _ _ _ _ h => h) hHeld (Or.inl ⟨rfl, fun w' hw => by first | rfl | (go_simp; done)⟩) ?_
      try simp only [Act.put, List.setIfInBounds_toArray, List.set_cons_zero, List.set_cons_succ]
      refine wpAnyH_ready (rs := [2]) (by kernel_rfl) (by simp) ?_
      refine AllReadyH.cons (o := _) rfl (fun K hK => ?_) AllReadyH.nil
      go_simp
      (go_at_call 46; refine (translation_any (w := w2.drew) (Read.refl (show Cur _ _ _ _ w2.drew from H2.out.1)) (by omega)).mono ?_; rintro e x2 ⟨⟨t, rfl, ht⟩, hd⟩)
      have H8 := Lib.hid ((show Read _ _ _ _ W w2.drew from H2.out.to 1).trans hd)
      have O8 := Lib.hid ((show OwnD w2.drew _ _ L from O2.out).read hd hgb)
      have V8 := Lib.hid ((show VarD w2.drew _ _ from V2.out).read hd hbg)
      have R8 := Lib.hid ((show VarD w2.drew _ _ from R2.out).read hd hwg)
      have cr8 := R8.out.cell
      have cg8 := R8.out.thaw 0
      clear hd
      go_wp2_with fail
      refine hK.out _ _ V8.out.cell (fun hHeld2 => ?_)
      clear hK K hHeld
      have hHeld := hHeld2
      clear hHeld2
      try simp only [Act.put, List.setIfInBounds_toArray, List.set_cons_zero, List.set_cons_succ]
      refine wpAnyH_ready (rs := [3]) (by kernel_rfl) (by simp) ?_
      refine AllReadyH.cons (o := _) rfl (fun K hK => ?_) AllReadyH.nil
      go_simp
      refine hK.out _ _ (V8.out.other (fun e => hwb e.symm) (i := 0) (.slice ad L.length cd)).cell (fun hHeld2 => ?_)
      clear hK K hHeld
      have hHeld := hHeld2
      clear hHeld2
      try simp only [Act.put, List.setIfInBounds_toArray, List.set_cons_zero, List.set_cons_succ]
      refine takeH 4 3 (.string t) rfl (by kernel_rfl) (by kernel_rfl) (by kernel_rfl) (by kernel_rfl) (fun _ _ _ _ h => h) hHeld (Or.inl ⟨rfl, fun w' hw => by first | rfl | (go_simp; done)⟩) ?_
      try simp only [Act.put, List.setIfInBounds_toArray, List.set_cons_zero, List.set_cons_succ]
      refine wpAnyH_done (by kernel_rfl) ?_ _
      clear hHeld
      go_wp2
      have hLx : L.length ≤ 41 := by omega
      have HB2 := HB.out.trans (H8.out.below w.heap.size (by omega) (by rw [HZ.out]; omega))
      have hDR := (O8.out.var R8.out (.slice ad L.length cd)).ents
      refine bodyPost_ret (v := .tuple #[.agg #[.slice ad L.length cd], .string t]) (by simp [results, Tryz.results9, go_sem, *]) rfl ⟨_, L, t, rfl, hDR, hLx, HSm.out, ht, (by repeat (first | with_reducible exact Below.refl _ _ | with_reducible assumption | with_reducible refine Below.alloc ?_ ?_ _ | with_reducible refine Below.setCell ?_ ?_ _ | with_reducible refine Below.drew ?_ | with_reducible refine below_drewN ?_ _ | with_reducible refine Below.trans ?_ (Below.mono (by assumption) ?_) | omega | ((repeat (first | rw [World.size_alloc] | rw [size_setCell] | rw [size_drewN] | rw [size_drew])); omega) | exact Nat.le_refl _ | (dsimp only; omega) | (simp [World.setCell]; omega)))⟩

end Go.Proofs.YtdidgaibgkdjoaaGreatDoor
