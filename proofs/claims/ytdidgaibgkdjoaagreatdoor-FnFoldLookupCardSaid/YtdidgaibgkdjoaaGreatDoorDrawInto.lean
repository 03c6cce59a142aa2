/-
  CONTRACTS: a fold and an outline that are drawn: l10DrawFold, l10DrawOutline.
-/
import Derived.Test.YtdidgaibgkdjoaaGreatDoorDrawFold
import Derived.Test.YtdidgaibgkdjoaaGreatDoorUnfS
namespace Go.Proofs.YtdidgaibgkdjoaaGreatDoor
open Go.RowKit

/-- a number of the call's own row is written -/
theorem own_setI {w : World} {base la n c : Nat} {l : List Int} (h : w.ownsRow base 3 1 (.slice (some ⟨la, 0, none⟩) n c) n (ints l)) (i : Nat) (y : Int) : (w.setCell ⟨la, i, none⟩ (.int .i64 y)).ownsRow base 3 1 (.slice (some ⟨la, 0, none⟩) n c) n (ints (l.set i y)) := by
  obtain ⟨h1, h2⟩ := h
  refine ⟨by simpa [ints] using h1, ?_⟩
  rcases h2 with ⟨h3, _⟩ | ⟨g, cap, cur, e, h3, h4, h5, h6, h7, h8⟩
  · cases h3
  · cases e
    refine .inr ⟨la, c, cur.setIfInBounds i (.int .i64 y), rfl, h3, heap_setCell_same _ _ _ _ _ _ h4, h5, h6, by rw [Array.size_setIfInBounds]; exact h7, ?_⟩
    rw [Array.toList_setIfInBounds, List.take_set, h8]
    simp [ints, List.map_set]
/-- the cells of a row of the call's own, as news -/
theorem own_cells {w : World} {base lg lc : Nat} {l : List Int} (h : w.ownsRow base 3 1 (.slice (some ⟨lg, 0, none⟩) l.length lc) l.length (ints l)) : ∀ j u, (ints l)[j]? = some u → w.cell? ((⟨lg, 0, none⟩ : Addr).add j) = some u := by
  intro j u hj
  exact h.cells rfl j u hj
theorem ints_get (l : List Int) (j : Nat) : (ints l)[j]? = l[j]?.map (Value.int .i64) := by simp [ints]
theorem own_thaw {w : World} {base lg n lc : Nat} {xs : List Value} (h : w.ownsRow base 3 1 (.slice (some ⟨lg, 0, none⟩) n lc) n xs) (j : Nat) : w.frozen? ⟨lg, j, none⟩ = false := by
  rcases h.2 with ⟨e, _⟩ | ⟨g, c, u, e, _, h2, _⟩
  · cases e
  · cases e
    simp [World.frozen?, h2]
theorem among_keys : ∀ s ∈ ([18, 21, 20, 22, 19] : List Int), ∃ j : Nat, s = j ∧ j ≤ 22 := by
  intro s hs
  simp only [List.mem_cons, List.not_mem_nil, or_false] at hs
  rcases hs with rfl | rfl | rfl | rfl | rfl
  · exact ⟨18, rfl, by omega⟩
  · exact ⟨21, rfl, by omega⟩
  · exact ⟨20, rfl, by omega⟩
  · exact ⟨22, rfl, by omega⟩
  · exact ⟨19, rfl, by omega⟩
theorem u64_nat {j : Nat} (h : j ≤ 22) : IntKind.u64.wrap (j : Int) = j := by
  have h9 : ∀ i : Fin 23, IntKind.u64.wrap (i.val : Int) = i.val := by decide
  exact h9 ⟨j, by omega⟩
/-- an outline, in new memory -/
def DrawnR (v : Value) (m g B : Nat) (w w0 : World) (e : Ending) (w' : World) : Prop :=
  (∃ (lv : Value) (l : List Int), e = .returned lv ∧ w'.ownsRow w.heap.size 3 1 lv l.length (ints l) ∧ l.length ≤ 100) ∧ Read v m g B w0 w'

set_option maxRecDepth 20000 in
set_option maxHeartbeats 1600000 in
theorem l10DrawOutline_any {v : Value} {m g B : Nat} {w0 w : World} (base : Nat) (vd : Value) (L : List Ent) (h : Read v m g B w0 w) (hB : B ≤ 400000000) (hO : OwnD w base vd L) (hgb : g < base) (h1L : 1 ≤ L.length) (hL : L.length ≤ 100) (hs : ∀ q ∈ L, 1 ≤ q.1.length ∧ q.1.length ≤ 100) :
    Calls Tryz.prog 66 #[.pointer (some ⟨g, 0, none⟩), .agg #[vd]] w (DrawnR v m g (B + 600) w w0) := by
  have h1 := h.1
  have hg := h1.lt
  obtain ⟨ad, cd, rfl⟩ := hO.form
  have HA := Lib.hid (((Read.refl h1).alloc (.cells #[.slice ad L.length cd] 26)).alloc (.cells #[] 3))
  have HOA := Lib.hid ((hO.alloc (.cells #[.slice ad L.length cd] 26)).alloc (.cells #[] 3))
  have cv : ((w.alloc (.cells #[.slice ad L.length cd] 26)).alloc (.cells #[] 3)).cell? ⟨w.heap.size, 0, none⟩ = some (.slice ad L.length cd) := by simp [go_sem]
  have HO1 := Lib.hid (made1 w (.cells #[.slice ad L.length cd] 26))
  have HH := Lib.hid h; have HN := Lib.hid h1; clear h h1 hO
  have HS := Lib.hid hs; clear hs
  go_enter Tryz.func66, Tryz.ntmps66
  go_upto_region 2 with (first
    | (at_builtin; have hx := O2; refine app_outs rfl _ _ rfl w.heap.size _ 0 [] rfl O2.out ⟨lg, 0, none⟩ l.length lc l rfl rfl K2.out (by omega) hz2 ?_; intro v3 w3 hown3 hg3; obtain ⟨a3, c3, rfl⟩ := row_formO hown3; have O3 := Lib.hid hown3; have H3 := Lib.hid (H2.out.grownNew HN.out hg3 (fun j hj => (O2.out.lt j hj).1)); clear hx hown3 hg3 O2 K2)
    | (go_at_call 112; refine (known_any base _ L (Read.refl HA.out.1) (by omega) HOA.out hgb h1L hL HS.out).mono ?_; rintro e w2 ⟨⟨lg, lc, l, rfl, hown, hl1, hl⟩, hd⟩; have H2 := Lib.hid (HA.out.trans hd); have O2 := Lib.hid (own_read HO1.out hd hg); have K2 := Lib.hid (own_cells hown); have hz2 := H2.out.2.size; clear hd hown))
  have O3' : w3.ownsRow w.heap.size 3 1 (.slice a3 l.length c3) l.length (ints l) := by have h9 := O3.out; rw [Nat.zero_add, List.nil_append] at h9; exact h9
  clear O3
  have O3 := Lib.hid O3'
  clear O3'
  go_upto_region 4 with (first
    | (go_at_call 91; have hx := H4; refine (anyOutline_any (Read.refl H4.out.1) (by omega)).mono ?_; rintro e w5 ⟨⟨l5, c5, l6, rfl, hown, hl5, hl6⟩, hd⟩; have H5 := Lib.hid (H4.out.trans hd); have O5 := Lib.hid (own_lower2 hown H4.out.2.size); clear hd hown hx)
    | (go_at_call 44; refine (one_any 10 (Read.refl H3.out.1) (by omega) (by decide) (by decide)).mono ?_; rintro e w4 ⟨⟨ba, rfl⟩, hd⟩; have H4 := Lib.hid (H3.out.trans hd); have O4 := Lib.hid (own_read O3.out hd hg); clear hd))
  · have hl9 : l6.length ≤ 100 := by omega
    by_cases h0 : 0 < l6.length
    · have hl0 : (0 : Int) < (l6.length : Int) := by omega
      skip
      go_upto_region 5 with (go_at_call 45; refine (pick_any 3 (Read.refl H5.out.1) (by omega) (by decide) (by decide)).mono ?_; rintro e x1 ⟨⟨r, rfl, hr⟩, hd⟩; have X1 := Lib.hid (H5.out.trans hd); have Y1 := Lib.hid (own_read O5.out hd hg); clear hd)
      · obtain ⟨mm, hmm⟩ : ∃ mm, l6.length = mm + 1 := ⟨l6.length - 1, by omega⟩
        obtain ⟨x, hx⟩ : ∃ x, l6[mm]? = some x := ⟨l6[mm]'(by omega), List.getElem?_eq_getElem _⟩
        have cx : x1.cell? ⟨l5, mm, none⟩ = some (.int .i64 x) := by
          have h9 := own_cells Y1.out mm _ (by rw [ints_get, hx]; rfl)
          rw [Addr.add_lit, Nat.zero_add] at h9
          exact h9
        have fx : x1.frozen? ⟨l5, mm, none⟩ = false := own_thaw Y1.out mm
        have hla : w.heap.size ≤ l5 := (Y1.out.lt l5 rfl).1
        have hw1 : IntKind.i64.wrap ((l6.length : Int) - 1) = (mm : Int) := by rw [show (l6.length : Int) - 1 = (mm : Int) by omega]; exact IntWalk.i64_in _ ⟨by omega, by omega⟩
        have hm0 : (0 : Int) ≤ (mm : Int) := by omega
        have hm1 : (mm : Int) < (l6.length : Int) := by omega
        clear hmm hx
        refine wp_region_last (n := 17) (S := fun w' => w'.cell? ⟨l5, mm, none⟩ = some (.int .i64 x)) (by kernel_rfl) (by kernel_rfl) cx (fun hHeld => ?_)
        refine takeH 0 23 (.slice (some ⟨l5, 0, none⟩) l6.length c5) rfl (by kernel_rfl) (by kernel_rfl) (by kernel_rfl) (by kernel_rfl) (fun _ _ _ _ h => h) hHeld (Or.inl ⟨rfl, fun w' hw => by first | rfl | (go_simp; done)⟩) ?_
        try simp only [Act.put, List.setIfInBounds_toArray, List.set_cons_zero, List.set_cons_succ]
        refine takeH 1 24 (.slice (some ⟨l5, 0, none⟩) l6.length c5) rfl (by kernel_rfl) (by kernel_rfl) (by kernel_rfl) (by kernel_rfl) (fun _ _ _ _ h => h) hHeld (Or.inl ⟨rfl, fun w' hw => by first | rfl | (go_simp; done)⟩) ?_
        try simp only [Act.put, List.setIfInBounds_toArray, List.set_cons_zero, List.set_cons_succ]
        refine takeH 2 25 (.int .i64 (l6.length : Int)) rfl (by kernel_rfl) (by kernel_rfl) (by kernel_rfl) (by kernel_rfl) (fun _ _ _ _ h => h) hHeld (Or.inl ⟨rfl, fun w' hw => by first | rfl | (go_simp; done)⟩) ?_
        try simp only [Act.put, List.setIfInBounds_toArray, List.set_cons_zero, List.set_cons_succ]
        refine takeH 3 26 (.int .i64 (mm : Int)) rfl (by kernel_rfl) (by kernel_rfl) (by kernel_rfl) (by kernel_rfl) (fun _ _ _ _ h => h) hHeld (Or.inl ⟨rfl, fun w' hw => by first | rfl | (go_simp; done)⟩) ?_
        try simp only [Act.put, List.setIfInBounds_toArray, List.set_cons_zero, List.set_cons_succ]
        refine takeH 4 27 (.slice (some ⟨l5, 0, none⟩) l6.length c5) rfl (by kernel_rfl) (by kernel_rfl) (by kernel_rfl) (by kernel_rfl) (fun _ _ _ _ h => h) hHeld (Or.inl ⟨rfl, fun w' hw => by first | rfl | (go_simp; done)⟩) ?_
        try simp only [Act.put, List.setIfInBounds_toArray, List.set_cons_zero, List.set_cons_succ]
        refine takeH 5 28 (.slice (some ⟨l5, 0, none⟩) l6.length c5) rfl (by kernel_rfl) (by kernel_rfl) (by kernel_rfl) (by kernel_rfl) (fun _ _ _ _ h => h) hHeld (Or.inl ⟨rfl, fun w' hw => by first | rfl | (go_simp; done)⟩) ?_
        try simp only [Act.put, List.setIfInBounds_toArray, List.set_cons_zero, List.set_cons_succ]
        refine takeH 6 29 (.int .i64 (l6.length : Int)) rfl (by kernel_rfl) (by kernel_rfl) (by kernel_rfl) (by kernel_rfl) (fun _ _ _ _ h => h) hHeld (Or.inl ⟨rfl, fun w' hw => by first | rfl | (go_simp; done)⟩) ?_
        try simp only [Act.put, List.setIfInBounds_toArray, List.set_cons_zero, List.set_cons_succ]
        refine takeH 7 30 (.int .i64 (mm : Int)) rfl (by kernel_rfl) (by kernel_rfl) (by kernel_rfl) (by kernel_rfl) (fun _ _ _ _ h => h) hHeld (Or.inl ⟨rfl, fun w' hw => by first | rfl | (go_simp; done)⟩) ?_
        try simp only [Act.put, List.setIfInBounds_toArray, List.set_cons_zero, List.set_cons_succ]
        refine takeH 8 31 (.pointer (some ⟨l5, mm, none⟩)) rfl (by kernel_rfl) (by kernel_rfl) (by kernel_rfl) (by kernel_rfl) (fun _ _ _ _ h => h) hHeld (Or.inl ⟨rfl, fun w' hw => by first | rfl | (go_simp; done)⟩) ?_
        try simp only [Act.put, List.setIfInBounds_toArray, List.set_cons_zero, List.set_cons_succ]
        refine takeH 9 32 (.int .i64 x) rfl (by kernel_rfl) (by kernel_rfl) (by kernel_rfl) (by kernel_rfl) (fun _ _ _ _ h => h) hHeld (Or.inl ⟨rfl, fun w' hw => by first | rfl | (go_simp; done)⟩) ?_
        try simp only [Act.put, List.setIfInBounds_toArray, List.set_cons_zero, List.set_cons_succ]
        refine takeH 10 33 (.pointer (some ⟨g, 0, none⟩)) rfl (by kernel_rfl) (by kernel_rfl) (by kernel_rfl) (by kernel_rfl) (fun _ _ _ _ h => h) hHeld (Or.inl ⟨rfl, fun w' hw => by first | rfl | (go_simp; done)⟩) ?_
        try simp only [Act.put, List.setIfInBounds_toArray, List.set_cons_zero, List.set_cons_succ]
        refine wpAnyH_ready (rs := [11]) (by kernel_rfl) (by simp) ?_
        refine AllReadyH.cons (o := _) rfl (fun K hK => ?_) AllReadyH.nil
        go_simp
        refine hK.out _ _ (keepcP (Joins.below_alloc1 _ _) cx) (fun hHeld2 => ?_)
        clear hK K hHeld
        have hHeld := hHeld2
        clear hHeld2
        try simp only [Act.put, List.setIfInBounds_toArray, List.set_cons_zero, List.set_cons_succ]
        refine wpAnyH_ready (rs := [12]) (by kernel_rfl) (by simp) ?_
        refine AllReadyH.cons (o := _) rfl (fun K hK => ?_) AllReadyH.nil
        go_simp
        (go_at_call 111; refine (among_lit (w := x1.drew) [18, 21, 20, 22, 19] (fun q => ∃ j : Nat, q = j ∧ j ≤ 22) (Read.refl (show Cur v m g _ x1.drew from X1.out.1)) (by omega) (by decide) (by decide) among_keys _).mono ?_; rintro e x2 ⟨⟨q, rfl, j, rfl, hj⟩, hd⟩)
        have e2 : x2.cell? ⟨l5, mm, none⟩ = some (.int .i64 x) := hd.cellK (show l5 ≠ g by omega) (show x1.drew.cell? ⟨l5, mm, none⟩ = some (.int .i64 x) from cx)
        have Y2 := Lib.hid (own_read (show x1.drew.ownsRow w.heap.size 3 1 _ _ _ from Y1.out) hd hg)
        have X2 := Lib.hid ((show Read v m g _ w x1.drew from X1.out.to 1).trans hd)
        have f2 : x2.frozen? ⟨l5, mm, none⟩ = false := own_thaw Y2.out mm
        have hj0 : (0 : Int) ≤ (j : Int) := by omega
        have hj1 : (j : Int) ≤ 22 := by omega
        clear hd cx fx
        go_wp2_with fail
        refine hK.out _ _ e2 (fun hHeld2 => ?_)
        clear hK K hHeld
        have hHeld := hHeld2
        clear hHeld2
        try simp only [Act.put, List.setIfInBounds_toArray, List.set_cons_zero, List.set_cons_succ]
        have hw36 := u64_nat hj
        have hw37 : IntKind.i64.wrap ((2 : Int) ^ j) = (2 : Int) ^ j := wrapI (by have := pow_bd hj; omega) (by have := pow_bd hj; omega)
        refine takeH 13 36 (.int .u64 (j : Int)) rfl (by kernel_rfl) (by kernel_rfl) (by kernel_rfl) (by kernel_rfl) (fun _ _ _ _ h => h) hHeld (Or.inl ⟨rfl, fun w' hw => by first | rfl | (go_simp; done)⟩) ?_
        try simp only [Act.put, List.setIfInBounds_toArray, List.set_cons_zero, List.set_cons_succ]
        refine takeH 14 37 (.int .i64 ((2 : Int) ^ j)) rfl (by kernel_rfl) (by kernel_rfl) (by kernel_rfl) (by kernel_rfl) (fun _ _ _ _ h => h) hHeld (Or.inl ⟨rfl, fun w' hw => by (go_simp; (try done))⟩) ?_
        try simp only [Act.put, List.setIfInBounds_toArray, List.set_cons_zero, List.set_cons_succ]
        refine takeH 15 38 (.int .i64 (bits .or .i64 x ((2 : Int) ^ j))) rfl (by kernel_rfl) (by kernel_rfl) (by kernel_rfl) (by kernel_rfl) (fun _ _ _ _ h => h) hHeld (Or.inl ⟨rfl, fun w' hw => by first | rfl | (go_simp; done)⟩) ?_
        try simp only [Act.put, List.setIfInBounds_toArray, List.set_cons_zero, List.set_cons_succ]
        refine takeH 16 39 (.pointer (some ⟨l5, mm, none⟩)) rfl (by kernel_rfl) (by kernel_rfl) (by kernel_rfl) (by kernel_rfl) (fun _ _ _ _ h => h) hHeld (Or.inl ⟨rfl, fun w' hw => by first | rfl | (go_simp; done)⟩) ?_
        try simp only [Act.put, List.setIfInBounds_toArray, List.set_cons_zero, List.set_cons_succ]
        refine wpAnyH_done (by kernel_rfl) ?_ _
        refine thenLast_normal (wpOp_step (o := _) rfl (fun K hK => ?_))
        go_simp
        refine hK _ _ ?_
        clear hK hHeld
        go_wp2
        go_ret
        refine ⟨⟨_, l6.set mm (bits .or .i64 x ((2 : Int) ^ j)), rfl, ?_, by rw [List.length_set]; exact hl9⟩, HH.out.trans ((X2.out.setNew HN.out hla _ _).mono (by omega))⟩
        rw [List.length_set]
        exact own_setI Y2.out mm _
      · go_ret
        exact ⟨⟨_, _, rfl, Y1.out, hl9⟩, HH.out.trans (X1.out.mono (by omega))⟩
    · have hl0 : ¬ (0 : Int) < (l6.length : Int) := by omega
      go_wp2
      go_ret
      exact ⟨⟨_, _, rfl, O5.out, hl9⟩, HH.out.trans (H5.out.mono (by omega))⟩
  · have hl9 : l.length ≤ 100 := by omega
    by_cases h0 : 0 < l.length
    · have hl0 : (0 : Int) < (l.length : Int) := by omega
      (obtain ⟨la, lc', hform⟩ := Joins.ownsRow_form O4.out h0; cases hform)
      go_upto_region 5 with (go_at_call 45; refine (pick_any 3 (Read.refl H4.out.1) (by omega) (by decide) (by decide)).mono ?_; rintro e x1 ⟨⟨r, rfl, hr⟩, hd⟩; have X1 := Lib.hid (H4.out.trans hd); have Y1 := Lib.hid (own_read O4.out hd hg); clear hd)
      · obtain ⟨mm, hmm⟩ : ∃ mm, l.length = mm + 1 := ⟨l.length - 1, by omega⟩
        obtain ⟨x, hx⟩ : ∃ x, l[mm]? = some x := ⟨l[mm]'(by omega), List.getElem?_eq_getElem _⟩
        have cx : x1.cell? ⟨la, mm, none⟩ = some (.int .i64 x) := by
          have h9 := own_cells Y1.out mm _ (by rw [ints_get, hx]; rfl)
          rw [Addr.add_lit, Nat.zero_add] at h9
          exact h9
        have fx : x1.frozen? ⟨la, mm, none⟩ = false := own_thaw Y1.out mm
        have hla : w.heap.size ≤ la := (Y1.out.lt la rfl).1
        have hw1 : IntKind.i64.wrap ((l.length : Int) - 1) = (mm : Int) := by rw [show (l.length : Int) - 1 = (mm : Int) by omega]; exact IntWalk.i64_in _ ⟨by omega, by omega⟩
        have hm0 : (0 : Int) ≤ (mm : Int) := by omega
        have hm1 : (mm : Int) < (l.length : Int) := by omega
        clear hmm hx
        refine wp_region_last (n := 17) (S := fun w' => w'.cell? ⟨la, mm, none⟩ = some (.int .i64 x)) (by kernel_rfl) (by kernel_rfl) cx (fun hHeld => ?_)
        refine takeH 0 23 (.slice (some ⟨la, 0, none⟩) l.length c3) rfl (by kernel_rfl) (by kernel_rfl) (by kernel_rfl) (by kernel_rfl) (fun _ _ _ _ h => h) hHeld (Or.inl ⟨rfl, fun w' hw => by first | rfl | (go_simp; done)⟩) ?_
        try simp only [Act.put, List.setIfInBounds_toArray, List.set_cons_zero, List.set_cons_succ]
        refine takeH 1 24 (.slice (some ⟨la, 0, none⟩) l.length c3) rfl (by kernel_rfl) (by kernel_rfl) (by kernel_rfl) (by kernel_rfl) (fun _ _ _ _ h => h) hHeld (Or.inl ⟨rfl, fun w' hw => by first | rfl | (go_simp; done)⟩) ?_
        try simp only [Act.put, List.setIfInBounds_toArray, List.set_cons_zero, List.set_cons_succ]
        refine takeH 2 25 (.int .i64 (l.length : Int)) rfl (by kernel_rfl) (by kernel_rfl) (by kernel_rfl) (by kernel_rfl) (fun _ _ _ _ h => h) hHeld (Or.inl ⟨rfl, fun w' hw => by first | rfl | (go_simp; done)⟩) ?_
        try simp only [Act.put, List.setIfInBounds_toArray, List.set_cons_zero, List.set_cons_succ]
        refine takeH 3 26 (.int .i64 (mm : Int)) rfl (by kernel_rfl) (by kernel_rfl) (by kernel_rfl) (by kernel_rfl) (fun _ _ _ _ h => h) hHeld (Or.inl ⟨rfl, fun w' hw => by first | rfl | (go_simp; done)⟩) ?_
        try simp only [Act.put, List.setIfInBounds_toArray, List.set_cons_zero, List.set_cons_succ]
        refine takeH 4 27 (.slice (some ⟨la, 0, none⟩) l.length c3) rfl (by kernel_rfl) (by kernel_rfl) (by kernel_rfl) (by kernel_rfl) (fun _ _ _ _ h => h) hHeld (Or.inl ⟨rfl, fun w' hw => by first | rfl | (go_simp; done)⟩) ?_
        try simp only [Act.put, List.setIfInBounds_toArray, List.set_cons_zero, List.set_cons_succ]
        refine takeH 5 28 (.slice (some ⟨la, 0, none⟩) l.length c3) rfl (by kernel_rfl) (by kernel_rfl) (by kernel_rfl) (by kernel_rfl) (fun _ _ _ _ h => h) hHeld (Or.inl ⟨rfl, fun w' hw => by first | rfl | (go_simp; done)⟩) ?_
        try simp only [Act.put, List.setIfInBounds_toArray, List.set_cons_zero, List.set_cons_succ]
        refine takeH 6 29 (.int .i64 (l.length : Int)) rfl (by kernel_rfl) (by kernel_rfl) (by kernel_rfl) (by kernel_rfl) (fun _ _ _ _ h => h) hHeld (Or.inl ⟨rfl, fun w' hw => by first | rfl | (go_simp; done)⟩) ?_
        try simp only [Act.put, List.setIfInBounds_toArray, List.set_cons_zero, List.set_cons_succ]
        refine takeH 7 30 (.int .i64 (mm : Int)) rfl (by kernel_rfl) (by kernel_rfl) (by kernel_rfl) (by kernel_rfl) (fun _ _ _ _ h => h) hHeld (Or.inl ⟨rfl, fun w' hw => by first | rfl | (go_simp; done)⟩) ?_
        try simp only [Act.put, List.setIfInBounds_toArray, List.set_cons_zero, List.set_cons_succ]
        refine takeH 8 31 (.pointer (some ⟨la, mm, none⟩)) rfl (by kernel_rfl) (by kernel_rfl) (by kernel_rfl) (by kernel_rfl) (fun _ _ _ _ h => h) hHeld (Or.inl ⟨rfl, fun w' hw => by first | rfl | (go_simp; done)⟩) ?_
        try simp only [Act.put, List.setIfInBounds_toArray, List.set_cons_zero, List.set_cons_succ]
        refine takeH 9 32 (.int .i64 x) rfl (by kernel_rfl) (by kernel_rfl) (by kernel_rfl) (by kernel_rfl) (fun _ _ _ _ h => h) hHeld (Or.inl ⟨rfl, fun w' hw => by first | rfl | (go_simp; done)⟩) ?_
        try simp only [Act.put, List.setIfInBounds_toArray, List.set_cons_zero, List.set_cons_succ]
        refine takeH 10 33 (.pointer (some ⟨g, 0, none⟩)) rfl (by kernel_rfl) (by kernel_rfl) (by kernel_rfl) (by kernel_rfl) (fun _ _ _ _ h => h) hHeld (Or.inl ⟨rfl, fun w' hw => by first | rfl | (go_simp; done)⟩) ?_
        try simp only [Act.put, List.setIfInBounds_toArray, List.set_cons_zero, List.set_cons_succ]
        refine wpAnyH_ready (rs := [11]) (by kernel_rfl) (by simp) ?_
        refine AllReadyH.cons (o := _) rfl (fun K hK => ?_) AllReadyH.nil
        go_simp
        refine hK.out _ _ (keepcP (Joins.below_alloc1 _ _) cx) (fun hHeld2 => ?_)
        clear hK K hHeld
        have hHeld := hHeld2
        clear hHeld2
        try simp only [Act.put, List.setIfInBounds_toArray, List.set_cons_zero, List.set_cons_succ]
        refine wpAnyH_ready (rs := [12]) (by kernel_rfl) (by simp) ?_
        refine AllReadyH.cons (o := _) rfl (fun K hK => ?_) AllReadyH.nil
        go_simp
        (go_at_call 111; refine (among_lit (w := x1.drew) [18, 21, 20, 22, 19] (fun q => ∃ j : Nat, q = j ∧ j ≤ 22) (Read.refl (show Cur v m g _ x1.drew from X1.out.1)) (by omega) (by decide) (by decide) among_keys _).mono ?_; rintro e x2 ⟨⟨q, rfl, j, rfl, hj⟩, hd⟩)
        have e2 : x2.cell? ⟨la, mm, none⟩ = some (.int .i64 x) := hd.cellK (show la ≠ g by omega) (show x1.drew.cell? ⟨la, mm, none⟩ = some (.int .i64 x) from cx)
        have Y2 := Lib.hid (own_read (show x1.drew.ownsRow w.heap.size 3 1 _ _ _ from Y1.out) hd hg)
        have X2 := Lib.hid ((show Read v m g _ w x1.drew from X1.out.to 1).trans hd)
        have f2 : x2.frozen? ⟨la, mm, none⟩ = false := own_thaw Y2.out mm
        have hj0 : (0 : Int) ≤ (j : Int) := by omega
        have hj1 : (j : Int) ≤ 22 := by omega
        clear hd cx fx
        go_wp2_with fail
        refine hK.out _ _ e2 (fun hHeld2 => ?_)
        clear hK K hHeld
        have hHeld := hHeld2
        clear hHeld2
        try simp only [Act.put, List.setIfInBounds_toArray, List.set_cons_zero, List.set_cons_succ]
        have hw36 := u64_nat hj
        have hw37 : IntKind.i64.wrap ((2 : Int) ^ j) = (2 : Int) ^ j := wrapI (by have := pow_bd hj; omega) (by have := pow_bd hj; omega)
        refine takeH 13 36 (.int .u64 (j : Int)) rfl (by kernel_rfl) (by kernel_rfl) (by kernel_rfl) (by kernel_rfl) (fun _ _ _ _ h => h) hHeld (Or.inl ⟨rfl, fun w' hw => by first | rfl | (go_simp; done)⟩) ?_
        try simp only [Act.put, List.setIfInBounds_toArray, List.set_cons_zero, List.set_cons_succ]
        refine takeH 14 37 (.int .i64 ((2 : Int) ^ j)) rfl (by kernel_rfl) (by kernel_rfl) (by kernel_rfl) (by kernel_rfl) (fun _ _ _ _ h => h) hHeld (Or.inl ⟨rfl, fun w' hw => by (go_simp; (try done))⟩) ?_
        try simp only [Act.put, List.setIfInBounds_toArray, List.set_cons_zero, List.set_cons_succ]
        refine takeH 15 38 (.int .i64 (bits .or .i64 x ((2 : Int) ^ j))) rfl (by kernel_rfl) (by kernel_rfl) (by kernel_rfl) (by kernel_rfl) (fun _ _ _ _ h => h) hHeld (Or.inl ⟨rfl, fun w' hw => by first | rfl | (go_simp; done)⟩) ?_
        try simp only [Act.put, List.setIfInBounds_toArray, List.set_cons_zero, List.set_cons_succ]
        refine takeH 16 39 (.pointer (some ⟨la, mm, none⟩)) rfl (by kernel_rfl) (by kernel_rfl) (by kernel_rfl) (by kernel_rfl) (fun _ _ _ _ h => h) hHeld (Or.inl ⟨rfl, fun w' hw => by first | rfl | (go_simp; done)⟩) ?_
        try simp only [Act.put, List.setIfInBounds_toArray, List.set_cons_zero, List.set_cons_succ]
        refine wpAnyH_done (by kernel_rfl) ?_ _
        refine thenLast_normal (wpOp_step (o := _) rfl (fun K hK => ?_))
        go_simp
        refine hK _ _ ?_
        clear hK hHeld
        go_wp2
        go_ret
        refine ⟨⟨_, l.set mm (bits .or .i64 x ((2 : Int) ^ j)), rfl, ?_, by rw [List.length_set]; exact hl9⟩, HH.out.trans ((X2.out.setNew HN.out hla _ _).mono (by omega))⟩
        rw [List.length_set]
        exact own_setI Y2.out mm _
      · go_ret
        exact ⟨⟨_, _, rfl, Y1.out, hl9⟩, HH.out.trans (X1.out.mono (by omega))⟩
    · have hl0 : ¬ (0 : Int) < (l.length : Int) := by omega
      go_wp2
      go_ret
      exact ⟨⟨_, _, rfl, O4.out, hl9⟩, HH.out.trans (H4.out.mono (by omega))⟩

end Go.Proofs.YtdidgaibgkdjoaaGreatDoor
