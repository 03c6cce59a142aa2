/-
  CONTRACT: an outline that is one of a dictionary's own, or any: known.
-/
import Derived.Test.YtdidgaibgkdjoaaGreatDoorDrawDict
namespace Go.Proofs.YtdidgaibgkdjoaaGreatDoor
open Go.RowKit

set_option maxRecDepth 20000 in
set_option maxHeartbeats 1600000 in
theorem known_any {v : Value} {m g B : Nat} {w0 w : World} (base : Nat) (vd : Value) (L : List Ent) (h : Read v m g B w0 w) (hB : B ≤ 500000000) (hO : OwnD w base vd L) (hgb : g < base) (h1L : 1 ≤ L.length) (hL : L.length ≤ 100) (hs : ∀ q ∈ L, 1 ≤ q.1.length ∧ q.1.length ≤ 100) :
    Calls Tryz.prog 112 #[.pointer (some ⟨g, 0, none⟩), .agg #[vd]] w (DrawnO v m g (B + 300) w w0 0 100) := by
  have h1 := h.1
  have hg := h1.lt
  obtain ⟨ad, cd, rfl⟩ := hO.form
  obtain ⟨b, off, _, rfl, _⟩ := ent_at hO.ents 0 (by omega)
  have HA := Lib.hid ((Read.refl h1).alloc (.cells #[.slice (some ⟨b, off, none⟩) L.length cd] 26))
  have HOA := Lib.hid (hO.alloc (.cells #[.slice (some ⟨b, off, none⟩) L.length cd] 26))
  have cv : (w.alloc (.cells #[.slice (some ⟨b, off, none⟩) L.length cd] 26)).cell? ⟨w.heap.size, 0, none⟩ = some (.slice (some ⟨b, off, none⟩) L.length cd) := by rw [World.cell?_alloc_mark]; rfl
  have hne : w.heap.size ≠ g := by omega
  have hlL : (0 : Int) < (L.length : Int) := by omega
  have HCV := Lib.hid cv
  have HZ := Lib.hid (World.size_alloc w (.cells #[.slice (some ⟨b, off, none⟩) L.length cd] 26))
  have HS := Lib.hid hs
  have HH := Lib.hid h; have HN := Lib.hid h1; clear h h1 hO hs
  go_enter Tryz.func112, Tryz.ntmps112
  go_upto_region 1 with fail
  have hcd := HCV.out
  go_upto_region 2 with (first | (go_at_call 91; have hx := H1; refine (anyOutline_any (Read.refl H1.out.1) (by omega)).mono ?_; rintro e w2 ⟨⟨lg, lc, l, rfl, hown, hl1, hl⟩, hd⟩; have H2 := Lib.hid (H1.out.trans hd); have O2 := Lib.hid (own_lower2 hown (show w.heap.size ≤ w1.heap.size by have := HZ1.out; rw [HZ.out] at this; omega)); clear hd hown hx) | (go_at_call 44; refine (one_any 3 (Read.refl HA.out.1) (by omega) (by decide) (by decide)).mono ?_; rintro e w1 ⟨⟨ba, rfl⟩, hd⟩; have H1 := Lib.hid (HA.out.trans hd); have O1 := Lib.hid (HOA.out.read hd hgb); have c1 := hd.cellK hne cv; have HZ1 := Lib.hid hd.2.size; clear hd))
  · refine wp_region_held_drew (S := fun w' => w'.cell? ⟨w.heap.size, 0, none⟩ = some (.slice (some ⟨b, off, none⟩) L.length cd)) (by kernel_rfl) c1 (fun hHeld => ?_)
    refine takeH 0 14 (.pointer (some ⟨w.heap.size, 0, none⟩)) rfl (by kernel_rfl) (by kernel_rfl) (by kernel_rfl) (by kernel_rfl) (fun _ _ _ _ h => h) hHeld (Or.inl ⟨rfl, fun w' hw => by first | rfl | (go_simp; done)⟩) ?_
    try simp only [Act.put, List.setIfInBounds_toArray, List.set_cons_zero, List.set_cons_succ]
    refine takeH 1 15 (.slice (some ⟨b, off, none⟩) L.length cd) rfl (by kernel_rfl) (by kernel_rfl) (by kernel_rfl) (by kernel_rfl) (fun _ _ _ _ h => h) hHeld (Or.inl ⟨rfl, fun w' hw => by first | rfl | (go_simp; done)⟩) ?_
    try simp only [Act.put, List.setIfInBounds_toArray, List.set_cons_zero, List.set_cons_succ]
    refine takeH 2 16 (.pointer (some ⟨g, 0, none⟩)) rfl (by kernel_rfl) (by kernel_rfl) (by kernel_rfl) (by kernel_rfl) (fun _ _ _ _ h => h) hHeld (Or.inl ⟨rfl, fun w' hw => by first | rfl | (go_simp; done)⟩) ?_
    try simp only [Act.put, List.setIfInBounds_toArray, List.set_cons_zero, List.set_cons_succ]
    refine takeH 3 17 (.pointer (some ⟨w.heap.size, 0, none⟩)) rfl (by kernel_rfl) (by kernel_rfl) (by kernel_rfl) (by kernel_rfl) (fun _ _ _ _ h => h) hHeld (Or.inl ⟨rfl, fun w' hw => by first | rfl | (go_simp; done)⟩) ?_
    try simp only [Act.put, List.setIfInBounds_toArray, List.set_cons_zero, List.set_cons_succ]
    refine takeH 4 18 (.slice (some ⟨b, off, none⟩) L.length cd) rfl (by kernel_rfl) (by kernel_rfl) (by kernel_rfl) (by kernel_rfl) (fun _ _ _ _ h => h) hHeld (Or.inl ⟨rfl, fun w' hw => by first | rfl | (go_simp; done)⟩) ?_
    try simp only [Act.put, List.setIfInBounds_toArray, List.set_cons_zero, List.set_cons_succ]
    refine takeH 5 19 (.int .i64 (L.length : Int)) rfl (by kernel_rfl) (by kernel_rfl) (by kernel_rfl) (by kernel_rfl) (fun _ _ _ _ h => h) hHeld (Or.inl ⟨rfl, fun w' hw => by first | rfl | (go_simp; done)⟩) ?_
    try simp only [Act.put, List.setIfInBounds_toArray, List.set_cons_zero, List.set_cons_succ]
    refine wpAnyH_ready (rs := [6]) (by kernel_rfl) (by simp) ?_
    refine AllReadyH.cons (o := _) rfl (fun K hK => ?_) AllReadyH.nil
    go_simp
    (go_at_call 45; refine (pick_any (w := w1.drew) L.length (Read.refl H1.out.1) (by omega) (by omega) (by omega)).mono ?_; rintro e w2 ⟨⟨r, rfl, hr⟩, hd⟩)
    have e2 := hd.cellK hne c1
    have H2 := Lib.hid ((show Read v m g (B + 2) w w1.drew from H1.out.to 1).trans hd)
    have O2 := Lib.hid ((show OwnD w1.drew base (.slice (some ⟨b, off, none⟩) L.length cd) L from O1.out).read hd hgb)
    have hz2 : w.heap.size ≤ w2.heap.size := H2.out.2.size
    clear hd
    obtain ⟨b', off', u, hbe, d1, d2, d3⟩ := ent_at O2.out.ents r hr
    cases hbe
    have hfk := HS.out _ (List.getElem_mem hr)
    generalize L[r] = en at d1 d2 d3 hfk
    obtain ⟨pl, pt⟩ := en
    dsimp only at d1 d2 d3 hfk
    have d3' := d3
    obtain ⟨au, cu, rfl, hcu, _, _, _, hcx⟩ := d3
    obtain ⟨bu, ou, rfl⟩ : ∃ bu ou, au = some ⟨bu, ou, none⟩ := by
      obtain ⟨b1, o1, e1, _⟩ := hcx _ _ (ints_at pl 0 (by omega))
      exact ⟨b1, o1, e1⟩
    have HX := Lib.hid hcx
    clear hcx d3'
    have hr0 : (0 : Int) ≤ (r : Int) := by omega
    have hr1 : (r : Int) < (L.length : Int) := by omega
    go_wp2_with fail
    refine hK.out _ _ e2 (fun hHeld2 => ?_)
    clear hK K hHeld
    have hHeld := hHeld2
    clear hHeld2
    try simp only [Act.put, List.setIfInBounds_toArray, List.set_cons_zero, List.set_cons_succ]
    refine takeH 7 21 (.pointer (some ⟨b, off + r * 2, none⟩)) rfl (by kernel_rfl) (by kernel_rfl) (by kernel_rfl) (by kernel_rfl) (fun _ _ _ _ h => h) hHeld (Or.inl ⟨rfl, fun w' hw => by first | rfl | (go_simp; done)⟩) ?_
    try simp only [Act.put, List.setIfInBounds_toArray, List.set_cons_zero, List.set_cons_succ]
    refine takeH 8 22 (.pointer (some ⟨b, off + r * 2, none⟩)) rfl (by kernel_rfl) (by kernel_rfl) (by kernel_rfl) (by kernel_rfl) (fun _ _ _ _ h => h) hHeld (Or.inl ⟨rfl, fun w' hw => by first | rfl | (go_simp; done)⟩) ?_
    try simp only [Act.put, List.setIfInBounds_toArray, List.set_cons_zero, List.set_cons_succ]
    refine wpAnyH_ready (rs := [9]) (by kernel_rfl) (by simp) ?_
    refine AllReadyH.cons (o := _) rfl (fun K hK => ?_) AllReadyH.nil
    go_simp
    refine hK.out _ _ e2 (fun hHeld2 => ?_)
    clear hK K hHeld
    have hHeld := hHeld2
    clear hHeld2
    try simp only [Act.put, List.setIfInBounds_toArray, List.set_cons_zero, List.set_cons_succ]
    refine wpAnyH_ready (rs := [10]) (by kernel_rfl) (by simp) ?_
    refine AllReadyH.cons (o := _) rfl (fun K hK => ?_) AllReadyH.nil
    go_simp
    (go_at_call 50; refine (l1Own_w bu ou pl.length cu pl _ rfl HX.out (by omega)).mono ?_; rintro e w3 ⟨uq, rfl, hown, hb⟩; obtain ⟨uqa, uqc, rfl⟩ := Joins.ownsRow_form hown (by omega))
    have e3 := keepcP hb e2
    have H3 := Lib.hid (H2.out.onB hb)
    have O3 := Lib.hid (own_lower2 (b' := w.heap.size) hown hz2)
    clear hown hb
    go_wp2_with fail
    refine hK.out _ _ e3 (fun hHeld2 => ?_)
    clear hK K hHeld
    have hHeld := hHeld2
    clear hHeld2
    try simp only [Act.put, List.setIfInBounds_toArray, List.set_cons_zero, List.set_cons_succ]
    refine takeH 11 4 (.slice (some ⟨uqa, 0, none⟩) pl.length uqc) rfl (by kernel_rfl) (by kernel_rfl) (by kernel_rfl) (by kernel_rfl) (fun _ _ _ _ h => h) hHeld (Or.inl ⟨rfl, fun w' hw => by first | rfl | (go_simp; done)⟩) ?_
    try simp only [Act.put, List.setIfInBounds_toArray, List.set_cons_zero, List.set_cons_succ]
    refine wpAnyH_done (by kernel_rfl) ?_ _
    go_wp2
    go_ret
    exact ⟨⟨_, _, pl, rfl, O3.out, by omega, by omega⟩, HH.out.trans (H3.out.mono (by omega))⟩
  · go_ret
    exact ⟨⟨_, _, l, rfl, O2.out, by omega, by omega⟩, HH.out.trans (H2.out.mono (by omega))⟩

end Go.Proofs.YtdidgaibgkdjoaaGreatDoor
