/-
  CONTRACT: a dictionary that need not be valid: anyDictionary.
-/
import Derived.Test.YtdidgaibgkdjoaaGreatDoorDrawVar
namespace Go.Proofs.YtdidgaibgkdjoaaGreatDoor
open Go.RowKit

/-- what is told of such a dictionary's entries -/
def LooseD (L : List Ent) : Prop := ∀ q ∈ L, q.1.length ≤ 7 ∧ q.2.size ≤ 1070
theorem SmallD.loose {L : List Ent} (h : SmallD L) : LooseD L := fun q hq => ⟨by have := h q hq; omega, (h q hq).2.2⟩
theorem LooseD.snoc {L : List Ent} (h : LooseD L) (p : List Int) (t : ByteArray) (h1 : p.length ≤ 7) (h2 : t.size ≤ 1070) : LooseD (L ++ [(p, t)]) := by
  intro q hq
  rw [List.mem_append] at hq
  rcases hq with hq | hq
  · exact h q hq
  · simp at hq; subst hq; exact ⟨h1, h2⟩
theorem LooseD.set {L : List Ent} (h : LooseD L) (j : Nat) (p : List Int) (t : ByteArray) (h1 : p.length ≤ 7) (h2 : t.size ≤ 1070) : LooseD (L.set j (p, t)) := by
  intro q hq
  rcases List.mem_or_eq_of_mem_set hq with hq | rfl
  · exact h q hq
  · exact ⟨h1, h2⟩
theorem LooseD.nil : LooseD [] := fun q hq => by cases hq
/-- such a dictionary, in new memory -/
def DrawnX (v : Value) (m g B : Nat) (w w0 : World) (e : Ending) (w' : World) : Prop :=
  (∃ (dv : Value) (L : List Ent), e = .returned (.agg #[dv]) ∧ OwnD w' w.heap.size dv L ∧ L.length ≤ 41 ∧ LooseD L) ∧ Read v m g B w0 w'

theorem own_thawE {w : World} {base lg n lc s : Nat} {E : TypeId} {xs : List Value} (h : w.ownsRow base E s (.slice (some ⟨lg, 0, none⟩) n lc) n xs) (j : Nat) : w.frozen? ⟨lg, j, none⟩ = false := by
  rcases h.2 with ⟨e, _⟩ | ⟨g, c, u, e, _, h2, _⟩
  · cases e
  · cases e
    simp [World.frozen?, h2]
set_option maxRecDepth 20000 in
set_option maxHeartbeats 3200000 in
theorem anyDictionary_any {v : Value} {m g B : Nat} {w0 w : World} (h : Read v m g B w0 w) (hB : B ≤ 300000000) :
    Calls Tryz.prog 43 #[.pointer (some ⟨g, 0, none⟩)] w (DrawnX v m g (B + 5000) w w0) := by
  have h1 := h.1
  have hg := h1.lt
  have HA := Lib.hid ((Read.refl h1).alloc (.cells #[.slice none 0 0] 26))
  have RA := Lib.hid (VarD.new w (.slice none 0 0))
  have HZ := Lib.hid (World.size_alloc w (.cells #[.slice none 0 0] 26))
  have hwg : w.heap.size ≠ g := by omega
  have hgb : g < w.heap.size + 1 := by omega
  have HH := Lib.hid h; have HN := Lib.hid h1; clear h h1
  go_enter Tryz.func43, Tryz.ntmps43
  go_upto_region 2 with (go_at_call 64; refine (dictionary_any (Read.refl HA.out.1) (by omega)).mono ?_; rintro e w1 ⟨⟨dv, L, rfl, hO, hL1, hL9, hSm⟩, hd⟩; have H1 := Lib.hid (HA.out.trans hd); have O1 := Lib.hid (hO.lower (Nat.le_of_eq HZ.out.symm)); have R1 := Lib.hid (RA.out.read hd hwg); have HSm := Lib.hid hSm; clear hd hO hSm; obtain ⟨la, lc, rfl, hla⟩ := O1.out.slice hL1)
  have hz1 : w.heap.size + 1 ≤ w1.heap.size := by have := R1.out.lt; omega
  have H2 := Lib.hid (H1.out.alloc (.cells #[.slice (some ⟨la, 0, none⟩) L.length lc] 26))
  have O2 := Lib.hid (O1.out.alloc (.cells #[.slice (some ⟨la, 0, none⟩) L.length lc] 26))
  have R2 := Lib.hid (R1.out.alloc (.cells #[.slice (some ⟨la, 0, none⟩) L.length lc] 26))
  have V2 := Lib.hid (VarD.new w1 (.slice (some ⟨la, 0, none⟩) L.length lc))
  clear H1 O1 R1 HA RA
  generalize w1.alloc (.cells #[.slice (some ⟨la, 0, none⟩) L.length lc] 26) = w2 at H2 O2 R2 V2 ⊢
  generalize w1.heap.size = b3 at hz1 V2 ⊢
  have hbg : b3 ≠ g := by omega
  have hwb : w.heap.size ≠ b3 := by omega
  go_upto_region 3 with (go_at_call 45; refine (pick_any 20 (Read.refl H2.out.1) (by omega) (by decide) (by decide)).mono ?_; rintro e w3 ⟨⟨r, rfl, hr⟩, hd⟩; have H3 := Lib.hid (H2.out.trans hd); have O3 := Lib.hid (O2.out.read hd hgb); have V3 := Lib.hid (V2.out.read hd hbg); have R3 := Lib.hid (R2.out.read hd hwg); clear hd)
  clear H2 O2 R2 V2
  have hlb : la ≠ b3 := by
    obtain ⟨xs, hx, _⟩ := O3.out
    have := V3.out.apart hx (by decide)
    simpa [Value.ownBlock] using this
  have c3 := V3.out.cell
  have hL0 : (0 : Int) < (L.length : Int) := by omega
  have hLn : ¬ L = [] := by intro e; rw [e] at hL1; simp at hL1
  by_cases h4 : 4 ≤ r
  · have n0 : ¬ (r : Int) = 0 := by omega
    have n1 : ¬ (r : Int) = 1 := by omega
    have n2 : ¬ (r : Int) = 2 := by omega
    have n3 : ¬ (r : Int) = 3 := by omega
    go_upto_region 11 with fail
    have HL := Lib.hid HSm.out.loose
    have cv0 := V3.out.cell
    have cf0 := V3.out.thaw 0
    have cr0 := R3.out.cell
    have cg0 := R3.out.thaw 0
    go_upto_region 12 with (go_at_call 44; refine (one_any 40 (Read.refl H3.out.1) (by omega) (by decide) (by decide)).mono ?_; rintro e y1 ⟨⟨bb, rfl⟩, hd⟩; have H9 := Lib.hid (H3.out.trans hd); have O9 := Lib.hid (O3.out.read hd hgb); have V9 := Lib.hid (V3.out.read hd hbg); have R9 := Lib.hid (R3.out.read hd hwg); have cv := V9.out.cell; have cf := V9.out.thaw 0; have cr := R9.out.cell; have cg := R9.out.thaw 0; clear hd)
    · obtain rfl : bb = true := by assumption
      clear cv0 cf0 cr0 cg0
      go_wp2
      have H8 := Lib.hid (H9.out.setNew HN.out (show w.heap.size ≤ b3 by omega) 0 (.slice none 0 0))
      have V8 := Lib.hid (V9.out.store (.slice none 0 0))
      have R8 := Lib.hid (R9.out.other hwb (i := 0) (.slice none 0 0))
      clear O9 H9 V9 R9 cv cf cr cg
      go_loopw [4] (fun n wr => ∃ (dv : Value) (M : List Ent), n = .int .i64 ((1 + M.length : Nat) : Int) ∧ M.length ≤ 41 ∧ Hid (LooseD M) ∧ Hid (VarD wr b3 dv) ∧ Hid (VarD wr w.heap.size (.slice none 0 0)) ∧ Hid (OwnD wr (w.heap.size + 1) dv M) ∧ Read v m g (B + 4000 + 2 * M.length) w wr) (fun n _ => 50 - (intOf n).toNat)
      case atStart => exact ⟨_, [], by go_num, by simp, Lib.hid LooseD.nil, V8, R8, Lib.hid (OwnD.nil _ _), H8.out.mono (by omega)⟩
      case round =>
        obtain ⟨dv, M, rfl, hc, HS, HV, HR, HO, hd⟩ := hrel
        have HW := Lib.hid hd; clear hd
        obtain ⟨am, cm, rfl⟩ := HO.out.form
        go_upto_region 16 with (go_at_call 45; refine (pick_any 2 (Read.refl HW.out.1) (by omega) (by decide) (by decide)).mono ?_; rintro e y1 ⟨⟨p, rfl, hp⟩, hd⟩; have W1 := Lib.hid (HW.out.trans hd); have O1 := Lib.hid (HO.out.read hd hgb); have V1 := Lib.hid (HV.out.read hd hbg); have R1 := Lib.hid (HR.out.read hd hwg); have cv := V1.out.cell; have cr := R1.out.cell; have cg := R1.out.thaw 0; clear hd)
        · obtain ⟨xs, hx, hD⟩ := O1.out
          have hz1' : w.heap.size + 1 ≤ y1.heap.size := by have := R1.out.lt; omega
          have hm40 : M.length ≤ 40 := by omega
          have AX := Lib.hid ((hx.alloc (.cells #[.int .i64 (1 + (M.length : Int))] 3)).alloc (.cells #[.slice (some ⟨y1.heap.size, 0, none⟩) 1 1, .string ⟨#[97]⟩] 39))
          have AV := Lib.hid ((V1.out.alloc (.cells #[.int .i64 (1 + (M.length : Int))] 3)).alloc (.cells #[.slice (some ⟨y1.heap.size, 0, none⟩) 1 1, .string ⟨#[97]⟩] 39))
          have AR := Lib.hid ((R1.out.alloc (.cells #[.int .i64 (1 + (M.length : Int))] 3)).alloc (.cells #[.slice (some ⟨y1.heap.size, 0, none⟩) 1 1, .string ⟨#[97]⟩] 39))
          have AH := Lib.hid ((W1.out.alloc (.cells #[.int .i64 (1 + (M.length : Int))] 3)).alloc (.cells #[.slice (some ⟨y1.heap.size, 0, none⟩) 1 1, .string ⟨#[97]⟩] 39))
          have AU := Lib.hid ((row_one (base := w.heap.size + 1) y1 (1 + (M.length : Int)) hz1').alloc (.cells #[.slice (some ⟨y1.heap.size, 0, none⟩) 1 1, .string ⟨#[97]⟩] 39))
          have AD := Lib.hid (show ∀ j (h : j < M.length), ∃ u, xs[j * 2]? = some u ∧ xs[j * 2 + 1]? = some (.string (M[j]).2) ∧ ((y1.alloc (.cells #[.int .i64 (1 + (M.length : Int))] 3)).alloc (.cells #[.slice (some ⟨y1.heap.size, 0, none⟩) 1 1, .string ⟨#[97]⟩] 39)).ownsRow (w.heap.size + 1) 3 1 u (M[j]).1.length (ints (M[j]).1) from fun j hj => by obtain ⟨u, e1, e2, e3⟩ := hD j hj; exact ⟨u, e1, e2, (e3.alloc _).alloc _⟩)
          clear hx hD
          go_wp2_with (at_builtin; refine app_den rfl _ _ rfl (w.heap.size + 1) _ M.length xs rfl AX.out ⟨_, 0, none⟩ 1 (some ⟨y1.heap.size, 0, none⟩) 1 1 ⟨#[97]⟩ rfl (den_news _ _ _ _ _ (World.size_alloc _ _).symm) (by omega) (by rw [World.size_alloc, World.size_alloc]; omega) ?_; intro v2 y3 hown2 hg2; obtain ⟨a2, c2, rfl⟩ := row_formO hown2; have V3 := Lib.hid (AV.out.grown hg2 (AV.out.apart AX.out (by decide))); have cv3 := V3.out.cell; have cf3 := V3.out.thaw 0)
          have OD := OwnD.snoc (l := M) (p := [1 + (M.length : Int)]) (t := ⟨#[97]⟩) AX.out AD.out AU.out hown2 hg2
          have O3 := Lib.hid (OD.var V3.out (.slice a2 (M.length + 1) c2))
          have H3 := Lib.hid ((AH.out.grownNew HN.out hg2 (fun j hj => Nat.le_of_succ_le (AX.out.lt j hj).1)).setNew HN.out (show w.heap.size ≤ b3 by omega) 0 (.slice a2 (M.length + 1) c2))
          have R3 := Lib.hid ((AR.out.grown hg2 (fun e => by have := (AX.out.lt _ e).1; omega)).other hwb (i := 0) (.slice a2 (M.length + 1) c2))
          have V4 := Lib.hid (V3.out.store (.slice a2 (M.length + 1) c2))
          have HS3 := Lib.hid (HS.out.snoc [1 + (M.length : Int)] ⟨#[97]⟩ (by simp) (by decide))
          clear OD AX AV AR AH AU AD hown2 hg2 cv3 cf3 V3 O1 V1 R1 W1 HO HV HR HW cv cr cg
          go_roundw
          case rel => exact ⟨_, M ++ [([1 + (M.length : Int)], ⟨#[97]⟩)], by rw [List.length_append]; go_num, by rw [List.length_append]; show M.length + 1 ≤ 41; omega, HS3, V4, R3, O3, by rw [List.length_append]; exact H3.out.mono (by show _ ≤ B + 4000 + 2 * (M.length + 1); omega)⟩
          case measure => simp [intOf]; omega
        · refine bodyPost_ret (v := .agg #[.slice am M.length cm]) (by simp [results, Tryz.results43, go_sem, *]) rfl ⟨⟨_, M, rfl, ?_, hc, HS.out⟩, ?_⟩
          · exact (O1.out.var R1.out _).lower (Nat.le_add_right _ _)
          · exact HH.out.trans ((W1.out.setNew HN.out (Nat.le_refl _) 0 _).mono (by omega))
    · refine bodyPost_ret (v := .agg #[.slice (some ⟨la, 0, none⟩) L.length lc]) (by simp [results, Tryz.results43, go_sem, *]) rfl ⟨⟨_, L, rfl, ?_, (by omega), HL.out⟩, ?_⟩
      · exact (O9.out.var R9.out _).lower (Nat.le_add_right _ _)
      · exact HH.out.trans ((H9.out.setNew HN.out (Nat.le_refl _) 0 _).mono (by omega))
  · obtain rfl | rfl | rfl | rfl : r = 0 ∨ r = 1 ∨ r = 2 ∨ r = 3 := by omega
    · go_upto_region 4 with fail
      refine wp_region_last (n := 7) (S := (fun w' => w'.cell? ⟨b3, 0, none⟩ = some (.slice (some ⟨la, 0, none⟩) L.length lc))) (by kernel_rfl) (by kernel_rfl) c3 (fun hHeld => ?_)
      refine takeH 0 11 (.pointer (some ⟨b3, 0, none⟩)) rfl (by kernel_rfl) (by kernel_rfl) (by kernel_rfl) (by kernel_rfl) (fun _ _ _ _ h => h) hHeld (Or.inl ⟨rfl, fun w' hw => by first | rfl | (go_simp; done)⟩) ?_
      try simp only [Act.put, List.setIfInBounds_toArray, List.set_cons_zero, List.set_cons_succ]
      refine takeH 1 12 (.slice (some ⟨la, 0, none⟩) L.length lc) rfl (by kernel_rfl) (by kernel_rfl) (by kernel_rfl) (by kernel_rfl) (fun _ _ _ _ h => h) hHeld (Or.inl ⟨rfl, fun w' hw => by first | rfl | (go_simp; done)⟩) ?_
      try simp only [Act.put, List.setIfInBounds_toArray, List.set_cons_zero, List.set_cons_succ]
      refine takeH 2 13 (.pointer (some ⟨g, 0, none⟩)) rfl (by kernel_rfl) (by kernel_rfl) (by kernel_rfl) (by kernel_rfl) (fun _ _ _ _ h => h) hHeld (Or.inl ⟨rfl, fun w' hw => by first | rfl | (go_simp; done)⟩) ?_
      try simp only [Act.put, List.setIfInBounds_toArray, List.set_cons_zero, List.set_cons_succ]
      refine wpAnyH_ready (rs := [3]) (by kernel_rfl) (by simp) ?_
      refine AllReadyH.cons (o := _) rfl (fun K hK => ?_) AllReadyH.nil
      go_simp
      (go_at_call 89; refine (entry_any (w := w3.drew) (Read.refl (show Cur v m g _ w3.drew from H3.out.1)) (by omega)).mono ?_; rintro e w4 ⟨⟨pa, pc, p, t, rfl, hown, hp1, hp2, ht⟩, hd⟩)
      have H4 := Lib.hid ((show Read v m g _ w w3.drew from H3.out.to 1).trans hd)
      have O4 := Lib.hid ((show OwnD w3.drew _ _ L from O3.out).read hd hgb)
      have V4 := Lib.hid ((show VarD w3.drew _ _ from V3.out).read hd hbg)
      have R4 := Lib.hid ((show VarD w3.drew _ _ from R3.out).read hd hwg)
      have hz3 : w.heap.size + 1 ≤ w3.heap.size := by have := R3.out.lt; omega
      have U4 := Lib.hid (own_lower2 (b' := w.heap.size + 1) hown hz3)
      clear hd hown
      go_wp2_with fail
      refine hK.out _ _ V4.out.cell (fun hHeld2 => ?_)
      clear hK K hHeld
      have hHeld := hHeld2
      clear hHeld2
      try simp only [Act.put, List.setIfInBounds_toArray, List.set_cons_zero, List.set_cons_succ]
      refine wpAnyH_ready (rs := [4]) (by kernel_rfl) (by simp) ?_
      refine AllReadyH.cons (o := _) rfl (fun K hK => ?_) AllReadyH.nil
      go_simp
      refine hK.out _ _ (V4.out.alloc _).cell (fun hHeld2 => ?_)
      clear hK K hHeld
      have hHeld := hHeld2
      clear hHeld2
      try simp only [Act.put, List.setIfInBounds_toArray, List.set_cons_zero, List.set_cons_succ]
      refine wpAnyH_ready (rs := [5]) (by kernel_rfl) (by simp) ?_
      refine AllReadyH.cons (o := _) rfl (fun K hK => ?_) AllReadyH.nil
      obtain ⟨xs, hx, hD⟩ := O4.out
      have AX := Lib.hid (hx.alloc (.cells #[.slice (some ⟨pa, 0, none⟩) p.length pc, .string t] 39))
      have AV := Lib.hid (V4.out.alloc (.cells #[.slice (some ⟨pa, 0, none⟩) p.length pc, .string t] 39))
      have AR := Lib.hid (R4.out.alloc (.cells #[.slice (some ⟨pa, 0, none⟩) p.length pc, .string t] 39))
      have AH := Lib.hid (H4.out.alloc (.cells #[.slice (some ⟨pa, 0, none⟩) p.length pc, .string t] 39))
      have AU := Lib.hid (U4.out.alloc (.cells #[.slice (some ⟨pa, 0, none⟩) p.length pc, .string t] 39))
      have AD := Lib.hid (show ∀ j (h : j < L.length), ∃ u, xs[j * 2]? = some u ∧ xs[j * 2 + 1]? = some (.string (L[j]).2) ∧ (w4.alloc (.cells #[.slice (some ⟨pa, 0, none⟩) p.length pc, .string t] 39)).ownsRow (w.heap.size + 1) 3 1 u (L[j]).1.length (ints (L[j]).1) from fun j hj => by obtain ⟨u, e1, e2, e3⟩ := hD j hj; exact ⟨u, e1, e2, e3.alloc _⟩)
      have hz4 : w.heap.size + 1 ≤ w4.heap.size := by have := R4.out.lt; omega
      clear hx hD
      refine step_app_den rfl (.tmp 12) (.tmp 15) rfl (w.heap.size + 1) _ L.length xs rfl AX.out ⟨_, 0, none⟩ 1 (some ⟨pa, 0, none⟩) p.length pc t rfl (den_news _ _ _ _ _ rfl) (by omega) (by rw [World.size_alloc]; omega) ?_
      intro v6 w6 hown6 hg6
      obtain ⟨a6, c6, rfl⟩ := row_formO hown6
      have V6 := Lib.hid (AV.out.grown hg6 (AV.out.apart AX.out (by decide)))
      have cv6 := V6.out.cell
      have cf6 := V6.out.thaw 0
      have OD := OwnD.snoc (l := L) (p := p) (t := t) AX.out AD.out AU.out hown6 hg6
      have O7 := Lib.hid (OD.var V6.out (.slice a6 (L.length + 1) c6))
      have H7 := Lib.hid ((AH.out.grownNew HN.out hg6 (fun j hj => Nat.le_of_succ_le (AX.out.lt j hj).1)).setNew HN.out (show w.heap.size ≤ b3 by omega) 0 (.slice a6 (L.length + 1) c6))
      have R7 := Lib.hid ((AR.out.grown hg6 (fun e => by have := (AX.out.lt _ e).1; omega)).other hwb (i := 0) (.slice a6 (L.length + 1) c6))
      have V7 := Lib.hid (V6.out.store (.slice a6 (L.length + 1) c6))
      have HS7 := Lib.hid (HSm.out.loose.snoc p t (by omega) ht)
      refine hK.out _ _ V6.out.cell (fun hHeld2 => ?_)
      clear hK K hHeld
      have hHeld := hHeld2
      clear hHeld2
      try simp only [Act.put, List.setIfInBounds_toArray]
      refine takeH 6 17 (.pointer (some ⟨b3, 0, none⟩)) rfl (by kernel_rfl) (by kernel_rfl) (by kernel_rfl) (by kernel_rfl) (fun _ _ _ _ h => h) hHeld (Or.inl ⟨rfl, fun w' hw => by first | rfl | (go_simp; done)⟩) ?_
      try simp only [Act.put]
      refine wpAnyH_done (by kernel_rfl) ?_ _
      refine thenLast_normal (wpOp_step (o := _) rfl (fun K hK => ?_))
      go_simp
      refine hK _ _ ?_
      clear hK hHeld AX AV AR AH AU AD OD hown6 hg6 cv6 cf6 V6 O4 V4 R4 U4 H4 H3 O3 V3 R3 c3
      have hL' : (L ++ [(p, t)]).length = L.length + 1 := by rw [List.length_append]; rfl
      go_upto_region 11 with fail
      generalize L ++ [(p, t)] = L' at O7 HS7 hL'
      have cv0 := V7.out.cell
      have cf0 := V7.out.thaw 0
      have cr0 := R7.out.cell
      have cg0 := R7.out.thaw 0
      go_upto_region 12 with (go_at_call 44; refine (one_any 40 (Read.refl H7.out.1) (by omega) (by decide) (by decide)).mono ?_; rintro e y1 ⟨⟨bb, rfl⟩, hd⟩; have H9 := Lib.hid (H7.out.trans hd); have O9 := Lib.hid (O7.out.read hd hgb); have V9 := Lib.hid (V7.out.read hd hbg); have R9 := Lib.hid (R7.out.read hd hwg); have cv := V9.out.cell; have cf := V9.out.thaw 0; have cr := R9.out.cell; have cg := R9.out.thaw 0; clear hd)
      · obtain rfl : bb = true := by assumption
        clear cv0 cf0 cr0 cg0
        go_wp2
        have H8 := Lib.hid (H9.out.setNew HN.out (show w.heap.size ≤ b3 by omega) 0 (.slice none 0 0))
        have V8 := Lib.hid (V9.out.store (.slice none 0 0))
        have R8 := Lib.hid (R9.out.other hwb (i := 0) (.slice none 0 0))
        clear O9 H9 V9 R9 cv cf cr cg
        go_loopw [4] (fun n wr => ∃ (dv : Value) (M : List Ent), n = .int .i64 ((1 + M.length : Nat) : Int) ∧ M.length ≤ 41 ∧ Hid (LooseD M) ∧ Hid (VarD wr b3 dv) ∧ Hid (VarD wr w.heap.size (.slice none 0 0)) ∧ Hid (OwnD wr (w.heap.size + 1) dv M) ∧ Read v m g (B + 4000 + 2 * M.length) w wr) (fun n _ => 50 - (intOf n).toNat)
        case atStart => exact ⟨_, [], by go_num, by simp, Lib.hid LooseD.nil, V8, R8, Lib.hid (OwnD.nil _ _), H8.out.mono (by omega)⟩
        case round =>
          obtain ⟨dv, M, rfl, hc, HS, HV, HR, HO, hd⟩ := hrel
          have HW := Lib.hid hd; clear hd
          obtain ⟨am, cm, rfl⟩ := HO.out.form
          go_upto_region 16 with (go_at_call 45; refine (pick_any 2 (Read.refl HW.out.1) (by omega) (by decide) (by decide)).mono ?_; rintro e y1 ⟨⟨p, rfl, hp⟩, hd⟩; have W1 := Lib.hid (HW.out.trans hd); have O1 := Lib.hid (HO.out.read hd hgb); have V1 := Lib.hid (HV.out.read hd hbg); have R1 := Lib.hid (HR.out.read hd hwg); have cv := V1.out.cell; have cr := R1.out.cell; have cg := R1.out.thaw 0; clear hd)
          · obtain ⟨xs, hx, hD⟩ := O1.out
            have hz1' : w.heap.size + 1 ≤ y1.heap.size := by have := R1.out.lt; omega
            have hm40 : M.length ≤ 40 := by omega
            have AX := Lib.hid ((hx.alloc (.cells #[.int .i64 (1 + (M.length : Int))] 3)).alloc (.cells #[.slice (some ⟨y1.heap.size, 0, none⟩) 1 1, .string ⟨#[97]⟩] 39))
            have AV := Lib.hid ((V1.out.alloc (.cells #[.int .i64 (1 + (M.length : Int))] 3)).alloc (.cells #[.slice (some ⟨y1.heap.size, 0, none⟩) 1 1, .string ⟨#[97]⟩] 39))
            have AR := Lib.hid ((R1.out.alloc (.cells #[.int .i64 (1 + (M.length : Int))] 3)).alloc (.cells #[.slice (some ⟨y1.heap.size, 0, none⟩) 1 1, .string ⟨#[97]⟩] 39))
            have AH := Lib.hid ((W1.out.alloc (.cells #[.int .i64 (1 + (M.length : Int))] 3)).alloc (.cells #[.slice (some ⟨y1.heap.size, 0, none⟩) 1 1, .string ⟨#[97]⟩] 39))
            have AU := Lib.hid ((row_one (base := w.heap.size + 1) y1 (1 + (M.length : Int)) hz1').alloc (.cells #[.slice (some ⟨y1.heap.size, 0, none⟩) 1 1, .string ⟨#[97]⟩] 39))
            have AD := Lib.hid (show ∀ j (h : j < M.length), ∃ u, xs[j * 2]? = some u ∧ xs[j * 2 + 1]? = some (.string (M[j]).2) ∧ ((y1.alloc (.cells #[.int .i64 (1 + (M.length : Int))] 3)).alloc (.cells #[.slice (some ⟨y1.heap.size, 0, none⟩) 1 1, .string ⟨#[97]⟩] 39)).ownsRow (w.heap.size + 1) 3 1 u (M[j]).1.length (ints (M[j]).1) from fun j hj => by obtain ⟨u, e1, e2, e3⟩ := hD j hj; exact ⟨u, e1, e2, (e3.alloc _).alloc _⟩)
            clear hx hD
            go_wp2_with (at_builtin; refine app_den rfl _ _ rfl (w.heap.size + 1) _ M.length xs rfl AX.out ⟨_, 0, none⟩ 1 (some ⟨y1.heap.size, 0, none⟩) 1 1 ⟨#[97]⟩ rfl (den_news _ _ _ _ _ (World.size_alloc _ _).symm) (by omega) (by rw [World.size_alloc, World.size_alloc]; omega) ?_; intro v2 y3 hown2 hg2; obtain ⟨a2, c2, rfl⟩ := row_formO hown2; have V3 := Lib.hid (AV.out.grown hg2 (AV.out.apart AX.out (by decide))); have cv3 := V3.out.cell; have cf3 := V3.out.thaw 0)
            have OD := OwnD.snoc (l := M) (p := [1 + (M.length : Int)]) (t := ⟨#[97]⟩) AX.out AD.out AU.out hown2 hg2
            have O3 := Lib.hid (OD.var V3.out (.slice a2 (M.length + 1) c2))
            have H3 := Lib.hid ((AH.out.grownNew HN.out hg2 (fun j hj => Nat.le_of_succ_le (AX.out.lt j hj).1)).setNew HN.out (show w.heap.size ≤ b3 by omega) 0 (.slice a2 (M.length + 1) c2))
            have R3 := Lib.hid ((AR.out.grown hg2 (fun e => by have := (AX.out.lt _ e).1; omega)).other hwb (i := 0) (.slice a2 (M.length + 1) c2))
            have V4 := Lib.hid (V3.out.store (.slice a2 (M.length + 1) c2))
            have HS3 := Lib.hid (HS.out.snoc [1 + (M.length : Int)] ⟨#[97]⟩ (by simp) (by decide))
            clear OD AX AV AR AH AU AD hown2 hg2 cv3 cf3 V3 O1 V1 R1 W1 HO HV HR HW cv cr cg
            go_roundw
            case rel => exact ⟨_, M ++ [([1 + (M.length : Int)], ⟨#[97]⟩)], by rw [List.length_append]; go_num, by rw [List.length_append]; show M.length + 1 ≤ 41; omega, HS3, V4, R3, O3, by rw [List.length_append]; exact H3.out.mono (by show _ ≤ B + 4000 + 2 * (M.length + 1); omega)⟩
            case measure => simp [intOf]; omega
          · refine bodyPost_ret (v := .agg #[.slice am M.length cm]) (by simp [results, Tryz.results43, go_sem, *]) rfl ⟨⟨_, M, rfl, ?_, hc, HS.out⟩, ?_⟩
            · exact (O1.out.var R1.out _).lower (Nat.le_add_right _ _)
            · exact HH.out.trans ((W1.out.setNew HN.out (Nat.le_refl _) 0 _).mono (by omega))
      · refine bodyPost_ret (v := .agg #[.slice a6 (L.length + 1) c6]) (by simp [results, Tryz.results43, go_sem, *]) rfl ⟨⟨_, L', rfl, ?_, (by omega), HS7.out⟩, ?_⟩
        · exact (O9.out.var R9.out _).lower (Nat.le_add_right _ _)
        · exact HH.out.trans ((H9.out.setNew HN.out (Nat.le_refl _) 0 _).mono (by omega))
    · go_upto_region 6 with fail
      refine wp_region_held_drew (S := (fun w' => w'.cell? ⟨b3, 0, none⟩ = some (.slice (some ⟨la, 0, none⟩) L.length lc))) (by kernel_rfl) c3 (fun hHeld => ?_)
      refine takeH 0 20 (.pointer (some ⟨b3, 0, none⟩)) rfl (by kernel_rfl) (by kernel_rfl) (by kernel_rfl) (by kernel_rfl) (fun _ _ _ _ h => h) hHeld (Or.inl ⟨rfl, fun w' hw => by first | rfl | (go_simp; done)⟩) ?_
      try simp only [Act.put, List.setIfInBounds_toArray, List.set_cons_zero, List.set_cons_succ]
      refine takeH 1 21 (.slice (some ⟨la, 0, none⟩) L.length lc) rfl (by kernel_rfl) (by kernel_rfl) (by kernel_rfl) (by kernel_rfl) (fun _ _ _ _ h => h) hHeld (Or.inl ⟨rfl, fun w' hw => by first | rfl | (go_simp; done)⟩) ?_
      try simp only [Act.put, List.setIfInBounds_toArray, List.set_cons_zero, List.set_cons_succ]
      refine takeH 2 22 (.pointer (some ⟨g, 0, none⟩)) rfl (by kernel_rfl) (by kernel_rfl) (by kernel_rfl) (by kernel_rfl) (fun _ _ _ _ h => h) hHeld (Or.inl ⟨rfl, fun w' hw => by first | rfl | (go_simp; done)⟩) ?_
      try simp only [Act.put, List.setIfInBounds_toArray, List.set_cons_zero, List.set_cons_succ]
      refine wpAnyH_ready (rs := [3]) (by kernel_rfl) (by simp) ?_
      refine AllReadyH.cons (o := _) rfl (fun K hK => ?_) AllReadyH.nil
      go_simp
      refine hK.out _ _ (V3.out.alloc _).cell (fun hHeld2 => ?_)
      clear hK K hHeld
      have hHeld := hHeld2
      clear hHeld2
      try simp only [Act.put, List.setIfInBounds_toArray, List.set_cons_zero, List.set_cons_succ]
      refine wpAnyH_ready (rs := [4]) (by kernel_rfl) (by simp) ?_
      refine AllReadyH.cons (o := _) rfl (fun K hK => ?_) AllReadyH.nil
      go_simp
      (go_at_call 90; refine (of_lit (w := w3.drew) [⟨#[]⟩, ⟨#[123]⟩, ⟨#[97, 32, 32, 98]⟩] 1070 (Read.refl (show Cur v m g _ w3.drew from H3.out.1)) (by omega) (by decide) (by decide) (by decide) _).mono ?_; rintro e w5 ⟨⟨t, rfl, ht⟩, hd⟩)
      have H5 := Lib.hid ((show Read v m g _ w w3.drew from H3.out.to 1).trans hd)
      have O5 := Lib.hid ((show OwnD w3.drew _ _ L from O3.out).read hd hgb)
      have V5 := Lib.hid ((show VarD w3.drew _ _ from V3.out).read hd hbg)
      have R5 := Lib.hid ((show VarD w3.drew _ _ from R3.out).read hd hwg)
      clear hd
      go_wp2_with fail
      refine hK.out _ _ V5.out.cell (fun hHeld2 => ?_)
      clear hK K hHeld
      have hHeld := hHeld2
      clear hHeld2
      try simp only [Act.put, List.setIfInBounds_toArray, List.set_cons_zero, List.set_cons_succ]
      refine takeH 5 25 (.pointer (some ⟨la, 0, none⟩)) rfl (by kernel_rfl) (by kernel_rfl) (by kernel_rfl) (by kernel_rfl) (fun _ _ _ _ h => h) hHeld (Or.inl ⟨rfl, fun w' hw => by first | rfl | (go_simp; done)⟩) ?_
      try simp only [Act.put, List.setIfInBounds_toArray, List.set_cons_zero, List.set_cons_succ]
      refine takeH 6 26 (.pointer (some ⟨la, 1, none⟩)) rfl (by kernel_rfl) (by kernel_rfl) (by kernel_rfl) (by kernel_rfl) (fun _ _ _ _ h => h) hHeld (Or.inl ⟨rfl, fun w' hw => by first | rfl | (go_simp; done)⟩) ?_
      try simp only [Act.put, List.setIfInBounds_toArray, List.set_cons_zero, List.set_cons_succ]
      obtain ⟨_, _, _, hbe, d1, d2, _⟩ := ent_at O5.out.ents 0 (by omega)
      cases hbe
      have fd : w5.frozen? ⟨la, 1, none⟩ = false := by
        obtain ⟨xs, hx, _⟩ := O5.out
        exact own_thawE hx 1
      have hwl : w.heap.size ≠ la := by omega
      have O7 := Lib.hid (O5.out.setText 0 (by omega) t)
      have H7 := Lib.hid (H5.out.setNew HN.out (show w.heap.size ≤ la by omega) 1 (.string t))
      have R7 := Lib.hid (R5.out.other hwl (i := 1) (.string t))
      have V7 := Lib.hid (V5.out.other (fun e => hlb e.symm) (i := 1) (.string t))
      have HS7 := Lib.hid (HSm.out.loose.set 0 (L[0]'(by omega)).1 t (by have := HSm.out _ (List.getElem_mem (show 0 < L.length by omega)); omega) ht)
      refine wpAnyH_ready (rs := [7]) (by kernel_rfl) (by simp) ?_
      refine AllReadyH.cons (o := _) rfl (fun K hK => ?_) AllReadyH.nil
      go_simp
      refine hK.out _ _ V7.out.cell (fun hHeld2 => ?_)
      clear hK K hHeld
      have hHeld := hHeld2
      clear hHeld2
      try simp only [Act.put]
      refine wpAnyH_done (by kernel_rfl) ?_ _
      clear hHeld d1 d2 fd O5 V5 R5 H5 H3 O3 V3 R3 c3
      have hL' : (L.set 0 ((L[0]'(by omega)).1, t)).length = L.length := List.length_set
      go_upto_region 11 with fail
      generalize L.set 0 ((L[0]'(by omega)).1, t) = L' at O7 HS7 hL'
      have cv0 := V7.out.cell
      have cf0 := V7.out.thaw 0
      have cr0 := R7.out.cell
      have cg0 := R7.out.thaw 0
      go_upto_region 12 with (go_at_call 44; refine (one_any 40 (Read.refl H7.out.1) (by omega) (by decide) (by decide)).mono ?_; rintro e y1 ⟨⟨bb, rfl⟩, hd⟩; have H9 := Lib.hid (H7.out.trans hd); have O9 := Lib.hid (O7.out.read hd hgb); have V9 := Lib.hid (V7.out.read hd hbg); have R9 := Lib.hid (R7.out.read hd hwg); have cv := V9.out.cell; have cf := V9.out.thaw 0; have cr := R9.out.cell; have cg := R9.out.thaw 0; clear hd)
      · obtain rfl : bb = true := by assumption
        clear cv0 cf0 cr0 cg0
        go_wp2
        have H8 := Lib.hid (H9.out.setNew HN.out (show w.heap.size ≤ b3 by omega) 0 (.slice none 0 0))
        have V8 := Lib.hid (V9.out.store (.slice none 0 0))
        have R8 := Lib.hid (R9.out.other hwb (i := 0) (.slice none 0 0))
        clear O9 H9 V9 R9 cv cf cr cg
        go_loopw [4] (fun n wr => ∃ (dv : Value) (M : List Ent), n = .int .i64 ((1 + M.length : Nat) : Int) ∧ M.length ≤ 41 ∧ Hid (LooseD M) ∧ Hid (VarD wr b3 dv) ∧ Hid (VarD wr w.heap.size (.slice none 0 0)) ∧ Hid (OwnD wr (w.heap.size + 1) dv M) ∧ Read v m g (B + 4000 + 2 * M.length) w wr) (fun n _ => 50 - (intOf n).toNat)
        case atStart => exact ⟨_, [], by go_num, by simp, Lib.hid LooseD.nil, V8, R8, Lib.hid (OwnD.nil _ _), H8.out.mono (by omega)⟩
        case round =>
          obtain ⟨dv, M, rfl, hc, HS, HV, HR, HO, hd⟩ := hrel
          have HW := Lib.hid hd; clear hd
          obtain ⟨am, cm, rfl⟩ := HO.out.form
          go_upto_region 16 with (go_at_call 45; refine (pick_any 2 (Read.refl HW.out.1) (by omega) (by decide) (by decide)).mono ?_; rintro e y1 ⟨⟨p, rfl, hp⟩, hd⟩; have W1 := Lib.hid (HW.out.trans hd); have O1 := Lib.hid (HO.out.read hd hgb); have V1 := Lib.hid (HV.out.read hd hbg); have R1 := Lib.hid (HR.out.read hd hwg); have cv := V1.out.cell; have cr := R1.out.cell; have cg := R1.out.thaw 0; clear hd)
          · obtain ⟨xs, hx, hD⟩ := O1.out
            have hz1' : w.heap.size + 1 ≤ y1.heap.size := by have := R1.out.lt; omega
            have hm40 : M.length ≤ 40 := by omega
            have AX := Lib.hid ((hx.alloc (.cells #[.int .i64 (1 + (M.length : Int))] 3)).alloc (.cells #[.slice (some ⟨y1.heap.size, 0, none⟩) 1 1, .string ⟨#[97]⟩] 39))
            have AV := Lib.hid ((V1.out.alloc (.cells #[.int .i64 (1 + (M.length : Int))] 3)).alloc (.cells #[.slice (some ⟨y1.heap.size, 0, none⟩) 1 1, .string ⟨#[97]⟩] 39))
            have AR := Lib.hid ((R1.out.alloc (.cells #[.int .i64 (1 + (M.length : Int))] 3)).alloc (.cells #[.slice (some ⟨y1.heap.size, 0, none⟩) 1 1, .string ⟨#[97]⟩] 39))
            have AH := Lib.hid ((W1.out.alloc (.cells #[.int .i64 (1 + (M.length : Int))] 3)).alloc (.cells #[.slice (some ⟨y1.heap.size, 0, none⟩) 1 1, .string ⟨#[97]⟩] 39))
            have AU := Lib.hid ((row_one (base := w.heap.size + 1) y1 (1 + (M.length : Int)) hz1').alloc (.cells #[.slice (some ⟨y1.heap.size, 0, none⟩) 1 1, .string ⟨#[97]⟩] 39))
            have AD := Lib.hid (show ∀ j (h : j < M.length), ∃ u, xs[j * 2]? = some u ∧ xs[j * 2 + 1]? = some (.string (M[j]).2) ∧ ((y1.alloc (.cells #[.int .i64 (1 + (M.length : Int))] 3)).alloc (.cells #[.slice (some ⟨y1.heap.size, 0, none⟩) 1 1, .string ⟨#[97]⟩] 39)).ownsRow (w.heap.size + 1) 3 1 u (M[j]).1.length (ints (M[j]).1) from fun j hj => by obtain ⟨u, e1, e2, e3⟩ := hD j hj; exact ⟨u, e1, e2, (e3.alloc _).alloc _⟩)
            clear hx hD
            go_wp2_with (at_builtin; refine app_den rfl _ _ rfl (w.heap.size + 1) _ M.length xs rfl AX.out ⟨_, 0, none⟩ 1 (some ⟨y1.heap.size, 0, none⟩) 1 1 ⟨#[97]⟩ rfl (den_news _ _ _ _ _ (World.size_alloc _ _).symm) (by omega) (by rw [World.size_alloc, World.size_alloc]; omega) ?_; intro v2 y3 hown2 hg2; obtain ⟨a2, c2, rfl⟩ := row_formO hown2; have V3 := Lib.hid (AV.out.grown hg2 (AV.out.apart AX.out (by decide))); have cv3 := V3.out.cell; have cf3 := V3.out.thaw 0)
            have OD := OwnD.snoc (l := M) (p := [1 + (M.length : Int)]) (t := ⟨#[97]⟩) AX.out AD.out AU.out hown2 hg2
            have O3 := Lib.hid (OD.var V3.out (.slice a2 (M.length + 1) c2))
            have H3 := Lib.hid ((AH.out.grownNew HN.out hg2 (fun j hj => Nat.le_of_succ_le (AX.out.lt j hj).1)).setNew HN.out (show w.heap.size ≤ b3 by omega) 0 (.slice a2 (M.length + 1) c2))
            have R3 := Lib.hid ((AR.out.grown hg2 (fun e => by have := (AX.out.lt _ e).1; omega)).other hwb (i := 0) (.slice a2 (M.length + 1) c2))
            have V4 := Lib.hid (V3.out.store (.slice a2 (M.length + 1) c2))
            have HS3 := Lib.hid (HS.out.snoc [1 + (M.length : Int)] ⟨#[97]⟩ (by simp) (by decide))
            clear OD AX AV AR AH AU AD hown2 hg2 cv3 cf3 V3 O1 V1 R1 W1 HO HV HR HW cv cr cg
            go_roundw
            case rel => exact ⟨_, M ++ [([1 + (M.length : Int)], ⟨#[97]⟩)], by rw [List.length_append]; go_num, by rw [List.length_append]; show M.length + 1 ≤ 41; omega, HS3, V4, R3, O3, by rw [List.length_append]; exact H3.out.mono (by show _ ≤ B + 4000 + 2 * (M.length + 1); omega)⟩
            case measure => simp [intOf]; omega
          · refine bodyPost_ret (v := .agg #[.slice am M.length cm]) (by simp [results, Tryz.results43, go_sem, *]) rfl ⟨⟨_, M, rfl, ?_, hc, HS.out⟩, ?_⟩
            · exact (O1.out.var R1.out _).lower (Nat.le_add_right _ _)
            · exact HH.out.trans ((W1.out.setNew HN.out (Nat.le_refl _) 0 _).mono (by omega))
      · refine bodyPost_ret (v := .agg #[.slice (some ⟨la, 0, none⟩) L.length lc]) (by simp [results, Tryz.results43, go_sem, *]) rfl ⟨⟨_, L', rfl, ?_, (by omega), HS7.out⟩, ?_⟩
        · exact (O9.out.var R9.out _).lower (Nat.le_add_right _ _)
        · exact HH.out.trans ((H9.out.setNew HN.out (Nat.le_refl _) 0 _).mono (by omega))
    · go_upto_region 8 with fail
      refine wp_region_held_drew (S := (fun w' => w'.cell? ⟨b3, 0, none⟩ = some (.slice (some ⟨la, 0, none⟩) L.length lc))) (by kernel_rfl) c3 (fun hHeld => ?_)
      refine takeH 0 29 (.pointer (some ⟨b3, 0, none⟩)) rfl (by kernel_rfl) (by kernel_rfl) (by kernel_rfl) (by kernel_rfl) (fun _ _ _ _ h => h) hHeld (Or.inl ⟨rfl, fun w' hw => by first | rfl | (go_simp; done)⟩) ?_
      try simp only [Act.put, List.setIfInBounds_toArray, List.set_cons_zero, List.set_cons_succ]
      refine takeH 1 30 (.slice (some ⟨la, 0, none⟩) L.length lc) rfl (by kernel_rfl) (by kernel_rfl) (by kernel_rfl) (by kernel_rfl) (fun _ _ _ _ h => h) hHeld (Or.inl ⟨rfl, fun w' hw => by first | rfl | (go_simp; done)⟩) ?_
      try simp only [Act.put, List.setIfInBounds_toArray, List.set_cons_zero, List.set_cons_succ]
      refine takeH 2 31 (.pointer (some ⟨g, 0, none⟩)) rfl (by kernel_rfl) (by kernel_rfl) (by kernel_rfl) (by kernel_rfl) (fun _ _ _ _ h => h) hHeld (Or.inl ⟨rfl, fun w' hw => by first | rfl | (go_simp; done)⟩) ?_
      try simp only [Act.put, List.setIfInBounds_toArray, List.set_cons_zero, List.set_cons_succ]
      refine wpAnyH_ready (rs := [3]) (by kernel_rfl) (by simp) ?_
      refine AllReadyH.cons (o := _) rfl (fun K hK => ?_) AllReadyH.nil
      go_simp
      (go_at_call 91; refine (anyOutline_any (w := w3.drew) (Read.refl (show Cur v m g _ w3.drew from H3.out.1)) (by omega)).mono ?_; rintro e w5 ⟨⟨oa, oc, o, rfl, hown, ho1, ho2⟩, hd⟩)
      have H5 := Lib.hid ((show Read v m g _ w w3.drew from H3.out.to 1).trans hd)
      have O5 := Lib.hid ((show OwnD w3.drew _ _ L from O3.out).read hd hgb)
      have V5 := Lib.hid ((show VarD w3.drew _ _ from V3.out).read hd hbg)
      have R5 := Lib.hid ((show VarD w3.drew _ _ from R3.out).read hd hwg)
      have hz3 : w.heap.size + 1 ≤ w3.heap.size := by have := R3.out.lt; omega
      have U5 := Lib.hid (own_lower2 (b' := w.heap.size + 1) hown hz3)
      clear hd hown
      go_wp2_with fail
      refine hK.out _ _ V5.out.cell (fun hHeld2 => ?_)
      clear hK K hHeld
      have hHeld := hHeld2
      clear hHeld2
      try simp only [Act.put, List.setIfInBounds_toArray, List.set_cons_zero, List.set_cons_succ]
      refine takeH 4 33 (.pointer (some ⟨la, 0, none⟩)) rfl (by kernel_rfl) (by kernel_rfl) (by kernel_rfl) (by kernel_rfl) (fun _ _ _ _ h => h) hHeld (Or.inl ⟨rfl, fun w' hw => by first | rfl | (go_simp; done)⟩) ?_
      try simp only [Act.put, List.setIfInBounds_toArray, List.set_cons_zero, List.set_cons_succ]
      refine takeH 5 34 (.pointer (some ⟨la, 0, none⟩)) rfl (by kernel_rfl) (by kernel_rfl) (by kernel_rfl) (by kernel_rfl) (fun _ _ _ _ h => h) hHeld (Or.inl ⟨rfl, fun w' hw => by first | rfl | (go_simp; done)⟩) ?_
      try simp only [Act.put, List.setIfInBounds_toArray, List.set_cons_zero, List.set_cons_succ]
      obtain ⟨_, _, _, hbe, d1, d2, _⟩ := ent_at O5.out.ents 0 (by omega)
      cases hbe
      have fd : w5.frozen? ⟨la, 0, none⟩ = false := by
        obtain ⟨xs, hx, _⟩ := O5.out
        exact own_thawE hx 0
      have hwl : w.heap.size ≠ la := by omega
      have O7 := Lib.hid (O5.out.setOut 0 (by omega) _ o U5.out)
      have H7 := Lib.hid (H5.out.setNew HN.out (show w.heap.size ≤ la by omega) 0 (.slice (some ⟨oa, 0, none⟩) o.length oc))
      have R7 := Lib.hid (R5.out.other hwl (i := 0) (.slice (some ⟨oa, 0, none⟩) o.length oc))
      have V7 := Lib.hid (V5.out.other (fun e => hlb e.symm) (i := 0) (.slice (some ⟨oa, 0, none⟩) o.length oc))
      have HS7 := Lib.hid (HSm.out.loose.set 0 o (L[0]'(by omega)).2 ho2 (HSm.out _ (List.getElem_mem (show 0 < L.length by omega))).2.2)
      refine wpAnyH_ready (rs := [6]) (by kernel_rfl) (by simp) ?_
      refine AllReadyH.cons (o := _) rfl (fun K hK => ?_) AllReadyH.nil
      go_simp
      refine hK.out _ _ V7.out.cell (fun hHeld2 => ?_)
      clear hK K hHeld
      have hHeld := hHeld2
      clear hHeld2
      try simp only [Act.put]
      refine wpAnyH_done (by kernel_rfl) ?_ _
      clear hHeld d1 d2 fd O5 V5 R5 H5 H3 O3 V3 R3 c3 U5
      have hL' : (L.set 0 (o, (L[0]'(by omega)).2)).length = L.length := List.length_set
      go_upto_region 11 with fail
      generalize L.set 0 (o, (L[0]'(by omega)).2) = L' at O7 HS7 hL'
      have cv0 := V7.out.cell
      have cf0 := V7.out.thaw 0
      have cr0 := R7.out.cell
      have cg0 := R7.out.thaw 0
      go_upto_region 12 with (go_at_call 44; refine (one_any 40 (Read.refl H7.out.1) (by omega) (by decide) (by decide)).mono ?_; rintro e y1 ⟨⟨bb, rfl⟩, hd⟩; have H9 := Lib.hid (H7.out.trans hd); have O9 := Lib.hid (O7.out.read hd hgb); have V9 := Lib.hid (V7.out.read hd hbg); have R9 := Lib.hid (R7.out.read hd hwg); have cv := V9.out.cell; have cf := V9.out.thaw 0; have cr := R9.out.cell; have cg := R9.out.thaw 0; clear hd)
      · obtain rfl : bb = true := by assumption
        clear cv0 cf0 cr0 cg0
        go_wp2
        have H8 := Lib.hid (H9.out.setNew HN.out (show w.heap.size ≤ b3 by omega) 0 (.slice none 0 0))
        have V8 := Lib.hid (V9.out.store (.slice none 0 0))
        have R8 := Lib.hid (R9.out.other hwb (i := 0) (.slice none 0 0))
        clear O9 H9 V9 R9 cv cf cr cg
        go_loopw [4] (fun n wr => ∃ (dv : Value) (M : List Ent), n = .int .i64 ((1 + M.length : Nat) : Int) ∧ M.length ≤ 41 ∧ Hid (LooseD M) ∧ Hid (VarD wr b3 dv) ∧ Hid (VarD wr w.heap.size (.slice none 0 0)) ∧ Hid (OwnD wr (w.heap.size + 1) dv M) ∧ Read v m g (B + 4000 + 2 * M.length) w wr) (fun n _ => 50 - (intOf n).toNat)
        case atStart => exact ⟨_, [], by go_num, by simp, Lib.hid LooseD.nil, V8, R8, Lib.hid (OwnD.nil _ _), H8.out.mono (by omega)⟩
        case round =>
          obtain ⟨dv, M, rfl, hc, HS, HV, HR, HO, hd⟩ := hrel
          have HW := Lib.hid hd; clear hd
          obtain ⟨am, cm, rfl⟩ := HO.out.form
          go_upto_region 16 with (go_at_call 45; refine (pick_any 2 (Read.refl HW.out.1) (by omega) (by decide) (by decide)).mono ?_; rintro e y1 ⟨⟨p, rfl, hp⟩, hd⟩; have W1 := Lib.hid (HW.out.trans hd); have O1 := Lib.hid (HO.out.read hd hgb); have V1 := Lib.hid (HV.out.read hd hbg); have R1 := Lib.hid (HR.out.read hd hwg); have cv := V1.out.cell; have cr := R1.out.cell; have cg := R1.out.thaw 0; clear hd)
          · obtain ⟨xs, hx, hD⟩ := O1.out
            have hz1' : w.heap.size + 1 ≤ y1.heap.size := by have := R1.out.lt; omega
            have hm40 : M.length ≤ 40 := by omega
            have AX := Lib.hid ((hx.alloc (.cells #[.int .i64 (1 + (M.length : Int))] 3)).alloc (.cells #[.slice (some ⟨y1.heap.size, 0, none⟩) 1 1, .string ⟨#[97]⟩] 39))
            have AV := Lib.hid ((V1.out.alloc (.cells #[.int .i64 (1 + (M.length : Int))] 3)).alloc (.cells #[.slice (some ⟨y1.heap.size, 0, none⟩) 1 1, .string ⟨#[97]⟩] 39))
            have AR := Lib.hid ((R1.out.alloc (.cells #[.int .i64 (1 + (M.length : Int))] 3)).alloc (.cells #[.slice (some ⟨y1.heap.size, 0, none⟩) 1 1, .string ⟨#[97]⟩] 39))
            have AH := Lib.hid ((W1.out.alloc (.cells #[.int .i64 (1 + (M.length : Int))] 3)).alloc (.cells #[.slice (some ⟨y1.heap.size, 0, none⟩) 1 1, .string ⟨#[97]⟩] 39))
            have AU := Lib.hid ((row_one (base := w.heap.size + 1) y1 (1 + (M.length : Int)) hz1').alloc (.cells #[.slice (some ⟨y1.heap.size, 0, none⟩) 1 1, .string ⟨#[97]⟩] 39))
            have AD := Lib.hid (show ∀ j (h : j < M.length), ∃ u, xs[j * 2]? = some u ∧ xs[j * 2 + 1]? = some (.string (M[j]).2) ∧ ((y1.alloc (.cells #[.int .i64 (1 + (M.length : Int))] 3)).alloc (.cells #[.slice (some ⟨y1.heap.size, 0, none⟩) 1 1, .string ⟨#[97]⟩] 39)).ownsRow (w.heap.size + 1) 3 1 u (M[j]).1.length (ints (M[j]).1) from fun j hj => by obtain ⟨u, e1, e2, e3⟩ := hD j hj; exact ⟨u, e1, e2, (e3.alloc _).alloc _⟩)
            clear hx hD
            go_wp2_with (at_builtin; refine app_den rfl _ _ rfl (w.heap.size + 1) _ M.length xs rfl AX.out ⟨_, 0, none⟩ 1 (some ⟨y1.heap.size, 0, none⟩) 1 1 ⟨#[97]⟩ rfl (den_news _ _ _ _ _ (World.size_alloc _ _).symm) (by omega) (by rw [World.size_alloc, World.size_alloc]; omega) ?_; intro v2 y3 hown2 hg2; obtain ⟨a2, c2, rfl⟩ := row_formO hown2; have V3 := Lib.hid (AV.out.grown hg2 (AV.out.apart AX.out (by decide))); have cv3 := V3.out.cell; have cf3 := V3.out.thaw 0)
            have OD := OwnD.snoc (l := M) (p := [1 + (M.length : Int)]) (t := ⟨#[97]⟩) AX.out AD.out AU.out hown2 hg2
            have O3 := Lib.hid (OD.var V3.out (.slice a2 (M.length + 1) c2))
            have H3 := Lib.hid ((AH.out.grownNew HN.out hg2 (fun j hj => Nat.le_of_succ_le (AX.out.lt j hj).1)).setNew HN.out (show w.heap.size ≤ b3 by omega) 0 (.slice a2 (M.length + 1) c2))
            have R3 := Lib.hid ((AR.out.grown hg2 (fun e => by have := (AX.out.lt _ e).1; omega)).other hwb (i := 0) (.slice a2 (M.length + 1) c2))
            have V4 := Lib.hid (V3.out.store (.slice a2 (M.length + 1) c2))
            have HS3 := Lib.hid (HS.out.snoc [1 + (M.length : Int)] ⟨#[97]⟩ (by simp) (by decide))
            clear OD AX AV AR AH AU AD hown2 hg2 cv3 cf3 V3 O1 V1 R1 W1 HO HV HR HW cv cr cg
            go_roundw
            case rel => exact ⟨_, M ++ [([1 + (M.length : Int)], ⟨#[97]⟩)], by rw [List.length_append]; go_num, by rw [List.length_append]; show M.length + 1 ≤ 41; omega, HS3, V4, R3, O3, by rw [List.length_append]; exact H3.out.mono (by show _ ≤ B + 4000 + 2 * (M.length + 1); omega)⟩
            case measure => simp [intOf]; omega
          · refine bodyPost_ret (v := .agg #[.slice am M.length cm]) (by simp [results, Tryz.results43, go_sem, *]) rfl ⟨⟨_, M, rfl, ?_, hc, HS.out⟩, ?_⟩
            · exact (O1.out.var R1.out _).lower (Nat.le_add_right _ _)
            · exact HH.out.trans ((W1.out.setNew HN.out (Nat.le_refl _) 0 _).mono (by omega))
      · refine bodyPost_ret (v := .agg #[.slice (some ⟨la, 0, none⟩) L.length lc]) (by simp [results, Tryz.results43, go_sem, *]) rfl ⟨⟨_, L', rfl, ?_, (by omega), HS7.out⟩, ?_⟩
        · exact (O9.out.var R9.out _).lower (Nat.le_add_right _ _)
        · exact HH.out.trans ((H9.out.setNew HN.out (Nat.le_refl _) 0 _).mono (by omega))
    · rw [show ((3 : Nat) : Int) = 3 from rfl]
      have cf3 := V3.out.thaw 0
      go_upto_region 11 with fail
      have O7 := Lib.hid (OwnD.nil (w3.setCell ⟨b3, 0, none⟩ (.slice none 0 0)) (w.heap.size + 1))
      have H7 := Lib.hid (H3.out.setNew HN.out (show w.heap.size ≤ b3 by omega) 0 (.slice none 0 0))
      have R7 := Lib.hid (R3.out.other hwb (i := 0) (.slice none 0 0))
      have V7 := Lib.hid (V3.out.store (.slice none 0 0))
      have HS7 := Lib.hid LooseD.nil
      clear H3 O3 R3 V3 c3 cf3
      have hL' : ([] : List Ent).length = 0 := rfl
      generalize ([] : List Ent) = L' at O7 HS7 hL'
      have cv0 := V7.out.cell
      have cf0 := V7.out.thaw 0
      have cr0 := R7.out.cell
      have cg0 := R7.out.thaw 0
      go_upto_region 12 with (go_at_call 44; refine (one_any 40 (Read.refl H7.out.1) (by omega) (by decide) (by decide)).mono ?_; rintro e y1 ⟨⟨bb, rfl⟩, hd⟩; have H9 := Lib.hid (H7.out.trans hd); have O9 := Lib.hid (O7.out.read hd hgb); have V9 := Lib.hid (V7.out.read hd hbg); have R9 := Lib.hid (R7.out.read hd hwg); have cv := V9.out.cell; have cf := V9.out.thaw 0; have cr := R9.out.cell; have cg := R9.out.thaw 0; clear hd)
      · obtain rfl : bb = true := by assumption
        clear cv0 cf0 cr0 cg0
        go_wp2
        have H8 := Lib.hid (H9.out.setNew HN.out (show w.heap.size ≤ b3 by omega) 0 (.slice none 0 0))
        have V8 := Lib.hid (V9.out.store (.slice none 0 0))
        have R8 := Lib.hid (R9.out.other hwb (i := 0) (.slice none 0 0))
        clear O9 H9 V9 R9 cv cf cr cg
        go_loopw [4] (fun n wr => ∃ (dv : Value) (M : List Ent), n = .int .i64 ((1 + M.length : Nat) : Int) ∧ M.length ≤ 41 ∧ Hid (LooseD M) ∧ Hid (VarD wr b3 dv) ∧ Hid (VarD wr w.heap.size (.slice none 0 0)) ∧ Hid (OwnD wr (w.heap.size + 1) dv M) ∧ Read v m g (B + 4000 + 2 * M.length) w wr) (fun n _ => 50 - (intOf n).toNat)
        case atStart => exact ⟨_, [], by go_num, by simp, Lib.hid LooseD.nil, V8, R8, Lib.hid (OwnD.nil _ _), H8.out.mono (by omega)⟩
        case round =>
          obtain ⟨dv, M, rfl, hc, HS, HV, HR, HO, hd⟩ := hrel
          have HW := Lib.hid hd; clear hd
          obtain ⟨am, cm, rfl⟩ := HO.out.form
          go_upto_region 16 with (go_at_call 45; refine (pick_any 2 (Read.refl HW.out.1) (by omega) (by decide) (by decide)).mono ?_; rintro e y1 ⟨⟨p, rfl, hp⟩, hd⟩; have W1 := Lib.hid (HW.out.trans hd); have O1 := Lib.hid (HO.out.read hd hgb); have V1 := Lib.hid (HV.out.read hd hbg); have R1 := Lib.hid (HR.out.read hd hwg); have cv := V1.out.cell; have cr := R1.out.cell; have cg := R1.out.thaw 0; clear hd)
          · obtain ⟨xs, hx, hD⟩ := O1.out
            have hz1' : w.heap.size + 1 ≤ y1.heap.size := by have := R1.out.lt; omega
            have hm40 : M.length ≤ 40 := by omega
            have AX := Lib.hid ((hx.alloc (.cells #[.int .i64 (1 + (M.length : Int))] 3)).alloc (.cells #[.slice (some ⟨y1.heap.size, 0, none⟩) 1 1, .string ⟨#[97]⟩] 39))
            have AV := Lib.hid ((V1.out.alloc (.cells #[.int .i64 (1 + (M.length : Int))] 3)).alloc (.cells #[.slice (some ⟨y1.heap.size, 0, none⟩) 1 1, .string ⟨#[97]⟩] 39))
            have AR := Lib.hid ((R1.out.alloc (.cells #[.int .i64 (1 + (M.length : Int))] 3)).alloc (.cells #[.slice (some ⟨y1.heap.size, 0, none⟩) 1 1, .string ⟨#[97]⟩] 39))
            have AH := Lib.hid ((W1.out.alloc (.cells #[.int .i64 (1 + (M.length : Int))] 3)).alloc (.cells #[.slice (some ⟨y1.heap.size, 0, none⟩) 1 1, .string ⟨#[97]⟩] 39))
            have AU := Lib.hid ((row_one (base := w.heap.size + 1) y1 (1 + (M.length : Int)) hz1').alloc (.cells #[.slice (some ⟨y1.heap.size, 0, none⟩) 1 1, .string ⟨#[97]⟩] 39))
            have AD := Lib.hid (show ∀ j (h : j < M.length), ∃ u, xs[j * 2]? = some u ∧ xs[j * 2 + 1]? = some (.string (M[j]).2) ∧ ((y1.alloc (.cells #[.int .i64 (1 + (M.length : Int))] 3)).alloc (.cells #[.slice (some ⟨y1.heap.size, 0, none⟩) 1 1, .string ⟨#[97]⟩] 39)).ownsRow (w.heap.size + 1) 3 1 u (M[j]).1.length (ints (M[j]).1) from fun j hj => by obtain ⟨u, e1, e2, e3⟩ := hD j hj; exact ⟨u, e1, e2, (e3.alloc _).alloc _⟩)
            clear hx hD
            go_wp2_with (at_builtin; refine app_den rfl _ _ rfl (w.heap.size + 1) _ M.length xs rfl AX.out ⟨_, 0, none⟩ 1 (some ⟨y1.heap.size, 0, none⟩) 1 1 ⟨#[97]⟩ rfl (den_news _ _ _ _ _ (World.size_alloc _ _).symm) (by omega) (by rw [World.size_alloc, World.size_alloc]; omega) ?_; intro v2 y3 hown2 hg2; obtain ⟨a2, c2, rfl⟩ := row_formO hown2; have V3 := Lib.hid (AV.out.grown hg2 (AV.out.apart AX.out (by decide))); have cv3 := V3.out.cell; have cf3 := V3.out.thaw 0)
            have OD := OwnD.snoc (l := M) (p := [1 + (M.length : Int)]) (t := ⟨#[97]⟩) AX.out AD.out AU.out hown2 hg2
            have O3 := Lib.hid (OD.var V3.out (.slice a2 (M.length + 1) c2))
            have H3 := Lib.hid ((AH.out.grownNew HN.out hg2 (fun j hj => Nat.le_of_succ_le (AX.out.lt j hj).1)).setNew HN.out (show w.heap.size ≤ b3 by omega) 0 (.slice a2 (M.length + 1) c2))
            have R3 := Lib.hid ((AR.out.grown hg2 (fun e => by have := (AX.out.lt _ e).1; omega)).other hwb (i := 0) (.slice a2 (M.length + 1) c2))
            have V4 := Lib.hid (V3.out.store (.slice a2 (M.length + 1) c2))
            have HS3 := Lib.hid (HS.out.snoc [1 + (M.length : Int)] ⟨#[97]⟩ (by simp) (by decide))
            clear OD AX AV AR AH AU AD hown2 hg2 cv3 cf3 V3 O1 V1 R1 W1 HO HV HR HW cv cr cg
            go_roundw
            case rel => exact ⟨_, M ++ [([1 + (M.length : Int)], ⟨#[97]⟩)], by rw [List.length_append]; go_num, by rw [List.length_append]; show M.length + 1 ≤ 41; omega, HS3, V4, R3, O3, by rw [List.length_append]; exact H3.out.mono (by show _ ≤ B + 4000 + 2 * (M.length + 1); omega)⟩
            case measure => simp [intOf]; omega
          · refine bodyPost_ret (v := .agg #[.slice am M.length cm]) (by simp [results, Tryz.results43, go_sem, *]) rfl ⟨⟨_, M, rfl, ?_, hc, HS.out⟩, ?_⟩
            · exact (O1.out.var R1.out _).lower (Nat.le_add_right _ _)
            · exact HH.out.trans ((W1.out.setNew HN.out (Nat.le_refl _) 0 _).mono (by omega))
      · refine bodyPost_ret (v := .agg #[.slice none 0 0]) (by simp [results, Tryz.results43, go_sem, *]) rfl ⟨⟨_, L', rfl, ?_, (by omega), HS7.out⟩, ?_⟩
        · exact (O9.out.var R9.out _).lower (Nat.le_add_right _ _)
        · exact HH.out.trans ((H9.out.setNew HN.out (Nat.le_refl _) 0 _).mono (by omega))

end Go.Proofs.YtdidgaibgkdjoaaGreatDoor
