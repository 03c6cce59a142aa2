/-
  CONTRACT: the screen of strokes, by the reference: l14Screen, ScreenOf.
-/
import Derived.Test.YtdidgaibgkdjoaaGreatDoorScrS
import Derived.Test.YtdidgaibgkdjoaaGreatDoorBasA
import Derived.Deep.RegionLaw
namespace Go.Proofs.YtdidgaibgkdjoaaGreatDoor
open Go.RowKit

theorem own_neS {w : World} {b R : Nat} {E : TypeId} {s n : Nat} {v : Value} {xs : List Value} (h : w.ownsRow b E s v n xs) (hR : R < b) : v.ownBlock = none ∨ v.ownBlock ≠ some R := by
  cases hv : v.ownBlock with
  | none => exact .inl rfl
  | some k => exact .inr (fun e => by have := (h.lt k hv).1; injection e with e; omega)
theorem sc_told {l : List At2} {n : Nat} {s : Pl.Sta} (h : ScAt l n s) (hz : s.t.size ≤ 2000) : 0 ≤ s.k ∧ s.k ≤ s.t.size := by
  have h1 := Pl.sOk_told (h.told hz).2
  exact ⟨h1.2.2.2.2.1, h1.2.2.2.2.2⟩
def RetScr (w : World) (A : List At2) (e : Ending) (w' : World) : Prop :=
  ∃ t, e = .returned (.tuple #[.string t, .bool (Pl.renderOk A)]) ∧ (Pl.renderOk A = true → t = Pl.renderOut A) ∧ Below w.heap.size w w'

set_option maxRecDepth 20000 in
set_option maxHeartbeats 3200000 in
theorem l14Screen_any (v vo : Value) (l : List Ent) (o : List Int) (w : World) (hr : Ents w v l) (hl : l.length ≤ 1048576) (hs : ∀ p ∈ l, p.1.length ≤ 1048576) (ho : Rows w vo o.length 1 (ints o)) (hmat : matOk l o = true) :
    Calls Tryz.prog 80 #[.agg #[v], vo] w (RetScr w (scAtoms l o)) := by
  have HB0 := Lib.hid (Joins.below_alloc1 w (.cells #[v] 26))
  have HE := Lib.hid (hr.keep HB0.out)
  have HO0 := Lib.hid (ho.keep HB0.out)
  have HG := Lib.hid (fun W h1 h2 => l14Atoms_any v vo l o W h1 hl hs h2 hmat)
  have HSz := Lib.hid (show ∀ p ∈ scAtoms l o, p.2.size ≤ 24 from pcsAtoms_sz o (segs l o))
  have hle := scAtoms_len hmat
  obtain ⟨a, cap, rfl, _, _⟩ := ent_form hr
  obtain ⟨ao, co, rfl, hco, _⟩ := rows_form ho
  have HC := Lib.hid (show (w.alloc (.cells #[.slice a l.length cap] 26)).cell? ⟨w.heap.size, 0, none⟩ = some (.slice a l.length cap) by simp [go_sem])
  unfold RetScr
  unfold RetRow at HG
  clear hr hs ho hmat
  generalize scAtoms l o = A at HG HSz hle ⊢
  go_enter Tryz.func80, Tryz.ntmps80
  go_upto_region 1 with fail
  obtain ⟨W0, hW0⟩ : ∃ W0, W0 = w.alloc (.cells #[.slice a l.length cap] 26) := ⟨_, rfl⟩
  rw [← hW0] at HB0 HE HC HO0 ⊢
  have HW := Lib.hid (show w.heap.size ≤ W0.heap.size from HB0.out.size)
  clear hW0
  go_upto_region 2 with (go_at_call 124; refine (l12New_none _).mono ?_; rintro e w1 ⟨rfl, hb1⟩; have HB1 := Lib.hid hb1; clear hb1)
  have HS1 := Lib.hid (St.new w1 ⟨#[]⟩ true false 0 0 156)
  have HBq := Lib.hid (HB1.out.trans ((Joins.below_alloc1 w1 (.cells #[.string ⟨#[]⟩, .bool true, .bool false, .int .i64 0, .int .i64 0] 156)).mono HB1.out.size))
  have HL1 := Lib.hid (show w1.heap.size < (w1.alloc (.cells #[.string ⟨#[]⟩, .bool true, .bool false, .int .i64 0, .int .i64 0] 156)).heap.size by rw [World.size_alloc]; exact Nat.lt_succ_self _)
  have HS0 := Lib.hid HB1.out.size
  generalize w1.alloc (.cells #[.string ⟨#[]⟩, .bool true, .bool false, .int .i64 0, .int .i64 0] 156) = W2 at HS1 HBq HL1 ⊢
  generalize w1.heap.size = bs at HS1 HL1 HS0 ⊢
  clear HB1
  have q0 := keepcT HBq.out HC.out
  go_upto_region 4 with (go_at_call 125; (with_reducible refine (HG.out _ (HE.out.keep HBq.out) (HO0.out.keep HBq.out)).mono ?_); rintro e w3 ⟨vp, rfl, hown, hb3⟩; have HS3 := Lib.hid (HS1.out.keep hb3); have HR3 := Lib.hid hown; have HB3 := Lib.hid (HBq.out.trans (hb3.mono HBq.out.size)); clear hb3 hown)
  obtain ⟨aa, ca, rfl⟩ := row_formK HR3.out
  clear HG HE HO0 HC HBq q0
  go_loopw [8] (fun i wr => ∃ (n : Nat) (s : Pl.Sta), n ≤ A.length ∧ i = .int .i64 n ∧ Hid (ScAt A n s) ∧ St wr bs s ∧ Hid (wr.ownsRow W2.heap.size 161 2 (.slice aa A.length ca) A.length (folds A)) ∧ Below W0.heap.size W0 wr) (fun i _ => A.length - (intOf i).toNat)
  case atStart => exact ⟨0, _, Nat.zero_le _, rfl, Lib.hid (sc_start A), HS3.out, HR3, HB3.out⟩
  clear HS1 HS3 HR3 HB3
  case round =>
    obtain ⟨n, s, hn, rfl, HA, hs, HR, hb⟩ := hrel
    have S := Lib.hid hs; have B := Lib.hid hb
    clear hs hb
    have lt1 := S.out.lt
    have ssz := HA.out.size
    by_cases hlt : n < A.length
    · obtain ⟨b, off, rfl, c1, c2⟩ := fold_cells (rows_cellsS (Rows.of_own HR.out)) n hlt
      have hx := HSz.out _ (List.getElem_mem hlt)
      have hki : (n : Int) < (A.length : Int) := by omega
      have hn0 : (0 : Int) ≤ (n : Int) := by omega
      obtain ⟨s0, s1, s2, s3, s4, sf⟩ := S.out
      unfold thawed at sf
      have HGd := Lib.hid (fun W => l5Good_any A[n].1 A[n].2 W (by unfold maxLen; omega))
      by_cases hz : s.t.size ≤ 2000
      · cases hg : Pl.atomOk A[n].1 A[n].2
        · have E := Lib.hid (sc_fail (HA.out.bad hlt hg))
          rw [hg] at HGd
          obtain ⟨st, sj, sg, sc, sk⟩ := s
          dsimp only at s0 s1 s2 s3 s4 ssz hz
          generalize A[n] = p at c1 c2 hx HGd
          obtain ⟨pa, px⟩ := p
          dsimp only at HGd c1 c2
          clear HA hx hg
          go_wp2_with (go_at_call 126; refine (HGd.out _).mono ?_; rintro e w4 ⟨rfl, hb4⟩; have B4 := Lib.hid (below_nx B.out hb4); clear hb4)
          go_ret2
          exact ⟨⟨#[]⟩, ret_strb rfl E.out.1.symm, fun h => by rw [E.out.1] at h; exact absurd h (by decide), HB0.out.trans (B4.out.mono HW.out)⟩
        · have hk := sc_told HA.out hz
          have HAp := Lib.hid (fun W => l12Apply_any s.t s.j s.g s.c s.k A[n].1 A[n].2 W (by omega) (by omega) hk.1 hk.2 hg)
          have HNx := Lib.hid (HA.out.next hlt hz hg)
          rw [hg] at HGd
          have e0 : Pl.ap ⟨s.t, s.j, s.g, s.c, s.k⟩ A[n].1 A[n].2 = Pl.ap s A[n].1 A[n].2 := rfl
          rw [e0] at HAp
          clear e0 HA hk hg
          obtain ⟨st, sj, sg, sc, sk⟩ := s
          dsimp only at s0 s1 s2 s3 s4 ssz hz HAp
          generalize Pl.ap ⟨st, sj, sg, sc, sk⟩ A[n].1 A[n].2 = r at HAp HNx
          have HP := Lib.hid (show A[n] = A[n] from rfl)
          generalize hp : A[n] = p at c1 c2 hx HGd HAp
          obtain ⟨pa, px⟩ := p
          obtain ⟨rt, rj, rg, rc, rk⟩ := r
          dsimp only at HGd HAp c1 c2
          clear HP
          have HP := Lib.hid hp
          clear hx hp
          go_upto_region 8 with (go_at_call 126; refine (HGd.out _).mono ?_; rintro e w4 ⟨rfl, hb4⟩; have B4 := Lib.hid (below_nx B.out hb4); have S4 := Lib.hid (S.out.keep hb4); have R4 := Lib.hid (own_keep HR.out hb4); clear s0 s1 s2 s3 s4 sf c1 c2 hb4; obtain ⟨s0, s1, s2, s3, s4, sf⟩ := S4.out; dsimp only at s0 s1 s2 s3 s4; unfold thawed at sf)
          obtain ⟨b2, off2, eab, c1, c2⟩ := fold_cells (rows_cellsS (Rows.of_own R4.out)) n hlt
          cases eab
          rw [HP.out] at c1 c2
          dsimp only at c1 c2
          go_region_law (first | (go_simp; go_at_call 127; refine (HAp.out _).mono ?_; rintro e w2 ⟨rfl, hb2⟩; have S2 := Lib.hid (S4.out.drew.keep hb2); have R2 := Lib.hid (own_keep (w := w4.drew) R4.out hb2); have B2 := Lib.hid (below_nx (below_drew1 B4.out) hb2); clear hb2 s0 s1 s2 s3 s4 sf c1 c2; have z2 := S2.out.lt; obtain ⟨s0, s1, s2, s3, s4, sf⟩ := S2.out; dsimp only at s0 s1 s2 s3 s4; unfold thawed at sf))
          all_goals go_wp2
          all_goals go_roundw
          all_goals first | (case measure => simp [intOf]; omega) | (case rel =>
            have hs := St.set S2.out ⟨rt, rj, rg, rc, rk⟩
            have hB3 := B2.out.grown hs.2 B2.out.size (fun q hq => by injection hq with hq; have := HS0.out; omega)
            have hR3 := R2.out.kept hs.2 (own_neS R2.out HL1.out)
            refine ⟨n + 1, _, by omega, by go_num, HNx, ?_, Lib.hid ?_, ?_⟩
            · with_reducible exact hs.1
            · with_reducible exact hR3
            · with_reducible exact hB3)
      · have E := Lib.hid (sc_fail (HA.out.long hz))
        obtain ⟨st, sj, sg, sc, sk⟩ := s
        dsimp only at s0 s1 s2 s3 s4 ssz hz
        have hz' : (2000 : Int) < (st.size : Int) := by omega
        generalize Pl.atomOk A[n].1 A[n].2 = ag at HGd
        generalize A[n] = p at c1 c2 hx HGd
        obtain ⟨pa, px⟩ := p
        dsimp only at HGd c1 c2
        clear HA hx
        cases ag
        · go_wp2_with (go_at_call 126; refine (HGd.out _).mono ?_; rintro e w4 ⟨rfl, hb4⟩; have B4 := Lib.hid (below_nx B.out hb4); clear hb4)
          go_ret2
          exact ⟨⟨#[]⟩, ret_strb rfl E.out.1.symm, fun h => by rw [E.out.1] at h; exact absurd h (by decide), HB0.out.trans (B4.out.mono HW.out)⟩
        · go_wp2_with (go_at_call 126; refine (HGd.out _).mono ?_; rintro e w4 ⟨rfl, hb4⟩; have B4 := Lib.hid (below_nx B.out hb4); have d0 := keepcT hb4 s0; clear hb4)
          go_ret2
          exact ⟨⟨#[]⟩, ret_strb rfl E.out.1.symm, fun h => by rw [E.out.1] at h; exact absurd h (by decide), HB0.out.trans (B4.out.mono HW.out)⟩
    · obtain rfl : n = A.length := by omega
      have E := Lib.hid (sc_end HA.out hle)
      have hle2 : (A.length : Int) ≤ 600 := by omega
      obtain ⟨s0, s1, s2, s3, s4, sf⟩ := S.out
      obtain ⟨st, sj, sg, sc, sk⟩ := s
      dsimp only at s0 s1 s2 s3 s4 ssz E
      have HGd := Lib.hid (fun W => l12Good_any st sj sg sc sk W (by unfold maxLen; omega))
      have Ev : Hid (Pl.validState st sc sk = Pl.renderOk A ∧ (Pl.renderOk A = true → st = Pl.renderOut A)) := Lib.hid ⟨E.out.1.symm, fun h => (E.out.2 (E.out.1.symm.trans h)).symm⟩
      generalize Pl.validState st sc sk = ok at HGd Ev
      clear HA sf E
      cases ok
      · go_upto_region 9 with fail
        refine wp_region_held_drew (S := fun w' => w'.cell? ⟨bs, 0, none⟩ = some (.string st) ∧ w'.cell? ⟨bs, 1, none⟩ = some (.bool sj) ∧ w'.cell? ⟨bs, 2, none⟩ = some (.bool sg) ∧ w'.cell? ⟨bs, 3, none⟩ = some (.int .i64 sc) ∧ w'.cell? ⟨bs, 4, none⟩ = some (.int .i64 sk)) (by kernel_rfl) ⟨s0, s1, s2, s3, s4⟩ (fun hHeld => ?_)
        refine takeH 0 37 (.pointer (some ⟨bs, 0, none⟩)) rfl (by kernel_rfl) (by kernel_rfl) (by kernel_rfl) (by kernel_rfl) (fun _ _ _ _ h => h) hHeld (Or.inl ⟨rfl, fun w' hw => by obtain ⟨hw0, hw1, hw2, hw3, hw4⟩ := hw; first | rfl | (go_simp; done)⟩) ?_
        (try simp only [Act.put, List.setIfInBounds_toArray, List.set_cons_zero, List.set_cons_succ])
        refine takeH 1 38 (.string st) rfl (by kernel_rfl) (by kernel_rfl) (by kernel_rfl) (by kernel_rfl) (fun _ _ _ _ h => h) hHeld (Or.inl ⟨rfl, fun w' hw => by obtain ⟨hw0, hw1, hw2, hw3, hw4⟩ := hw; first | rfl | (go_simp; done)⟩) ?_
        (try simp only [Act.put, List.setIfInBounds_toArray, List.set_cons_zero, List.set_cons_succ])
        refine takeH 2 39 (.agg #[.string st, .bool sj, .bool sg, .int .i64 sc, .int .i64 sk]) rfl (by kernel_rfl) (by kernel_rfl) (by kernel_rfl) (by kernel_rfl) (fun _ _ _ _ h => h) hHeld (Or.inl ⟨rfl, fun w' hw => by obtain ⟨hw0, hw1, hw2, hw3, hw4⟩ := hw; first | rfl | (go_simp; done)⟩) ?_
        (try simp only [Act.put, List.setIfInBounds_toArray, List.set_cons_zero, List.set_cons_succ])
        refine wpAnyH_ready (rs := [3]) (by kernel_rfl) (by simp) ?_
        refine AllReadyH.cons (o := _) rfl (fun K hK => ?_) AllReadyH.nil
        go_simp
        (go_at_call 128; refine (HGd.out _).mono ?_; rintro e w2 ⟨rfl, hb2⟩; have B2 := Lib.hid (below_nx (below_drew1 B.out) hb2); have t0 := keepcT hb2 s0; have t1 := keepcT hb2 s1; have t2 := keepcT hb2 s2; have t3 := keepcT hb2 s3; have t4 := keepcT hb2 s4; clear hb2)
        go_wp2_with fail
        refine hK.out _ _ ⟨t0, t1, t2, t3, t4⟩ (fun hHeld2 => ?_)
        clear hK K hHeld
        have hHeld := hHeld2
        clear hHeld2
        (try simp only [Act.put, List.setIfInBounds_toArray, List.set_cons_zero, List.set_cons_succ])
        refine takeH 4 41 (.bool false) rfl (by kernel_rfl) (by kernel_rfl) (by kernel_rfl) (by kernel_rfl) (fun _ _ _ _ h => h) hHeld (Or.inl ⟨rfl, fun w' hw => by obtain ⟨hw0, hw1, hw2, hw3, hw4⟩ := hw; first | rfl | (go_simp; done)⟩) ?_
        (try simp only [Act.put, List.setIfInBounds_toArray, List.set_cons_zero, List.set_cons_succ])
        refine skipsH (by kernel_rfl) [(5, 42), (6, 43), (7, 44)] _ _ _ _ (by kernel_rfl) (fun _ _ _ _ h => h) hHeld ?_
        (try simp only [Act.put, List.foldl_cons, List.foldl_nil, List.setIfInBounds_toArray, List.set_cons_zero, List.set_cons_succ])
        refine takeH 8 45 (.bool false) rfl (by kernel_rfl) (by kernel_rfl) (by kernel_rfl) (by kernel_rfl) (fun _ _ _ _ h => h) hHeld (Or.inl ⟨rfl, fun w' hw => by obtain ⟨hw0, hw1, hw2, hw3, hw4⟩ := hw; first | rfl | (go_simp; done)⟩) ?_
        (try simp only [Act.put, List.setIfInBounds_toArray, List.set_cons_zero, List.set_cons_succ])
        refine takeH 9 4 (.string st) rfl (by kernel_rfl) (by kernel_rfl) (by kernel_rfl) (by kernel_rfl) (fun _ _ _ _ h => h) hHeld (Or.inl ⟨rfl, fun w' hw => by obtain ⟨hw0, hw1, hw2, hw3, hw4⟩ := hw; first | rfl | (go_simp; done)⟩) ?_
        (try simp only [Act.put, List.setIfInBounds_toArray, List.set_cons_zero, List.set_cons_succ])
        refine takeH 10 5 (.bool false) rfl (by kernel_rfl) (by kernel_rfl) (by kernel_rfl) (by kernel_rfl) (fun _ _ _ _ h => h) hHeld (Or.inl ⟨rfl, fun w' hw => by obtain ⟨hw0, hw1, hw2, hw3, hw4⟩ := hw; first | rfl | (go_simp; done)⟩) ?_
        (try simp only [Act.put, List.setIfInBounds_toArray, List.set_cons_zero, List.set_cons_succ])
        refine wpAnyH_done (by kernel_rfl) ?_ _
        go_wp2_with fail
        go_ret2
        exact ⟨st, ret_strb rfl Ev.out.1, Ev.out.2, HB0.out.trans (B2.out.mono HW.out)⟩
      · go_upto_region 9 with fail
        refine wp_region_held_drew (S := fun w' => w'.cell? ⟨bs, 0, none⟩ = some (.string st) ∧ w'.cell? ⟨bs, 1, none⟩ = some (.bool sj) ∧ w'.cell? ⟨bs, 2, none⟩ = some (.bool sg) ∧ w'.cell? ⟨bs, 3, none⟩ = some (.int .i64 sc) ∧ w'.cell? ⟨bs, 4, none⟩ = some (.int .i64 sk)) (by kernel_rfl) ⟨s0, s1, s2, s3, s4⟩ (fun hHeld => ?_)
        refine takeH 0 37 (.pointer (some ⟨bs, 0, none⟩)) rfl (by kernel_rfl) (by kernel_rfl) (by kernel_rfl) (by kernel_rfl) (fun _ _ _ _ h => h) hHeld (Or.inl ⟨rfl, fun w' hw => by obtain ⟨hw0, hw1, hw2, hw3, hw4⟩ := hw; first | rfl | (go_simp; done)⟩) ?_
        (try simp only [Act.put, List.setIfInBounds_toArray, List.set_cons_zero, List.set_cons_succ])
        refine takeH 1 38 (.string st) rfl (by kernel_rfl) (by kernel_rfl) (by kernel_rfl) (by kernel_rfl) (fun _ _ _ _ h => h) hHeld (Or.inl ⟨rfl, fun w' hw => by obtain ⟨hw0, hw1, hw2, hw3, hw4⟩ := hw; first | rfl | (go_simp; done)⟩) ?_
        (try simp only [Act.put, List.setIfInBounds_toArray, List.set_cons_zero, List.set_cons_succ])
        refine takeH 2 39 (.agg #[.string st, .bool sj, .bool sg, .int .i64 sc, .int .i64 sk]) rfl (by kernel_rfl) (by kernel_rfl) (by kernel_rfl) (by kernel_rfl) (fun _ _ _ _ h => h) hHeld (Or.inl ⟨rfl, fun w' hw => by obtain ⟨hw0, hw1, hw2, hw3, hw4⟩ := hw; first | rfl | (go_simp; done)⟩) ?_
        (try simp only [Act.put, List.setIfInBounds_toArray, List.set_cons_zero, List.set_cons_succ])
        refine wpAnyH_ready (rs := [3]) (by kernel_rfl) (by simp) ?_
        refine AllReadyH.cons (o := _) rfl (fun K hK => ?_) AllReadyH.nil
        go_simp
        (go_at_call 128; refine (HGd.out _).mono ?_; rintro e w2 ⟨rfl, hb2⟩; have B2 := Lib.hid (below_nx (below_drew1 B.out) hb2); have t0 := keepcT hb2 s0; have t1 := keepcT hb2 s1; have t2 := keepcT hb2 s2; have t3 := keepcT hb2 s3; have t4 := keepcT hb2 s4; clear hb2)
        go_wp2_with fail
        refine hK.out _ _ ⟨t0, t1, t2, t3, t4⟩ (fun hHeld2 => ?_)
        clear hK K hHeld
        have hHeld := hHeld2
        clear hHeld2
        (try simp only [Act.put, List.setIfInBounds_toArray, List.set_cons_zero, List.set_cons_succ])
        refine takeH 4 41 (.bool true) rfl (by kernel_rfl) (by kernel_rfl) (by kernel_rfl) (by kernel_rfl) (fun _ _ _ _ h => h) hHeld (Or.inl ⟨rfl, fun w' hw => by obtain ⟨hw0, hw1, hw2, hw3, hw4⟩ := hw; first | rfl | (go_simp; done)⟩) ?_
        (try simp only [Act.put, List.setIfInBounds_toArray, List.set_cons_zero, List.set_cons_succ])
        refine takeH 5 42 (.slice aa A.length ca) rfl (by kernel_rfl) (by kernel_rfl) (by kernel_rfl) (by kernel_rfl) (fun _ _ _ _ h => h) hHeld (Or.inl ⟨rfl, fun w' hw => by obtain ⟨hw0, hw1, hw2, hw3, hw4⟩ := hw; first | rfl | (go_simp; done)⟩) ?_
        (try simp only [Act.put, List.setIfInBounds_toArray, List.set_cons_zero, List.set_cons_succ])
        refine takeH 6 43 (.int .i64 (A.length : Int)) rfl (by kernel_rfl) (by kernel_rfl) (by kernel_rfl) (by kernel_rfl) (fun _ _ _ _ h => h) hHeld (Or.inl ⟨rfl, fun w' hw => by obtain ⟨hw0, hw1, hw2, hw3, hw4⟩ := hw; first | rfl | (go_simp; done)⟩) ?_
        (try simp only [Act.put, List.setIfInBounds_toArray, List.set_cons_zero, List.set_cons_succ])
        refine takeH 7 44 (.bool true) rfl (by kernel_rfl) (by kernel_rfl) (by kernel_rfl) (by kernel_rfl) (fun _ _ _ _ h => h) hHeld (Or.inl ⟨rfl, fun w' hw => by obtain ⟨hw0, hw1, hw2, hw3, hw4⟩ := hw; first | rfl | (go_simp; done)⟩) ?_
        (try simp only [Act.put, List.setIfInBounds_toArray, List.set_cons_zero, List.set_cons_succ])
        refine takeH 8 45 (.bool true) rfl (by kernel_rfl) (by kernel_rfl) (by kernel_rfl) (by kernel_rfl) (fun _ _ _ _ h => h) hHeld (Or.inl ⟨rfl, fun w' hw => by obtain ⟨hw0, hw1, hw2, hw3, hw4⟩ := hw; first | rfl | (go_simp; done)⟩) ?_
        (try simp only [Act.put, List.setIfInBounds_toArray, List.set_cons_zero, List.set_cons_succ])
        refine takeH 9 4 (.string st) rfl (by kernel_rfl) (by kernel_rfl) (by kernel_rfl) (by kernel_rfl) (fun _ _ _ _ h => h) hHeld (Or.inl ⟨rfl, fun w' hw => by obtain ⟨hw0, hw1, hw2, hw3, hw4⟩ := hw; first | rfl | (go_simp; done)⟩) ?_
        (try simp only [Act.put, List.setIfInBounds_toArray, List.set_cons_zero, List.set_cons_succ])
        refine takeH 10 5 (.bool true) rfl (by kernel_rfl) (by kernel_rfl) (by kernel_rfl) (by kernel_rfl) (fun _ _ _ _ h => h) hHeld (Or.inl ⟨rfl, fun w' hw => by obtain ⟨hw0, hw1, hw2, hw3, hw4⟩ := hw; first | rfl | (go_simp; done)⟩) ?_
        (try simp only [Act.put, List.setIfInBounds_toArray, List.set_cons_zero, List.set_cons_succ])
        refine wpAnyH_done (by kernel_rfl) ?_ _
        go_wp2_with fail
        go_ret2
        exact ⟨st, ret_strb rfl Ev.out.1, Ev.out.2, HB0.out.trans (B2.out.mono HW.out)⟩

set_option maxRecDepth 20000 in
set_option maxHeartbeats 1600000 in
theorem specScreenOf_any (v vo : Value) (l : List Ent) (o : List Int) (w : World) (hr : Ents w v l) (hl : l.length ≤ 1048576) (hs : ∀ p ∈ l, p.1.length ≤ 1048576 ∧ p.2.size ≤ 1048576) (ho : Rows w vo o.length 1 (ints o)) (hol : o.length ≤ 1048576) :
    Calls Tryz.prog 32 #[.agg #[v], vo] w fun e w' => e = .returned (.tuple #[.string (scOut l o), .bool (scOk l o)]) ∧ Below w.heap.size w w' := by
  have HB0 := Lib.hid (Joins.below_alloc1 w (.cells #[v] 26))
  have HE := Lib.hid (hr.keep HB0.out)
  have HO := Lib.hid (ho.keep HB0.out)
  have HV := Lib.hid (l6Good_any v l _ HE.out hl hs)
  have HS := Lib.hid (fun W h => l11Strokes_any vo o W h hol)
  have HG := Lib.hid (fun W h1 h2 hm => l14Screen_any v vo l o W h1 hl (fun p hp => (hs p hp).1) h2 hm)
  have E0 := Lib.hid (show matOk l o = (Pl.dictOk l && strokesOk o) from rfl)
  have EN := Lib.hid (fun h : matOk l o = false => scr_no h)
  have EY := Lib.hid (fun h : matOk l o = true => scr_yes h)
  obtain ⟨a, cap, rfl, _, _⟩ := ent_form hr
  obtain ⟨ao, co, rfl, _, _⟩ := rows_form ho
  have HC := Lib.hid (show (w.alloc (.cells #[.slice a l.length cap] 26)).cell? ⟨w.heap.size, 0, none⟩ = some (.slice a l.length cap) by simp [go_sem])
  clear hr hs ho
  generalize Pl.dictOk l = x at HV E0
  generalize strokesOk o = y at HS E0
  cases x
  · have E := Lib.hid (EN.out E0.out)
    rw [E.out.1, E.out.2]
    clear E E0 EN EY HG
    go_enter Tryz.func32, Tryz.ntmps32
    go_wp2_with (go_at_call 49; (with_reducible refine HV.out.mono ?_); rintro e w1 ⟨rfl, hb1⟩; have HB1 := Lib.hid (HB0.out.trans (hb1.mono HB0.out.size)); clear hb1)
    go_ret2
    exact ⟨rfl, HB1.out⟩
  · cases y
    · have E := Lib.hid (EN.out E0.out)
      rw [E.out.1, E.out.2]
      clear E E0 EN EY HG
      go_enter Tryz.func32, Tryz.ntmps32
      go_wp2_with (first
        | (go_at_call 79; (with_reducible refine (HS.out _ HO1.out).mono ?_); rintro e w' ⟨rfl, rfl⟩)
        | (go_at_call 49; (with_reducible refine HV.out.mono ?_); rintro e w1 ⟨rfl, hb1⟩; have HO1 := Lib.hid (HO.out.keep hb1); have HB1 := Lib.hid (HB0.out.trans (hb1.mono HB0.out.size)); clear hb1))
      go_ret2
      exact ⟨rfl, HB1.out⟩
    · have hmt : matOk l o = true := E0.out
      have E := Lib.hid (EY.out hmt)
      rw [E.out.1, E.out.2]
      have HG1 := Lib.hid (fun W h1 h2 => HG.out W h1 h2 hmt)
      unfold RetScr at HG1
      have HN := Lib.hid (fun h : Pl.renderOk (scAtoms l o) = false => render_none h)
      clear E E0 EN EY HG hmt
      generalize Pl.renderOut (scAtoms l o) = ro at HG1 HN ⊢
      generalize Pl.renderOk (scAtoms l o) = rk at HG1 HN ⊢
      cases rk
      · have E := HN.out rfl
        subst E
        clear HN
        go_enter Tryz.func32, Tryz.ntmps32
        go_wp2_with (first
          | (go_at_call 80; (with_reducible refine (HG1.out _ HE1.out HO1.out).mono ?_); rintro e w2 ⟨t, rfl, ht, hb2⟩; have HB2 := Lib.hid (HB1.out.trans (hb2.mono HB1.out.size)); clear ht hb2)
          | (go_at_call 79; (with_reducible refine (HS.out _ HO1.out).mono ?_); rintro e w' ⟨rfl, rfl⟩)
          | (go_at_call 49; (with_reducible refine HV.out.mono ?_); rintro e w1 ⟨rfl, hb1⟩; have HB1 := Lib.hid (HB0.out.trans (hb1.mono HB0.out.size)); have d1 := keepcT hb1 HC.out; have HE1 := Lib.hid (HE.out.keep hb1); have HO1 := Lib.hid (HO.out.keep hb1); clear hb1))
        go_ret2
        exact ⟨rfl, HB2.out⟩
      · clear HN
        go_enter Tryz.func32, Tryz.ntmps32
        go_wp2_with (first
          | (go_at_call 80; (with_reducible refine (HG1.out _ HE1.out HO1.out).mono ?_); rintro e w2 ⟨t, rfl, ht, hb2⟩; have HT := Lib.hid (ht (by trivial)); have HB2 := Lib.hid (HB1.out.trans (hb2.mono HB1.out.size)); clear ht hb2)
          | (go_at_call 79; (with_reducible refine (HS.out _ HO1.out).mono ?_); rintro e w' ⟨rfl, rfl⟩)
          | (go_at_call 49; (with_reducible refine HV.out.mono ?_); rintro e w1 ⟨rfl, hb1⟩; have HB1 := Lib.hid (HB0.out.trans (hb1.mono HB0.out.size)); have d1 := keepcT hb1 HC.out; have HE1 := Lib.hid (HE.out.keep hb1); have HO1 := Lib.hid (HO.out.keep hb1); clear hb1))
        go_ret2
        exact ⟨ret_strb HT.out rfl, HB2.out⟩

end Go.Proofs.YtdidgaibgkdjoaaGreatDoor
