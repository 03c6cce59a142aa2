/-
  CONTRACT: the atoms of strokes, by the reference: l14Atoms.
-/
import Derived.Test.YtdidgaibgkdjoaaGreatDoorScrI
import Derived.Test.YtdidgaibgkdjoaaGreatDoorStSpec
namespace Go.Proofs.YtdidgaibgkdjoaaGreatDoor
open Go.RowKit

theorem apartS {w : World} {b b' : Nat} {E E' : TypeId} {s s' n n' : Nat} {v v' : Value} {xs xs' : List Value} (h : w.ownsRow b E s v n xs) (h' : w.ownsRow b' E' s' v' n' xs') (hne : E ≠ E') : v.ownBlock = none ∨ v.ownBlock ≠ v'.ownBlock := by
  rcases h.2 with ⟨rfl, _⟩ | ⟨g1, c1, u1, rfl, _, k1, _⟩
  · exact .inl rfl
  · right
    rcases h'.2 with ⟨rfl, _⟩ | ⟨g2, c2, u2, rfl, _, k2, _⟩
    · simp [Value.ownBlock]
    · simp only [Value.ownBlock, ne_eq, Option.some.injEq]
      intro e
      subst e
      rw [k1] at k2
      cases k2
      exact hne rfl
theorem piece_ne : (166 : TypeId) ≠ 161 := by decide

set_option maxRecDepth 20000 in
set_option maxHeartbeats 3200000 in
theorem l14Atoms_any (v vo : Value) (l : List Ent) (o : List Int) (w : World) (hr : Ents w v l) (hl : l.length ≤ 1048576) (hs : ∀ p ∈ l, p.1.length ≤ 1048576) (ho : Rows w vo o.length 1 (ints o)) (hmat : matOk l o = true) :
    Calls Tryz.prog 125 #[.agg #[v], vo] w (RetRow 161 2 w.heap.size w (scAtoms l o).length (folds (scAtoms l o))) := by
  obtain ⟨t1, t2, t3⟩ := matOk_told hmat
  have HB0 := Lib.hid (Joins.below_alloc1 w (.cells #[v] 26))
  have HE := Lib.hid (hr.keep HB0.out)
  have HO0 := Lib.hid (ho.keep HB0.out)
  have HG := Lib.hid (fun W h1 h2 => l11Segment_any v vo l o W h1 hl hs h2 (by omega))
  obtain ⟨a, cap, rfl, _, _⟩ := ent_form hr
  obtain ⟨ao, co, rfl, hco, _⟩ := rows_form ho
  have HC := Lib.hid (show (w.alloc (.cells #[.slice a l.length cap] 26)).cell? ⟨w.heap.size, 0, none⟩ = some (.slice a l.length cap) by simp [go_sem])
  have hsl := segs_len l o
  have HK := Lib.hid (segs_ok (l := l) (o := o) t1)
  have HST := Lib.hid (fun (i : Nat) (hi : i < o.length) => stroke_bd t3 hi)
  unfold scAtoms
  unfold RetRow at HG ⊢
  clear hr hs ho hmat t1 t3
  generalize segs l o = P at HG hsl HK ⊢
  go_enter Tryz.func125, Tryz.ntmps125
  go_upto_region 1 with fail
  obtain ⟨W0, hW0⟩ : ∃ W0, W0 = w.alloc (.cells #[.slice a l.length cap] 26) := ⟨_, rfl⟩
  rw [← hW0] at HB0 HE HC HO0 ⊢
  have HW := Lib.hid (show w.heap.size ≤ W0.heap.size from HB0.out.size)
  clear hW0
  have HR0 := Lib.hid (World.ownsRow_made (base := W0.heap.size) (e := 161) (size := 2) W0 #[] 0 (Nat.le_refl _) (by unfold maxLen; omega) rfl)
  have HBr := Lib.hid (Joins.below_alloc1 W0 (.cells #[] 161))
  have q0 := keepcT HBr.out HC.out
  go_upto_region 4 with (go_at_call 157; (with_reducible refine (HG.out _ (HE.out.keep HBr.out) (HO0.out.keep HBr.out)).mono ?_); rintro e w1 ⟨vp, rfl, hown, hb1⟩; have HR1 := Lib.hid (own_keep HR0.out hb1); have HP1 := Lib.hid (own_base hown HBr.out.size); have HB1 := Lib.hid (HBr.out.trans (hb1.mono HBr.out.size)); clear hb1 hown)
  obtain ⟨ap, cp, rfl⟩ := row_formK HP1.out
  clear HR0 HG
  go_loopw [5, 7] (fun out i wr => ∃ k : Nat, k ≤ P.length ∧ i = .int .i64 k ∧ Hid (wr.ownsRow W0.heap.size 161 2 out (pcsAtoms o (P.take k)).length (folds (pcsAtoms o (P.take k)))) ∧ Hid (wr.ownsRow W0.heap.size 166 3 (.slice ap P.length cp) P.length (pieces P)) ∧ Below W0.heap.size W0 wr) (fun _ i _ => P.length - (intOf i).toNat)
  case atStart => exact ⟨0, Nat.zero_le _, rfl, Lib.hid (by rw [List.take_zero]; exact HR1.out), HP1, HB1.out⟩
  clear HR1 HP1 HB1 HBr q0
  case round =>
    obtain ⟨k, hk, rfl, HA, HP, hb⟩ := hrel
    have HB := Lib.hid hb; clear hb
    obtain ⟨aa, ca, rfl⟩ := row_formK HA.out
    have hlen := pcsAtoms_len o (P.take k)
    have hlk : (P.take k).length ≤ k := by rw [List.length_take]; omega
    by_cases hlt : k < P.length
    · obtain ⟨b, off, rfl, c1, c2, c3⟩ := piece_cells (rows_cellsS (Rows.of_own HP.out)) k hlt
      have hki : (k : Int) < (P.length : Int) := by omega
      have hk0 : (0 : Int) ≤ (k : Int) := by omega
      have HN := Lib.hid (pcs_next (o := o) hlt rfl)
      have hpk := HK.out _ (List.getElem_mem hlt)
      generalize pcsAtoms o (P.take k) = A at HA HN hlen
      generalize P[k] = p at c1 c2 c3 HN hpk
      obtain ⟨pf, pc, pt⟩ := p
      dsimp only at c1 c2 c3 hpk
      obtain ⟨i, hi, hio, htx⟩ := hpk
      dsimp only at hi htx
      subst hi
      have hib : (0 : Int) ≤ (i : Int) := by omega
      have hio2 : (i : Int) < (o.length : Int) := by omega
      have hne := apartS HP.out HA.out piece_ne
      by_cases hy : pt.toList.isEmpty = true
      · obtain ⟨n, hn0, hn1, hn2, hn3⟩ := HST.out i hio
        have E := Lib.hid (show pcsAtoms o (P.take (k + 1)) = A ++ [(1, Pl.rawB n)] by rw [HN.out, pc_raw hy, show (o.getD ((i : Int)).toNat 0).toNat = n by rw [Int.toNat_natCast, hn1]; rfl])
        obtain ⟨a8, c8, e8, hle8, _, _, _, hoc⟩ := HO0.out.keep HB.out
        cases e8
        obtain ⟨bo, oo, rfl, d1⟩ := hoc i _ (ints_at o i hio)
        rw [hn0] at d1
        have HRw := Lib.hid (fun W => l14Raw_any n W hn2 hn3)
        obtain rfl : pt = ⟨#[]⟩ := by
          have h1 : pt.toList = [] := by simpa using hy
          rw [Pl.ba_toList] at h1
          obtain ⟨⟨q⟩⟩ := pt
          simp at h1
          rw [h1]
        clear hoc HN htx hy
        go_wp2_with (first
          | (at_builtin; have hx := HA4; refine app_atm rfl _ _ rfl W0.heap.size _ A.length (folds A) rfl (HA4.out.alloc _) ⟨_, 0, none⟩ 1 1 (Pl.rawB n) rfl (atm_newsS _ _ _ _ _ rfl) (by omega) (by rw [World.size_alloc]; have := HB4.out.size; omega) ?_; intro v5 w5 hown5 hg5)
          | (go_at_call 158; (with_reducible refine (HRw.out _).mono ?_); rintro e w4 ⟨rfl, hb4⟩; have HA4 := Lib.hid (own_keep HA.out hb4); have HP4 := Lib.hid (own_keep HP.out hb4); have HB4 := Lib.hid (HB.out.trans (hb4.mono HB.out.size)); clear hb4))
        go_roundw
        case rel => exact ⟨k + 1, by omega, by go_num, Lib.hid (by rw [E.out, List.length_append, folds_app]; exact hown5), Lib.hid ((HP4.out.alloc _).kept hg5 hne), (HB4.out.alloc HB4.out.size _).grown hg5 (by rw [World.size_alloc]; exact Nat.le_succ_of_le HB4.out.size) (fun j hj => (HA4.out.lt j hj).1)⟩
        case measure => simp [intOf]; omega
      · have hy' : pt.toList.isEmpty = false := by simpa using hy
        have htr : Pl.transOk pt = true := by
          rcases htx with h | h
          · rw [h] at hy; exact absurd (by rw [Pl.ba_toList]; rfl) hy
          · exact h
        have hsz : pt.size ≤ 60 := by
          unfold Pl.transOk at htr
          simp only [Bool.and_eq_true, decide_eq_true_iff] at htr
          exact htr.1.1
        have E := Lib.hid (show pcsAtoms o (P.take (k + 1)) = A ++ Pl.transOut pt by rw [HN.out, pc_text hy'])
        have hpos := transOut_pos htr
        have htl := transOut_len (s := pt)
        have HPT := Lib.hid (fun W => l5Parse_any pt W (by omega))
        unfold Read1 at HPT
        rw [htr] at HPT
        have hpe : pt ≠ ⟨#[]⟩ := fun e => hy (by rw [e, Pl.ba_toList]; rfl)
        clear HN htx hy htr hpe
        generalize Pl.transOut pt = X at HPT E hpos htl
        go_wp2_with (first
          | (at_builtin; have hx := HA3; refine app_atl rfl _ _ rfl W0.heap.size _ A.length (folds A) rfl HA3.out la 0 X.length lc X rfl rfl (rows_cellsS HX3.out) (by omega) HB3.out.size ?_; intro v5 w5 hown5 hg5)
          | (go_at_call 119; (with_reducible refine (HPT.out _).mono ?_); rintro e w3 ⟨lv, rfl, hown3, hb3⟩; obtain ⟨la, lc, rfl⟩ := Joins.ownsRow_form hown3 hpos; have HX3 := Lib.hid (Rows.of_own hown3); have HA3 := Lib.hid (own_keep HA.out hb3); have HP3 := Lib.hid (own_keep HP.out hb3); have HB3 := Lib.hid (HB.out.trans (hb3.mono HB.out.size)); clear hb3 hown3))
        go_roundw
        case rel => exact ⟨k + 1, by omega, by go_num, Lib.hid (by rw [E.out, List.length_append, folds_app]; exact hown5), Lib.hid (HP3.out.kept hg5 hne), HB3.out.grown hg5 HB3.out.size (fun j hj => (HA3.out.lt j hj).1)⟩
        case measure => simp [intOf]; omega
    · obtain rfl : k = P.length := by omega
      rw [List.take_length] at HA ⊢
      go_wp2
      go_ret
      exact ⟨_, rfl, own_base HA.out HW.out, HB0.out.trans (HB.out.mono HW.out)⟩

end Go.Proofs.YtdidgaibgkdjoaaGreatDoor
