/-
  CONTRACTS: ApplyAtoms and Render of the program and of the reference.
-/
import Derived.Test.YtdidgaibgkdjoaaGreatDoorStLaw
import Derived.Deep.RegionLaw
namespace Go.Proofs.YtdidgaibgkdjoaaGreatDoor
open Go.RowKit

theorem laidS (w : World) (t : ByteArray) (j g : Bool) (c k : Int) (T : TypeId) :
    St ((w.alloc (.cells #[.string t, .bool j, .bool g, .int .i64 c, .int .i64 k] T)).alloc (.cells #[.string ⟨#[]⟩, .bool false, .bool false, .int .i64 0, .int .i64 0] T)) w.heap.size ⟨t, j, g, c, k⟩ ∧
    St ((w.alloc (.cells #[.string t, .bool j, .bool g, .int .i64 c, .int .i64 k] T)).alloc (.cells #[.string ⟨#[]⟩, .bool false, .bool false, .int .i64 0, .int .i64 0] T)) (w.heap.size + 1) Pl.nil := by
  refine ⟨(St.new w t j g c k T).alloc _, ?_⟩
  have h := St.new (w.alloc (.cells #[.string t, .bool j, .bool g, .int .i64 c, .int .i64 k] T)) ⟨#[]⟩ false false 0 0 T
  rw [size1] at h
  exact h

set_option maxRecDepth 20000 in
set_option maxHeartbeats 1600000 in
theorem ApplyAtoms_any (t : ByteArray) (j g : Bool) (c k : Int) (v : Value) (l : List (Int × ByteArray)) (w : World) (ht : t.size ≤ maxLen) (hr : Rows w v l.length 2 (folds l)) (hf : ∀ p ∈ l, p.2.size ≤ maxLen) :
    Calls Tryz.prog 166 #[.agg #[.string t, .bool j, .bool g, .int .i64 c, .int .i64 k], v] w fun e w' => e = .returned (.tuple #[.agg #[.string (Pl.apsOut ⟨t, j, g, c, k⟩ l).t, .bool (Pl.apsOut ⟨t, j, g, c, k⟩ l).j, .bool (Pl.apsOut ⟨t, j, g, c, k⟩ l).g, .int .i64 (Pl.apsOut ⟨t, j, g, c, k⟩ l).c, .int .i64 (Pl.apsOut ⟨t, j, g, c, k⟩ l).k], .bool (Pl.apsOk ⟨t, j, g, c, k⟩ l)]) ∧ Below w.heap.size w w' := by
  have HL := Lib.hid (laidS w t j g c k 156)
  have HB0 := Lib.hid (laid2_below w (.cells #[.string t, .bool j, .bool g, .int .i64 c, .int .i64 k] 156) (.cells #[.string ⟨#[]⟩, .bool false, .bool false, .int .i64 0, .int .i64 0] 156))
  obtain ⟨ar, cap, rfl, hnc, hcm, _, _, hcells⟩ := hr
  have HC := Lib.hid hcells; have HZ := Lib.hid hf
  clear hcells hf
  unfold maxLen at hcm
  by_cases hbad : Pl.sOk ⟨t, j, g, c, k⟩ = false ∨ ¬ l.length ≤ 600
  · have E := Lib.hid (Pl.aps_bad hbad)
    cases h1 : Pl.sOk ⟨t, j, g, c, k⟩
    · have h1' : Pl.validState t c k = false := h1
      clear h1 hbad
      go_enter Tryz.func166, Tryz.ntmps166
      go_wp2_with (go_at_call 187; refine (IsValidState_any _ _ _ _ _ _ ht).mono ?_; rintro e w1 ⟨he, hb1⟩; rw [h1'] at he; subst he; have Z1 := Lib.hid (HL.out.2.keep hb1); have B1 := Lib.hid (below_nx HB0.out hb1); have z1 := B1.out.size; clear hb1; obtain ⟨n0, n1, n2, n3, n4, nf⟩ := Z1.out; dsimp only [Pl.nil] at n0 n1 n2 n3 n4; unfold thawed at nf)
      all_goals
        refine bodyPost_ret (v := .tuple #[.agg #[.string ⟨#[]⟩, .bool false, .bool false, .int .i64 0, .int .i64 0], .bool false]) (by simp [results, Tryz.results166, go_sem, *]) rfl ⟨by rw [E.out.1, E.out.2]; rfl, ?_⟩
        (have hB := B1.out); exact (by repeat (first | with_reducible exact Below.refl _ _ | with_reducible assumption | with_reducible refine Below.alloc ?_ ?_ _ | with_reducible refine Below.setCell ?_ ?_ _ | with_reducible refine Below.drew ?_ | with_reducible refine below_drewN ?_ _ | with_reducible refine Below.trans ?_ (Below.mono (by assumption) ?_) | omega | ((repeat (first | rw [World.size_alloc] | rw [size_setCell] | rw [size_drewN] | rw [size_drew])); omega) | exact Nat.le_refl _ | (dsimp only; omega) | (simp [World.setCell]; omega)))
    · have h1' : Pl.validState t c k = true := h1
      have h2 : 600 < l.length := by
        rcases hbad with h | h
        · rw [h1] at h; cases h
        · omega
      clear h1 hbad
      go_enter Tryz.func166, Tryz.ntmps166
      go_wp2_with (go_at_call 187; refine (IsValidState_any _ _ _ _ _ _ ht).mono ?_; rintro e w1 ⟨he, hb1⟩; rw [h1'] at he; subst he; have Z1 := Lib.hid (HL.out.2.keep hb1); have B1 := Lib.hid (below_nx HB0.out hb1); have z1 := B1.out.size; clear hb1; obtain ⟨n0, n1, n2, n3, n4, nf⟩ := Z1.out; dsimp only [Pl.nil] at n0 n1 n2 n3 n4; unfold thawed at nf)
      all_goals
        refine bodyPost_ret (v := .tuple #[.agg #[.string ⟨#[]⟩, .bool false, .bool false, .int .i64 0, .int .i64 0], .bool false]) (by simp [results, Tryz.results166, go_sem, *]) rfl ⟨by rw [E.out.1, E.out.2]; rfl, ?_⟩
        (have hB := B1.out); exact (by repeat (first | with_reducible exact Below.refl _ _ | with_reducible assumption | with_reducible refine Below.alloc ?_ ?_ _ | with_reducible refine Below.setCell ?_ ?_ _ | with_reducible refine Below.drew ?_ | with_reducible refine below_drewN ?_ _ | with_reducible refine Below.trans ?_ (Below.mono (by assumption) ?_) | omega | ((repeat (first | rw [World.size_alloc] | rw [size_setCell] | rw [size_drewN] | rw [size_drew])); omega) | exact Nat.le_refl _ | (dsimp only; omega) | (simp [World.setCell]; omega)))
  have h1 : Pl.sOk ⟨t, j, g, c, k⟩ = true := by
    cases h : Pl.sOk ⟨t, j, g, c, k⟩
    · exact absurd (Or.inl h) hbad
    · rfl
  have h2 : l.length ≤ 600 := by
    by_cases h : l.length ≤ 600
    · exact h
    · exact absurd (Or.inr h) hbad
  have h1' : Pl.validState t c k = true := h1
  have H1 := Lib.hid h1
  clear h1 hbad
  go_enter Tryz.func166, Tryz.ntmps166
  go_wp2_with (go_at_call 187; refine (IsValidState_any _ _ _ _ _ _ ht).mono ?_; rintro e w1 ⟨he, hb1⟩; rw [h1'] at he; subst he; have S1 := Lib.hid (HL.out.1.keep hb1); have Z1 := Lib.hid (HL.out.2.keep hb1); have B1 := Lib.hid (below_nx HB0.out hb1); clear hb1)
  go_loopw [21] (fun i wr => ∃ (n : Nat) (s : Pl.Sta), n ≤ l.length ∧ i = .int .i64 n ∧ Hid (Pl.At ⟨t, j, g, c, k⟩ l n s) ∧ St wr w.heap.size s ∧ St wr (w.heap.size + 1) Pl.nil ∧ Below w.heap.size w wr) (fun i _ => l.length - (intOf i).toNat)
  case atStart => exact ⟨0, _, Nat.zero_le _, rfl, Lib.hid (Pl.At.zero _ _), S1.out, Z1.out, B1.out⟩
  clear S1 Z1 B1
  case round =>
    obtain ⟨n, s, hn, rfl, HA, hs, hz, hb⟩ := hrel
    have S := Lib.hid hs; have Z := Lib.hid hz; have B := Lib.hid hb
    clear hs hz hb
    have sok := Lib.hid (HA.out.ok H1.out)
    have lt1 := S.out.lt
    have lt2 := Z.out.lt
    have ssz : s.t.size ≤ maxLen := by have := Pl.sOk_size sok.out; unfold maxLen; omega
    by_cases hlt : n < l.length
    · obtain ⟨b, off, rfl, c1, c2⟩ := fold_cells (HC.out.keep B.out) n hlt
      have hx := HZ.out _ (List.getElem_mem hlt)
      have hki : (n : Int) < (l.length : Int) := by omega
      obtain ⟨s0, s1, s2, s3, s4, sf⟩ := S.out
      obtain ⟨st, sj, sg, sc, sk⟩ := s
      unfold thawed at sf
      dsimp only at s0 s1 s2 s3 s4 ssz
      have HAp := Lib.hid (fun W => ApplyAtom_any st sj sg sc sk l[n].1 l[n].2 W ssz hx)
      have HK : Hid (Pl.apOk ⟨st, sj, sg, sc, sk⟩ l[n].1 l[n].2 = true → Pl.At ⟨t, j, g, c, k⟩ l (n + 1) (Pl.apOut ⟨st, sj, sg, sc, sk⟩ l[n].1 l[n].2)) := Lib.hid (HA.out.succ hlt)
      have HN : Hid (Pl.apOk ⟨st, sj, sg, sc, sk⟩ l[n].1 l[n].2 = false → Pl.aps ⟨t, j, g, c, k⟩ l = none) := Lib.hid (HA.out.fail hlt)
      generalize Pl.apOut ⟨st, sj, sg, sc, sk⟩ l[n].1 l[n].2 = r at HAp HK
      generalize Pl.apOk ⟨st, sj, sg, sc, sk⟩ l[n].1 l[n].2 = ok at HAp HK HN
      generalize l[n] = p at c1 c2 hx HAp
      obtain ⟨pa, px⟩ := p
      obtain ⟨rt, rj, rg, rc, rk⟩ := r
      dsimp only at HAp c1 c2
      clear HA sok hx
      cases ok
      · have E := Lib.hid (Pl.aps_none (HN.out rfl))
        clear HN HK
        go_wp2_with (go_at_call 188; refine (HAp.out _).mono ?_; rintro e w2 ⟨rfl, hb2⟩; have Z2 := Lib.hid ((Z.out.alloc _).keep hb2); have B2 := Lib.hid (below_nx (B.out.alloc B.out.size _) hb2); clear hb2; have z2 := Z2.out.lt; obtain ⟨n0, n1, n2, n3, n4, nf⟩ := Z2.out; dsimp only [Pl.nil] at n0 n1 n2 n3 n4; unfold thawed at nf)
        all_goals
          refine bodyPost_ret (v := .tuple #[.agg #[.string ⟨#[]⟩, .bool false, .bool false, .int .i64 0, .int .i64 0], .bool false]) (by simp [results, Tryz.results166, go_sem, *]) rfl ⟨by rw [E.out.1, E.out.2]; rfl, ?_⟩
          (have hB := B2.out); exact (by repeat (first | with_reducible exact Below.refl _ _ | with_reducible assumption | with_reducible refine Below.alloc ?_ ?_ _ | with_reducible refine Below.setCell ?_ ?_ _ | with_reducible refine Below.drew ?_ | with_reducible refine below_drewN ?_ _ | with_reducible refine Below.trans ?_ (Below.mono (by assumption) ?_) | omega | ((repeat (first | rw [World.size_alloc] | rw [size_setCell] | rw [size_drewN] | rw [size_drew])); omega) | exact Nat.le_refl _ | (dsimp only; omega) | (simp [World.setCell]; omega)))
      · have HK' := Lib.hid (HK.out rfl)
        clear HN HK
        go_wp2_with (go_at_call 188; refine (HAp.out _).mono ?_; rintro e w2 ⟨rfl, hb2⟩; have S2 := Lib.hid ((S.out.alloc _).keep hb2); have Z2 := Lib.hid ((Z.out.alloc _).keep hb2); have B2 := Lib.hid (below_nx (B.out.alloc B.out.size _) hb2); clear hb2 s0 s1 s2 s3 s4 sf c1 c2; have z2 := S2.out.lt; obtain ⟨s0, s1, s2, s3, s4, sf⟩ := S2.out; dsimp only at s0 s1 s2 s3 s4; unfold thawed at sf)
        go_roundw
        case rel =>
          have hs := St.set S2.out ⟨rt, rj, rg, rc, rk⟩
          have hne : w.heap.size + 1 ≠ w.heap.size := by omega
          have hB3 := below_into B2.out hs.2 (Nat.le_refl _)
          refine ⟨n + 1, _, by omega, by go_num, HK', ?_, ?_, ?_⟩
          · with_reducible exact hs.1.alloc _
          · with_reducible exact (Z2.out.grown hs.2 hne).alloc _
          · with_reducible exact hB3.alloc hB3.size _
        case measure => simp [intOf]; omega
    · obtain rfl : n = l.length := by omega
      have E := Lib.hid (Pl.aps_some H1.out h2 HA.out.last)
      obtain ⟨s0, s1, s2, s3, s4, sf⟩ := S.out
      obtain ⟨n0, n1, n2, n3, n4, nf⟩ := Z.out
      obtain ⟨st, sj, sg, sc, sk⟩ := s
      dsimp only [Pl.nil] at s0 s1 s2 s3 s4 n0 n1 n2 n3 n4
      unfold thawed at nf sf
      clear HA
      go_wp2
      refine bodyPost_ret (v := .tuple #[.agg #[.string st, .bool sj, .bool sg, .int .i64 sc, .int .i64 sk], .bool true]) (by simp [results, Tryz.results166, go_sem, *]) rfl ⟨by rw [E.out.1, E.out.2], ?_⟩
      (have hB := B.out); exact (by repeat (first | with_reducible exact Below.refl _ _ | with_reducible assumption | with_reducible refine Below.alloc ?_ ?_ _ | with_reducible refine Below.setCell ?_ ?_ _ | with_reducible refine Below.drew ?_ | with_reducible refine below_drewN ?_ _ | with_reducible refine Below.trans ?_ (Below.mono (by assumption) ?_) | omega | ((repeat (first | rw [World.size_alloc] | rw [size_setCell] | rw [size_drewN] | rw [size_drew])); omega) | exact Nat.le_refl _ | (dsimp only; omega) | (simp [World.setCell]; omega)))

end Go.Proofs.YtdidgaibgkdjoaaGreatDoor
