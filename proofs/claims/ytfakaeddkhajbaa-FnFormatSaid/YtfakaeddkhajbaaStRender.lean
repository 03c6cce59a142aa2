/-
  CONTRACTS: Render of the program and of the reference; the size of a list of atoms, whatever is left.
-/
import Derived.Test.YtfakaeddkhajbaaStAtoms
namespace Go.Proofs.Ytfakaeddkhajbaa
open Go.RowKit

set_option maxHeartbeats 800000 in
theorem szAtomS_gen (n0 : Int) (hn0 : 0 ≤ n0) (hn1 : n0 ≤ 1048576) (v : Value) (l : List (Int × ByteArray)) (w : World) (hr : Rows w v l.length 2 (folds l)) (hsz : ∀ p ∈ l, p.2.size ≤ maxLen) :
    Calls Try.prog 51 #[v, .int .i64 n0] w fun e w' => (∃ r : Int, e = .returned (.int .i64 r) ∧ (0 ≤ r → FoldsFit l)) ∧ Below w.heap.size w w' := by
  obtain ⟨a, cap, rfl, hnc, hcm, _, _, hcells⟩ := hr
  have HC := Lib.hid hcells
  have HZ := Lib.hid hsz
  clear hcells hsz
  unfold maxLen at hcm
  by_cases h0 : n0 < (l.length : Int)
  · go_enter Try.func51, Try.ntmps51
    go_wp2
    go_ret
    exact ⟨⟨-1, rfl, fun h => absurd h (by omega)⟩, Below.refl _ _⟩
  · go_enter Try.func51, Try.ntmps51
    go_wp2
    go_loopw [1, 5] (fun lf i wr => ∃ (k : Nat) (n : Int), k ≤ l.length ∧ i = .int .i64 k ∧ lf = .int .i64 n ∧ 0 ≤ n ∧ n ≤ 1048576 ∧ Hid (∀ p ∈ l.take k, p.2.size ≤ 1048576) ∧ Below w.heap.size w wr) (fun _ i _ => l.length - (intOf i).toNat)
    case atStart => exact ⟨0, _, Nat.zero_le _, rfl, rfl, by omega, by omega, Lib.hid (by simp), Below.refl _ _⟩
    case round =>
      obtain ⟨k, n, hk, rfl, rfl, hn0, hn1, HA, hb⟩ := hrel
      have HB := Lib.hid hb; clear hb
      by_cases hlt : k < l.length
      · obtain ⟨b, off, rfl, c1, c2⟩ := fold_cells (HC.out.keep HB.out) k hlt
        have hs := HZ.out _ (List.getElem_mem hlt)
        have HN := Lib.hid (take_next (Q := fun p => p.2.size ≤ 1048576) hlt HA.out)
        have hki : (k : Int) < (l.length : Int) := by omega
        generalize l[k] = p at c1 c2 hs HN
        obtain ⟨pk, pt⟩ := p
        clear HA
        by_cases hn : n < (pt.size : Int)
        · go_wp2_with (go_at_call 45; refine (szAtom_any _ _ _ _ hs hn0 hn1).mono ?_; rintro e w1 ⟨he, hb1⟩; rw [if_pos hn] at he; subst he)
          go_ret
          exact ⟨⟨-1, rfl, fun h => absurd h (by omega)⟩, HB.out.trans (hb1.mono HB.out.size)⟩
        · have HN2 := Lib.hid (HN.out (by show pt.size ≤ 1048576; omega))
          clear HN
          go_wp2_with (go_at_call 45; refine (szAtom_any _ _ _ _ hs hn0 hn1).mono ?_; rintro e w1 ⟨he, hb1⟩; rw [if_neg hn] at he; subst he)
          go_roundw
          case rel => exact ⟨k + 1, n - pt.size, by omega, by go_num, rfl, by omega, by omega, HN2, HB.out.trans (hb1.mono HB.out.size)⟩
          case measure => simp [intOf]; omega
      · obtain rfl : k = l.length := by omega
        have HF : Hid (FoldsFit l) := Lib.hid ⟨by omega, by have := HA.out; rwa [List.take_of_length_le (Nat.le_refl _)] at this⟩
        clear HA
        go_wp2
        go_ret
        exact ⟨⟨n, rfl, fun _ => HF.out⟩, HB.out⟩

theorem Pl.none_empty : (⟨#[]⟩ : ByteArray).toList.isEmpty = true := by rw [ba_toList]; rfl
theorem l12New_none (w : World) :
    Calls Try.prog 103 #[.string ⟨#[]⟩] w fun e w' => e = .returned (.agg #[.string ⟨#[]⟩, .bool true, .bool false, .int .i64 0, .int .i64 0]) ∧ Below w.heap.size w w' := by
  have h := l12New_any ⟨#[]⟩ w
  rw [Pl.none_empty] at h
  exact h

set_option maxHeartbeats 800000 in
theorem Render_any (v : Value) (l : List (Int × ByteArray)) (w : World) (hr : Rows w v l.length 2 (folds l)) (hf : ∀ p ∈ l, p.2.size ≤ maxLen) :
    Calls Try.prog 54 #[v] w fun e w' => e = .returned (.tuple #[.string (Pl.renderOut l), .bool (Pl.renderOk l)]) ∧ Below w.heap.size w w' := by
  have HA := Lib.hid (ApplyAtoms_any ⟨#[]⟩ true false 0 0 v l w (Nat.zero_le _) hr hf)
  have E : Hid (Pl.renderOut l = (Pl.apsOut ⟨⟨#[]⟩, true, false, 0, 0⟩ l).t ∧ Pl.renderOk l = Pl.apsOk ⟨⟨#[]⟩, true, false, 0, 0⟩ l) := Lib.hid ⟨rfl, rfl⟩
  generalize Pl.apsOut ⟨⟨#[]⟩, true, false, 0, 0⟩ l = r at HA E
  generalize Pl.apsOk ⟨⟨#[]⟩, true, false, 0, 0⟩ l = ok at HA E
  obtain ⟨rt, rj, rg, rc, rk⟩ := r
  dsimp only at HA E
  clear hr hf
  go_enter Try.func54, Try.ntmps54
  go_wp2_with (go_at_call 60; refine HA.out.mono ?_; rintro e w1 ⟨rfl, hb1⟩; have z1 := hb1.size)
  go_ret2
  exact ⟨ret_strb E.out.1.symm E.out.2.symm, (by repeat (first | with_reducible exact Below.refl _ _ | with_reducible assumption | with_reducible refine Below.alloc ?_ ?_ _ | with_reducible refine Below.setCell ?_ ?_ _ | with_reducible refine Below.drew ?_ | with_reducible refine below_drewN ?_ _ | with_reducible refine Below.trans ?_ (Below.mono (by assumption) ?_) | omega | ((repeat (first | rw [World.size_alloc] | rw [size_setCell] | rw [size_drewN] | rw [size_drew])); omega) | exact Nat.le_refl _ | (dsimp only; omega) | (simp [World.setCell]; omega)))⟩

set_option maxHeartbeats 800000 in
theorem specRender_any (v : Value) (l : List (Int × ByteArray)) (w : World) (hr : Rows w v l.length 2 (folds l)) (hf : ∀ p ∈ l, p.2.size ≤ maxLen) :
    Calls Try.prog 52 #[v] w fun e w' => e = .returned (.tuple #[.string (Pl.renderOut l), .bool (Pl.renderOk l)]) ∧ Below w.heap.size w w' := by
  have HA := Lib.hid (fun W (hW : Below w.heap.size w W) => specApplyAtoms_any ⟨#[]⟩ true false 0 0 v l W (Nat.zero_le _) (hr.keep hW) hf)
  have E : Hid (Pl.renderOut l = (Pl.apsOut ⟨⟨#[]⟩, true, false, 0, 0⟩ l).t ∧ Pl.renderOk l = Pl.apsOk ⟨⟨#[]⟩, true, false, 0, 0⟩ l) := Lib.hid ⟨rfl, rfl⟩
  have E2 : Hid (Pl.apsOk ⟨⟨#[]⟩, true, false, 0, 0⟩ l = false → (Pl.apsOut ⟨⟨#[]⟩, true, false, 0, 0⟩ l).t = ⟨#[]⟩) := Lib.hid (fun h => Pl.aps_noT h)
  generalize Pl.apsOut ⟨⟨#[]⟩, true, false, 0, 0⟩ l = r at HA E E2
  generalize Pl.apsOk ⟨⟨#[]⟩, true, false, 0, 0⟩ l = ok at HA E E2
  obtain ⟨rt, rj, rg, rc, rk⟩ := r
  dsimp only at HA E E2
  clear hr hf
  cases ok
  · have E3 := Lib.hid (E2.out rfl)
    clear E2
    go_enter Try.func52, Try.ntmps52
    go_wp2_with (first | (go_at_call 59; refine (HA.out _ hb1).mono ?_; rintro e w2 ⟨rfl, hb2⟩; have B2 := Lib.hid (below_nx hb1 hb2); have z1 := B2.out.size; clear hb1 hb2) | (go_at_call 103; refine (l12New_none _).mono ?_; rintro e w1 ⟨rfl, hb1⟩))
    go_ret2
    (have hB := B2.out); exact ⟨ret_strb (by rw [E.out.1, E3.out]) E.out.2.symm, (by repeat (first | with_reducible exact Below.refl _ _ | with_reducible assumption | with_reducible refine Below.alloc ?_ ?_ _ | with_reducible refine Below.setCell ?_ ?_ _ | with_reducible refine Below.drew ?_ | with_reducible refine below_drewN ?_ _ | with_reducible refine Below.trans ?_ (Below.mono (by assumption) ?_) | omega | ((repeat (first | rw [World.size_alloc] | rw [size_setCell] | rw [size_drewN] | rw [size_drew])); omega) | exact Nat.le_refl _ | (dsimp only; omega) | (simp [World.setCell]; omega)))⟩
  · clear E2
    go_enter Try.func52, Try.ntmps52
    go_wp2_with (first | (go_at_call 59; refine (HA.out _ hb1).mono ?_; rintro e w2 ⟨rfl, hb2⟩; have B2 := Lib.hid (below_nx hb1 hb2); have z1 := B2.out.size; clear hb1 hb2) | (go_at_call 103; refine (l12New_none _).mono ?_; rintro e w1 ⟨rfl, hb1⟩))
    go_ret2
    (have hB := B2.out); exact ⟨ret_strb E.out.1.symm E.out.2.symm, (by repeat (first | with_reducible exact Below.refl _ _ | with_reducible assumption | with_reducible refine Below.alloc ?_ ?_ _ | with_reducible refine Below.setCell ?_ ?_ _ | with_reducible refine Below.drew ?_ | with_reducible refine below_drewN ?_ _ | with_reducible refine Below.trans ?_ (Below.mono (by assumption) ?_) | omega | ((repeat (first | rw [World.size_alloc] | rw [size_setCell] | rw [size_drewN] | rw [size_drew])); omega) | exact Nat.le_refl _ | (dsimp only; omega) | (simp [World.setCell]; omega)))⟩

end Go.Proofs.Ytfakaeddkhajbaa
