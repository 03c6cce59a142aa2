/-
  CONTRACTS: Render of the program and of the reference; the size of a list of atoms, whatever is left.
-/
import Derived.Test.YtkbbcmbeafjpaabStAtoms
namespace Go.Proofs.Ytkbbcmbeafjpaab
open Go.RowKit

theorem Pl.none_empty : (⟨#[]⟩ : ByteArray).toList.isEmpty = true := by rw [ba_toList]; rfl
theorem l12New_none (w : World) :
    Calls Try.prog 31 #[.string ⟨#[]⟩] w fun e w' => e = .returned (.agg #[.string ⟨#[]⟩, .bool true, .bool false, .int .i64 0, .int .i64 0]) ∧ Below w.heap.size w w' := by
  have h := l12New_any ⟨#[]⟩ w
  rw [Pl.none_empty] at h
  exact h

set_option maxHeartbeats 800000 in
theorem Render_any (v : Value) (l : List (Int × ByteArray)) (w : World) (hr : Rows w v l.length 2 (folds l)) (hf : ∀ p ∈ l, p.2.size ≤ maxLen) :
    Calls Try.prog 14 #[v] w fun e w' => e = .returned (.tuple #[.string (Pl.renderOut l), .bool (Pl.renderOk l)]) ∧ Below w.heap.size w w' := by
  have HA := Lib.hid (ApplyAtoms_any ⟨#[]⟩ true false 0 0 v l w (Nat.zero_le _) hr hf)
  have E : Hid (Pl.renderOut l = (Pl.apsOut ⟨⟨#[]⟩, true, false, 0, 0⟩ l).t ∧ Pl.renderOk l = Pl.apsOk ⟨⟨#[]⟩, true, false, 0, 0⟩ l) := Lib.hid ⟨rfl, rfl⟩
  generalize Pl.apsOut ⟨⟨#[]⟩, true, false, 0, 0⟩ l = r at HA E
  generalize Pl.apsOk ⟨⟨#[]⟩, true, false, 0, 0⟩ l = ok at HA E
  obtain ⟨rt, rj, rg, rc, rk⟩ := r
  dsimp only at HA E
  clear hr hf
  go_enter Try.func14, Try.ntmps14
  go_wp2_with (go_at_call 17; refine HA.out.mono ?_; rintro e w1 ⟨rfl, hb1⟩; have z1 := hb1.size)
  go_ret2
  exact ⟨ret_strb E.out.1.symm E.out.2.symm, (by repeat (first | with_reducible exact Below.refl _ _ | with_reducible assumption | with_reducible refine Below.alloc ?_ ?_ _ | with_reducible refine Below.setCell ?_ ?_ _ | with_reducible refine Below.drew ?_ | with_reducible refine below_drewN ?_ _ | with_reducible refine Below.trans ?_ (Below.mono (by assumption) ?_) | omega | ((repeat (first | rw [World.size_alloc] | rw [size_setCell] | rw [size_drewN] | rw [size_drew])); omega) | exact Nat.le_refl _ | (dsimp only; omega) | (simp [World.setCell]; omega)))⟩

set_option maxHeartbeats 800000 in
theorem specRender_any (v : Value) (l : List (Int × ByteArray)) (w : World) (hr : Rows w v l.length 2 (folds l)) (hf : ∀ p ∈ l, p.2.size ≤ maxLen) :
    Calls Try.prog 15 #[v] w fun e w' => e = .returned (.tuple #[.string (Pl.renderOut l), .bool (Pl.renderOk l)]) ∧ Below w.heap.size w w' := by
  have HA := Lib.hid (fun W (hW : Below w.heap.size w W) => specApplyAtoms_any ⟨#[]⟩ true false 0 0 v l W (Nat.zero_le _) (hr.keep hW) hf)
  have E : Hid (Pl.renderOut l = (Pl.apsOut ⟨⟨#[]⟩, true, false, 0, 0⟩ l).t ∧ Pl.renderOk l = Pl.apsOk ⟨⟨#[]⟩, true, false, 0, 0⟩ l) := Lib.hid ⟨rfl, rfl⟩
  have E2 : Hid (Pl.apsOk ⟨⟨#[]⟩, true, false, 0, 0⟩ l = false → (Pl.apsOut ⟨⟨#[]⟩, true, false, 0, 0⟩ l).t = ⟨#[]⟩) := Lib.hid (fun h => Pl.aps_noT h)
  generalize Pl.apsOut ⟨⟨#[]⟩, true, false, 0, 0⟩ l = r at HA E E2
  generalize Pl.apsOk ⟨⟨#[]⟩, true, false, 0, 0⟩ l = ok at HA E E2
  obtain ⟨rt, rj, rg, rc, rk⟩ := r
  dsimp only at HA E E2
  clear hr hf
  cases ok
  · have E3 := Lib.hid (E2.out rfl)
    clear E2
    go_enter Try.func15, Try.ntmps15
    go_wp2_with (first | (go_at_call 30; refine (HA.out _ hb1).mono ?_; rintro e w2 ⟨rfl, hb2⟩; have B2 := Lib.hid (below_nx hb1 hb2); have z1 := B2.out.size; clear hb1 hb2) | (go_at_call 31; refine (l12New_none _).mono ?_; rintro e w1 ⟨rfl, hb1⟩))
    go_ret2
    (have hB := B2.out); exact ⟨ret_strb (by rw [E.out.1, E3.out]) E.out.2.symm, (by repeat (first | with_reducible exact Below.refl _ _ | with_reducible assumption | with_reducible refine Below.alloc ?_ ?_ _ | with_reducible refine Below.setCell ?_ ?_ _ | with_reducible refine Below.drew ?_ | with_reducible refine below_drewN ?_ _ | with_reducible refine Below.trans ?_ (Below.mono (by assumption) ?_) | omega | ((repeat (first | rw [World.size_alloc] | rw [size_setCell] | rw [size_drewN] | rw [size_drew])); omega) | exact Nat.le_refl _ | (dsimp only; omega) | (simp [World.setCell]; omega)))⟩
  · clear E2
    go_enter Try.func15, Try.ntmps15
    go_wp2_with (first | (go_at_call 30; refine (HA.out _ hb1).mono ?_; rintro e w2 ⟨rfl, hb2⟩; have B2 := Lib.hid (below_nx hb1 hb2); have z1 := B2.out.size; clear hb1 hb2) | (go_at_call 31; refine (l12New_none _).mono ?_; rintro e w1 ⟨rfl, hb1⟩))
    go_ret2
    (have hB := B2.out); exact ⟨ret_strb E.out.1.symm E.out.2.symm, (by repeat (first | with_reducible exact Below.refl _ _ | with_reducible assumption | with_reducible refine Below.alloc ?_ ?_ _ | with_reducible refine Below.setCell ?_ ?_ _ | with_reducible refine Below.drew ?_ | with_reducible refine below_drewN ?_ _ | with_reducible refine Below.trans ?_ (Below.mono (by assumption) ?_) | omega | ((repeat (first | rw [World.size_alloc] | rw [size_setCell] | rw [size_drewN] | rw [size_drew])); omega) | exact Nat.le_refl _ | (dsimp only; omega) | (simp [World.setCell]; omega)))⟩

end Go.Proofs.Ytkbbcmbeafjpaab
