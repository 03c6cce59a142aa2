/-
  CONTRACTS: Render of the program and of the reference; the size of a list of atoms, whatever is left.
-/
import Derived.Test.YtdidgaibgkdjoaaGreatDoorStAtoms
namespace Go.Proofs.YtdidgaibgkdjoaaGreatDoor
open Go.RowKit

theorem Pl.none_empty : (⟨#[]⟩ : ByteArray).toList.isEmpty = true := by rw [ba_toList]; rfl
theorem l12New_none (w : World) :
    Calls Tryz.prog 124 #[.string ⟨#[]⟩] w fun e w' => e = .returned (.agg #[.string ⟨#[]⟩, .bool true, .bool false, .int .i64 0, .int .i64 0]) ∧ Below w.heap.size w w' := by
  have h := l12New_any ⟨#[]⟩ w
  rw [Pl.none_empty] at h
  exact h

set_option maxHeartbeats 800000 in
theorem Render_any (v : Value) (l : List (Int × ByteArray)) (w : World) (hr : Rows w v l.length 2 (folds l)) (hf : ∀ p ∈ l, p.2.size ≤ maxLen) :
    Calls Tryz.prog 133 #[v] w fun e w' => e = .returned (.tuple #[.string (Pl.renderOut l), .bool (Pl.renderOk l)]) ∧ Below w.heap.size w w' := by
  have HA := Lib.hid (ApplyAtoms_any ⟨#[]⟩ true false 0 0 v l w (Nat.zero_le _) hr hf)
  have E : Hid (Pl.renderOut l = (Pl.apsOut ⟨⟨#[]⟩, true, false, 0, 0⟩ l).t ∧ Pl.renderOk l = Pl.apsOk ⟨⟨#[]⟩, true, false, 0, 0⟩ l) := Lib.hid ⟨rfl, rfl⟩
  generalize Pl.apsOut ⟨⟨#[]⟩, true, false, 0, 0⟩ l = r at HA E
  generalize Pl.apsOk ⟨⟨#[]⟩, true, false, 0, 0⟩ l = ok at HA E
  obtain ⟨rt, rj, rg, rc, rk⟩ := r
  dsimp only at HA E
  clear hr hf
  go_enter Tryz.func133, Tryz.ntmps133
  go_wp2_with (go_at_call 166; refine HA.out.mono ?_; rintro e w1 ⟨rfl, hb1⟩; have z1 := hb1.size)
  go_ret2
  exact ⟨ret_strb E.out.1.symm E.out.2.symm, (by repeat (first | with_reducible exact Below.refl _ _ | with_reducible assumption | with_reducible refine Below.alloc ?_ ?_ _ | with_reducible refine Below.setCell ?_ ?_ _ | with_reducible refine Below.drew ?_ | with_reducible refine below_drewN ?_ _ | with_reducible refine Below.trans ?_ (Below.mono (by assumption) ?_) | omega | ((repeat (first | rw [World.size_alloc] | rw [size_setCell] | rw [size_drewN] | rw [size_drew])); omega) | exact Nat.le_refl _ | (dsimp only; omega) | (simp [World.setCell]; omega)))⟩

end Go.Proofs.YtdidgaibgkdjoaaGreatDoor
