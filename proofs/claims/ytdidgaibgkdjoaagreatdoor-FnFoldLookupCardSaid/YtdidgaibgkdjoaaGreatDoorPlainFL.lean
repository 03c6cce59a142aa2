/-
  PLAIN: what an outline looked up through folds is, told by lookups, an unfolding and a folded text.
-/
import Derived.Test.YtdidgaibgkdjoaaGreatDoorPlainLF
import Derived.Test.YtdidgaibgkdjoaaGreatDoorBasD
namespace Go.Proofs.YtdidgaibgkdjoaaGreatDoor
open Go.RowKit

theorem fl_from (l : List Ent) (o : List Int) : ∀ (F : List Fo) (k : Nat), (flFrom l o k F).2.2 = true → ∃ (j : Nat) (h : j < F.length), flFrom l o k F = (Pl.foldT (Pl.textD l (Pl.un o (F[j]).1)) (F[j]).2, ((k + j : Nat) : Int), true) ∧ flHit l o F[j] = true
  | [], k, h => by cases h
  | f :: r, k, h => by
    by_cases hf : flHit l o f = true
    · refine ⟨0, Nat.zero_lt_succ _, ?_, hf⟩
      unfold flFrom
      rw [if_pos hf]
      rfl
    · have e : flFrom l o k (f :: r) = flFrom l o (k + 1) r := by
        conv => lhs; unfold flFrom
        rw [if_neg hf]
      rw [e] at h
      obtain ⟨j, hj, h1, h2⟩ := fl_from l o r (k + 1) h
      refine ⟨j + 1, Nat.succ_lt_succ hj, ?_, h2⟩
      rw [e, h1]
      show (_, ((k + 1 + j : Nat) : Int), true) = (_, ((k + (j + 1) : Nat) : Int), true)
      rw [show k + 1 + j = k + (j + 1) by omega]
      rfl
theorem fl_cases (l : List Ent) (F : List Fo) (o : List Int) : (lfOut l F o).2.2 = false ∨ (∃ t, lfOut l F o = (t, -1, true) ∧ lookOk l o = true ∧ lookOut l o = t) ∨
    (∃ (t : ByteArray) (j : Nat) (hj : j < F.length), lfOut l F o = (t, (j : Int), true) ∧ lookOk l o = false ∧ Pl.unfoldOk o (F[j]).1 (F[j]).2 = true ∧ lookOk l (Pl.unfoldOut o (F[j]).1 (F[j]).2) = true ∧
      Pl.foldedOk (F[j]).1 (lookOut l (Pl.unfoldOut o (F[j]).1 (F[j]).2)) (F[j]).2 = true ∧ Pl.foldedOut (F[j]).1 (lookOut l (Pl.unfoldOut o (F[j]).1 (F[j]).2)) (F[j]).2 = t) := by
  by_cases hk : lfOk l F o = true
  · obtain ⟨h1, h2, h3⟩ := lfOk_told hk
    have e : lfOut l F o = flAll l F o := by unfold lfOut; rw [if_pos hk]
    rw [e]
    by_cases hd : Pl.hasD l o = true
    · refine .inr (.inl ⟨Pl.textD l o, ?_, ?_, ?_⟩)
      · unfold flAll; rw [if_pos hd]
      · unfold lookOk; rw [h1, hd]; rfl
      · unfold lookOut; rw [if_pos h1]
    · have e2 : flAll l F o = flFrom l o 0 F := by unfold flAll; rw [if_neg hd]
      rw [e2]
      by_cases hb : (flFrom l o 0 F).2.2 = true
      · obtain ⟨j, hj, h4, h5⟩ := fl_from l o F 0 hb
        rw [Nat.zero_add] at h4
        have h6 := folds_at_ok h2 hj
        unfold flHit at h5
        rw [Bool.and_eq_true, Bool.and_eq_true] at h5
        have h7 : Pl.unfoldOk o (F[j]).1 (F[j]).2 = true := by unfold Pl.unfoldOk; rw [h3, h6, h5.1.1]; rfl
        have h8 : Pl.unfoldOut o (F[j]).1 (F[j]).2 = Pl.un o (F[j]).1 := (unfold_good h3 h6).1
        have h9 : lookOut l (Pl.un o (F[j]).1) = Pl.textD l (Pl.un o (F[j]).1) := by unfold lookOut; rw [if_pos h1]
        have h10 : Pl.foldedOk (F[j]).1 (Pl.textD l (Pl.un o (F[j]).1)) (F[j]).2 = true := by unfold Pl.foldedOk; rw [h6, h5.2]; rfl
        refine .inr (.inr ⟨_, j, hj, h4, ?_, h7, ?_, ?_, ?_⟩)
        · unfold lookOk
          rw [h1, Bool.true_and]
          exact Bool.not_eq_true _ ▸ hd
        · rw [h8]; unfold lookOk; rw [h1, h5.1.2]; rfl
        · rw [h8, h9]; exact h10
        · rw [h8, h9]; unfold Pl.foldedOut; rw [if_pos h10]
      · exact .inl (Bool.not_eq_true _ ▸ hb)
  · left
    unfold lfOut
    rw [if_neg hk]

end Go.Proofs.YtdidgaibgkdjoaaGreatDoor
