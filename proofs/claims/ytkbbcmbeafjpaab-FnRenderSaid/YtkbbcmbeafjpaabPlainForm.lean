/-
  PLAIN: two lists of atoms applied one after the other. No program is in sight.
-/
import Derived.Test.YtkbbcmbeafjpaabPlainAtoms
namespace Go.Proofs.Ytkbbcmbeafjpaab
namespace Pl

theorem aps_nilled {s : Sta} {l : List (Int × ByteArray)} (h : apsOk s l = false) : apsOut s l = nil := by
  unfold apsOk at h
  unfold apsOut
  split
  · rename_i h1
    rw [h1] at h
    cases ha : aps s l
    · rfl
    · rw [ha] at h; cases h
  · rfl
theorem apsOk_told {s : Sta} {l : List (Int × ByteArray)} (h : apsOk s l = true) : sOk s = true ∧ l.length ≤ 600 ∧ aps s l = some (apsOut s l) := by
  have h0 := h
  simp only [apsOk, Bool.and_eq_true, decide_eq_true_iff] at h
  refine ⟨h.1.1, h.1.2, ?_⟩
  unfold apsOut
  rw [if_pos (by rw [h.1.1, decide_eq_true h.1.2]; rfl)]
  cases ha : aps s l
  · rw [ha] at h; cases h.2
  · rfl
theorem aps_empty {s : Sta} (h : apsOk s [] = true) : apsOut s [] = s := by
  have := (apsOk_told h).2.2
  simp only [aps, Option.some.injEq] at this
  exact this.symm
theorem aps_split {s : Sta} {l : List (Int × ByteArray)} (h : apsOk s l = true) (k : Nat) :
    apsOk s (l.take k) = true ∧ apsOk (apsOut s (l.take k)) (l.drop k) = true ∧ apsOut (apsOut s (l.take k)) (l.drop k) = apsOut s l := by
  obtain ⟨h1, h2, h3⟩ := apsOk_told h
  have e := aps_app s (l.take k) (l.drop k)
  rw [List.take_append_drop, h3] at e
  cases ha : aps s (l.take k)
  · rw [ha] at e; cases e
  · rename_i u
    rw [ha] at e
    have e2 : aps u (l.drop k) = some (apsOut s l) := e.symm
    have hu := aps_ok h1 ha
    obtain ⟨a1, a2⟩ := aps_some h1 (by rw [List.length_take]; omega) ha
    obtain ⟨b1, b2⟩ := aps_some hu (by rw [List.length_drop]; omega) e2
    rw [a2]
    exact ⟨a1, b1, b2⟩

end Pl
end Go.Proofs.Ytkbbcmbeafjpaab
