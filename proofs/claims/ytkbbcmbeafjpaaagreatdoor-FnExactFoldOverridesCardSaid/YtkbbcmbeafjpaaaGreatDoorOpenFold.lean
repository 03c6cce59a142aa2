/-
  READING ARGUMENTS: slices of folds, opened as 'Rows'. No program is in sight.
-/
import Derived.Test.YtkbbcmbeafjpaaaGreatDoorBasA
import Derived.Test.YtkbbcmbeafjpaaaGreatDoorBasB
import Derived.Deep.SlicePairs
namespace Go.Proofs.YtkbbcmbeafjpaaaGreatDoor
open Go.ChangeShapes Go.WideShapes Go.RowKit Go.Deep
section
variable {H : Type} {enc : TypeId × Value → H} {P : Program} {w : World} {base : Nat} {spare : Nat → Bool} {held : Bool}

theorem folds_range (n : Nat) (f : Nat → Int) (g : Nat → ByteArray) (k : Nat) (h : k < n) :
    (folds ((List.range n).map fun i => (f i, g i)))[k * 2]? = some (.int .i64 (f k)) ∧ (folds ((List.range n).map fun i => (f i, g i)))[k * 2 + 1]? = some (.string (g k)) := by
  have hl : k < ((List.range n).map fun i => (f i, g i)).length := by simpa using h
  have := folds_at _ k hl
  simpa using this

theorem open_foldsR {r : Reach} {b0 : Nat} {t e : TypeId} {f0 f1 : Field} {v : Value} {d : DataW H} {p : List MemPlace} (ht : P.underlying t = some (.slice e)) (he : P.underlying e = some (.struct #[f0, f1]))
    (ce : P.cellsOf e = 2) (o0 : f0.offset = 0) (o1 : f1.offset = 1) (c0 : P.cellsOf f0.type = 1) (c1 : P.cellsOf f1.type = 1) (u0 : P.underlying f0.type = some (.int .i64)) (u1 : P.underlying f1.type = some .string)
    (hv : Value.okWide P w r b0 t v) (h : DataW.Trod enc P w base spare held t v d p) :
    ∃ l : List (Int × ByteArray), Rows w v l.length 2 (folds l) ∧ (∀ q ∈ l, q.2.size ≤ maxLen) := by
  obtain ⟨a0, len, cap, rfl⟩ := okWide_slice ht hv
  obtain ⟨fuel, hf⟩ := h
  rcases open_slice_pairs ht he ce o0 o1 c0 c1 hf with ⟨h1, _⟩ | ⟨a, len', cap', m, n, V0, V1, D0, D1, P0, P1, h1, _, hl, hm, hmm, _, hx⟩
  · simp only [Value.cells, List.cons.injEq, and_true] at h1
    rw [h1]
    exact ⟨[], ⟨none, 0, rfl, Nat.le_refl _, Nat.zero_le _, rfl, fun _ => ⟨rfl, rfl⟩, fun j u hj => by simp [folds] at hj⟩, fun q hq => by simp at hq⟩
  · simp only [Value.cells, List.cons.injEq, and_true] at h1
    rw [h1]
    have hlm : len' ≤ m := by rw [hmm]; split <;> omega
    obtain ⟨F, hF⟩ := choose_lt (α := Int × ByteArray) (p := fun i q => V0 i = .int .i64 q.1 ∧ V1 i = .string q.2 ∧ q.2.size ≤ maxLen) (fun i hi => by
      obtain ⟨_, _, h3, h4⟩ := hx i hi
      obtain ⟨z, ez, _⟩ := DataW.trod_int u0 h3
      obtain ⟨s, es, _, ws⟩ := DataW.trod_string u1 h4
      simp only [List.cons.injEq, and_true] at ez es
      exact ⟨(z, s), ez, es, ws⟩)
    refine ⟨(List.range len').map fun i => ((F i).1, (F i).2), ⟨some a, cap', by simp, by simpa using hl, hm, by rw [folds_length], (fun h => nomatch h), fun j u hj => ?_⟩, fun q hq => ?_⟩
    · have hj' : j < len' * 2 := by
        rcases Nat.lt_or_ge j (len' * 2) with h' | h'
        · exact h'
        · rw [List.getElem?_eq_none (by rw [folds_length]; simpa using h')] at hj; cases hj
      have hk : j / 2 < len' := by omega
      have hs : a.spot = none := by
        have h0 := (hx 0 (by omega)).1
        exact World.cell?_spot (by simpa [Addr.add] using h0)
      obtain ⟨h2, h3, _, _⟩ := hx (j / 2) (by omega)
      obtain ⟨g0, g1, _⟩ := hF (j / 2) (by omega)
      have hr := folds_range len' (fun i => (F i).1) (fun i => (F i).2) (j / 2) hk
      rw [add_spot a hs] at h2 h3
      refine ⟨a.block, a.off, by cases a; cases hs; rfl, ?_⟩
      rcases Nat.mod_two_eq_zero_or_one j with hm2 | hm2
      · have hjj : j / 2 * 2 = j := by omega
        rw [hjj] at h2 hr
        rw [hr.1] at hj
        rw [h2, g0]; exact hj
      · have hjj : j / 2 * 2 + 1 = j := by omega
        rw [hjj] at h3 hr
        rw [hr.2] at hj
        rw [h3, g1]; exact hj
    · simp only [List.mem_map, List.mem_range] at hq
      obtain ⟨i, hi, rfl⟩ := hq
      exact (hF i (by omega)).2.2
end
end Go.Proofs.YtkbbcmbeafjpaaaGreatDoor
