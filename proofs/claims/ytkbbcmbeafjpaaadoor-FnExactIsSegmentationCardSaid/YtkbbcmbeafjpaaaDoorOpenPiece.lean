/-
  READING ARGUMENTS: slices of pieces, opened as 'Rows'. No program is in sight.
-/
import Derived.Test.YtkbbcmbeafjpaaaDoorBasA
import Derived.Test.YtkbbcmbeafjpaaaDoorBasB
import Derived.Deep.SlicePairs
namespace Go.Proofs.YtkbbcmbeafjpaaaDoor
open Go.ChangeShapes Go.WideShapes Go.RowKit Go.Deep
section
variable {H : Type} {enc : TypeId × Value → H} {P : Program} {w : World} {base : Nat} {spare : Nat → Bool} {held : Bool}

theorem pieces_range (n : Nat) (f : Nat → Int × Int × ByteArray) (k : Nat) (h : k < n) :
    (pieces ((List.range n).map f))[k * 3]? = some (.int .i64 (f k).1) ∧ (pieces ((List.range n).map f))[k * 3 + 1]? = some (.int .i64 (f k).2.1) ∧ (pieces ((List.range n).map f))[k * 3 + 2]? = some (.string (f k).2.2) := by
  have hl : k < ((List.range n).map f).length := by simpa using h
  have := pieces_at _ k hl
  simpa using this

theorem open_piecesR {r : Reach} {b0 : Nat} {t e : TypeId} {f0 f1 f2 : Field} {v : Value} {d : DataW H} {p : List MemPlace} (ht : P.underlying t = some (.slice e)) (he : P.underlying e = some (.struct #[f0, f1, f2]))
    (ce : P.cellsOf e = 3) (o0 : f0.offset = 0) (o1 : f1.offset = 1) (o2 : f2.offset = 2) (c0 : P.cellsOf f0.type = 1) (c1 : P.cellsOf f1.type = 1) (c2 : P.cellsOf f2.type = 1)
    (u0 : P.underlying f0.type = some (.int .i64)) (u1 : P.underlying f1.type = some (.int .i64)) (u2 : P.underlying f2.type = some .string)
    (hv : Value.okWide P w r b0 t v) (h : DataW.Trod enc P w base spare held t v d p) :
    ∃ l : List (Int × Int × ByteArray), Rows w v l.length 3 (pieces l) ∧ (∀ q ∈ l, q.2.2.size ≤ maxLen) := by
  obtain ⟨a0, len, cap, rfl⟩ := okWide_slice ht hv
  obtain ⟨fuel, hf⟩ := h
  rcases open_slice ht hf with ⟨h1, _⟩ | ⟨a, len', cap', m, n, D, Pl, h1, _, hl, hm, hmm, _, hx⟩
  · simp only [Value.cells, List.cons.injEq, and_true] at h1
    rw [h1]
    exact ⟨[], ⟨none, 0, rfl, Nat.le_refl _, Nat.zero_le _, rfl, fun _ => ⟨rfl, rfl⟩, fun j u hj => by simp [pieces] at hj⟩, fun q hq => by simp at hq⟩
  · simp only [Value.cells, List.cons.injEq, and_true] at h1
    rw [h1]
    have hlm : len' ≤ m := by rw [hmm]; split <;> omega
    obtain ⟨F, hF⟩ := choose_lt (α := Int × Int × ByteArray) (p := fun i q => w.cell? (a.add (i * 3)) = some (.int .i64 q.1) ∧ w.cell? (a.add (i * 3 + 1)) = some (.int .i64 q.2.1) ∧ w.cell? (a.add (i * 3 + 2)) = some (.string q.2.2) ∧ q.2.2.size ≤ maxLen) (fun i hi => by
      obtain ⟨cs', h1, h2⟩ := hx i hi
      rw [ce] at h1
      obtain ⟨_, hlen, hcell⟩ := World.cells?_some h1
      obtain ⟨xs, k, hk, hxy, _, hxl, hf⟩ := DataW.trod_struct he h2
      match xs, hxl, cs', hlen with
      | [y0, y1, y2], _, [v0, v1, v2], _ =>
        have g0 := hf 0 f0 rfl
        have g1 := hf 1 f1 rfl
        have g2 := hf 2 f2 rfl
        simp [o0, o1, o2, c0, c1, c2] at g0 g1 g2
        have e0 := hcell 0 (by omega)
        have e1 := hcell 1 (by omega)
        have e2 := hcell 2 (by omega)
        rw [add_add] at e0 e1 e2
        obtain ⟨z0, ez0, _⟩ := DataW.trod_int u0 g0
        obtain ⟨z1, ez1, _⟩ := DataW.trod_int u1 g1
        obtain ⟨s, es, _, ws⟩ := DataW.trod_string u2 g2
        simp only [List.cons.injEq, and_true] at ez0 ez1 es
        subst ez0 ez1 es
        exact ⟨(z0, z1, s), by simpa using e0, by simpa using e1, by simpa using e2, ws⟩)
    refine ⟨(List.range len').map F, ⟨some a, cap', by simp, by simpa using hl, hm, by rw [pieces_length], (fun h => nomatch h), fun j u hj => ?_⟩, fun q hq => ?_⟩
    · have hj' : j < len' * 3 := by
        rcases Nat.lt_or_ge j (len' * 3) with h' | h'
        · exact h'
        · rw [List.getElem?_eq_none (by rw [pieces_length]; simpa using h')] at hj; cases hj
      have hk : j / 3 < len' := by omega
      have hs : a.spot = none := by
        have h0 := (hF 0 (by omega)).1
        exact World.cell?_spot (by simpa [Addr.add] using h0)
      obtain ⟨h2, h3, h4, _⟩ := hF (j / 3) (by omega)
      have hr := pieces_range len' F (j / 3) hk
      rw [add_spot a hs] at h2 h3 h4
      refine ⟨a.block, a.off, by cases a; cases hs; rfl, ?_⟩
      have hm3 : j % 3 = 0 ∨ j % 3 = 1 ∨ j % 3 = 2 := by omega
      rcases hm3 with hm3 | hm3 | hm3
      · have hjj : j / 3 * 3 = j := by omega
        rw [hjj] at h2 hr
        rw [hr.1] at hj
        rw [h2]; exact hj
      · have hjj : j / 3 * 3 + 1 = j := by omega
        rw [hjj] at h3 hr
        rw [hr.2.1] at hj
        rw [h3]; exact hj
      · have hjj : j / 3 * 3 + 2 = j := by omega
        rw [hjj] at h4 hr
        rw [hr.2.2] at hj
        rw [h4]; exact hj
    · simp only [List.mem_map, List.mem_range] at hq
      obtain ⟨i, hi, rfl⟩ := hq
      exact (hF i (by omega)).2.2.2
end
end Go.Proofs.YtkbbcmbeafjpaaaDoor
