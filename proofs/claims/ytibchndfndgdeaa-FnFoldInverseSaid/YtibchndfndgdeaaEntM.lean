/-
  ENTRIES AS THEY LIE: a slice of entries, each an outline (a slice of integers) and a text. No program is in sight.
-/
import Derived.Test.YtibchndfndgdeaaOpenSl
import Derived.Deep.SlicePairs
namespace Go.Proofs.Ytibchndfndgdeaa
open Go.RowKit

/-- an entry: an outline and a text -/
abbrev Ent := List Int × ByteArray

/-- a slice of entries as it lies -/
def Ents (w : World) (v : Value) (l : List Ent) : Prop :=
  ∃ a cap, v = .slice a l.length cap ∧ l.length ≤ cap ∧ cap ≤ maxLen ∧ (a = none → l.length = 0 ∧ cap = 0) ∧
    ∀ (k : Nat) (h : k < l.length), ∃ b off u, a = some ⟨b, off, none⟩ ∧ w.cell? ⟨b, off + k * 2, none⟩ = some u ∧ w.cell? ⟨b, off + k * 2 + 1, none⟩ = some (.string (l[k]).2) ∧ Rows w u (l[k]).1.length 1 (ints (l[k]).1)

theorem Ents.keep {w w' : World} {v : Value} {l : List Ent} (h : Ents w v l) (hb : Below w.heap.size w w') : Ents w' v l := by
  obtain ⟨a, cap, h1, h2, h3, h4, h5⟩ := h
  refine ⟨a, cap, h1, h2, h3, h4, fun k hk => ?_⟩
  obtain ⟨b, off, u, e1, e2, e3, e4⟩ := h5 k hk
  exact ⟨b, off, u, e1, by rw [hb.cell (World.block_lt_of_cell? _ _ e2)]; exact e2, by rw [hb.cell (World.block_lt_of_cell? _ _ e3)]; exact e3, e4.keep hb⟩
theorem Ents.drew {w : World} {v : Value} {l : List Ent} (h : Ents w v l) (k : Nat) : Ents (w.drewN k) v l := h
theorem ent_form {w : World} {v : Value} {l : List Ent} (h : Ents w v l) : ∃ a cap, v = .slice a l.length cap ∧ l.length ≤ cap ∧ cap ≤ maxLen := by
  obtain ⟨a, cap, h1, h2, h3, _⟩ := h
  exact ⟨a, cap, h1, h2, h3⟩
/-- the cells of the entry at k, the slice's address being known -/
theorem ent_at {w : World} {a : Option Addr} {n cap : Nat} {l : List Ent} (h : Ents w (.slice a n cap) l) (k : Nat) (hk : k < l.length) :
    ∃ b off u, a = some ⟨b, off, none⟩ ∧ w.cell? ⟨b, off + k * 2, none⟩ = some u ∧ w.cell? ⟨b, off + k * 2 + 1, none⟩ = some (.string (l[k]).2) ∧ Rows w u (l[k]).1.length 1 (ints (l[k]).1) := by
  obtain ⟨a', cap', h1, h2, h3, h4, h5⟩ := h
  cases h1
  exact h5 k hk
theorem rows_form {w : World} {v : Value} {n size : Nat} {xs : List Value} (h : Rows w v n size xs) : ∃ a cap, v = .slice a n cap ∧ n ≤ cap ∧ cap ≤ maxLen := by
  obtain ⟨a, cap, h1, h2, h3, _⟩ := h
  exact ⟨a, cap, h1, h2, h3⟩

section
open Go.ChangeShapes Go.WideShapes Go.Deep
variable {H : Type} {enc : TypeId × Value → H} {P : Program} {w : World} {base : Nat} {spare : Nat → Bool} {held : Bool}

theorem ints_of_trod {t e : TypeId} {fuel : Nat} {v : Value} {x : DataW H × List MemPlace} (ht : P.underlying t = some (.slice e)) (he : P.underlying e = some (.int .i64)) (hc : P.cellsOf e = 1)
    (hf : DataW.trod enc P w base spare held fuel t [v] = some x) :
    ∃ l : List Int, Rows w v l.length 1 (ints l) ∧ (∀ n ∈ l, (Lit.int .i64 n).wf = true) := by
  rcases open_ints ht he hc hf with ⟨h1, _⟩ | ⟨a, len', cap', zs, h1, _, hl, hm, hz, _, hx, hw⟩
  · simp only [List.cons.injEq, and_true] at h1
    rw [h1]
    exact ⟨[], ⟨none, 0, rfl, Nat.le_refl _, Nat.zero_le _, rfl, fun _ => ⟨rfl, rfl⟩, fun j u hj => by simp [ints] at hj⟩, fun n hn => by simp at hn⟩
  · simp only [List.cons.injEq, and_true] at h1
    rw [h1]
    have hle : len' ≤ zs.length := by rw [hz]; split <;> omega
    have hlen : (zs.take len').length = len' := by rw [List.length_take]; omega
    refine ⟨zs.take len', ⟨some a, cap', by rw [hlen], by omega, hm, by simp [ints], (fun h => nomatch h), fun j u hj => ?_⟩, fun n hn => hw n (List.mem_of_mem_take hn)⟩
    have hj' : j < len' := by
      rcases Nat.lt_or_ge j len' with h' | h'
      · exact h'
      · rw [List.getElem?_eq_none (by rw [ints_length, hlen]; exact h')] at hj; cases hj
    have hcell := hx j (by omega)
    have hs : a.spot = none := by
      have h0 := hx 0 (by omega)
      exact World.cell?_spot (by simpa [Addr.add] using h0)
    rw [add_spot a hs] at hcell
    refine ⟨a.block, a.off, by cases a; cases hs; rfl, ?_⟩
    rw [hcell, ← hj]
    simp only [ints, List.getElem?_map, List.getElem?_take, if_pos hj', List.getD_eq_getElem?_getD, List.getElem?_eq_getElem (show j < zs.length by omega)]
    rfl

theorem ents_of_trod {t e ti : TypeId} {f0 f1 : Field} {fuel : Nat} {v : Value} {x : DataW H × List MemPlace} (ht : P.underlying t = some (.slice e)) (he : P.underlying e = some (.struct #[f0, f1]))
    (ce : P.cellsOf e = 2) (o0 : f0.offset = 0) (o1 : f1.offset = 1) (c0 : P.cellsOf f0.type = 1) (c1 : P.cellsOf f1.type = 1) (u0 : P.underlying f0.type = some (.slice ti)) (ui : P.underlying ti = some (.int .i64)) (ci : P.cellsOf ti = 1) (u1 : P.underlying f1.type = some .string)
    (hf : DataW.trod enc P w base spare held fuel t [v] = some x) :
    ∃ l : List Ent, Ents w v l ∧ (∀ q ∈ l, (∀ n ∈ q.1, (Lit.int .i64 n).wf = true) ∧ q.2.size ≤ maxLen) := by
  rcases open_slice_pairs ht he ce o0 o1 c0 c1 hf with ⟨h1, _⟩ | ⟨a, len', cap', m, n, V0, V1, D0, D1, P0, P1, h1, _, hl, hm, hmm, _, hx⟩
  · simp only [List.cons.injEq, and_true] at h1
    rw [h1]
    exact ⟨[], ⟨none, 0, rfl, Nat.le_refl _, Nat.zero_le _, fun _ => ⟨rfl, rfl⟩, fun k hk => by simp at hk⟩, fun q hq => by simp at hq⟩
  · simp only [List.cons.injEq, and_true] at h1
    rw [h1]
    have hlm : len' ≤ m := by rw [hmm]; split <;> omega
    obtain ⟨F, hF⟩ := choose_lt (α := Ent) (p := fun i q => Rows w (V0 i) q.1.length 1 (ints q.1) ∧ (∀ n ∈ q.1, (Lit.int .i64 n).wf = true) ∧ V1 i = .string q.2 ∧ q.2.size ≤ maxLen) (fun i hi => by
      obtain ⟨_, _, h3, h4⟩ := hx i hi
      obtain ⟨z, hz, hz2⟩ := ints_of_trod u0 ui ci h3
      obtain ⟨s, es, _, ws⟩ := DataW.trod_string u1 h4
      simp only [List.cons.injEq, and_true] at es
      exact ⟨(z, s), hz, hz2, es, ws⟩)
    refine ⟨(List.range len').map F, ⟨some a, cap', by simp, by simpa using hl, hm, (fun h => nomatch h), fun k hk => ?_⟩, fun q hq => ?_⟩
    · have hk' : k < len' := by simpa using hk
      have hs : a.spot = none := by
        have h0 := (hx 0 (by omega)).1
        exact World.cell?_spot (by simpa [Addr.add] using h0)
      obtain ⟨h2, h3, _, _⟩ := hx k (by omega)
      obtain ⟨g0, _, g1, _⟩ := hF k (by omega)
      rw [add_spot a hs] at h2 h3
      have e : ((List.range len').map F)[k] = F k := by simp
      rw [e]
      exact ⟨a.block, a.off, V0 k, by cases a; cases hs; rfl, h2, by rw [← g1]; exact h3, g0⟩
    · simp only [List.mem_map, List.mem_range] at hq
      obtain ⟨i, hi, rfl⟩ := hq
      exact ⟨(hF i (by omega)).2.1, (hF i (by omega)).2.2.2⟩

theorem open_entsR {r : Reach} {b0 : Nat} {t e ti : TypeId} {f0 f1 : Field} {v : Value} {d : DataW H} {p : List MemPlace} (ht : P.underlying t = some (.slice e)) (he : P.underlying e = some (.struct #[f0, f1]))
    (ce : P.cellsOf e = 2) (o0 : f0.offset = 0) (o1 : f1.offset = 1) (c0 : P.cellsOf f0.type = 1) (c1 : P.cellsOf f1.type = 1) (u0 : P.underlying f0.type = some (.slice ti)) (ui : P.underlying ti = some (.int .i64)) (ci : P.cellsOf ti = 1) (u1 : P.underlying f1.type = some .string)
    (hv : Value.okWide P w r b0 t v) (h : DataW.Trod enc P w base spare held t v d p) :
    ∃ l : List Ent, Ents w v l ∧ (∀ q ∈ l, (∀ n ∈ q.1, (Lit.int .i64 n).wf = true) ∧ q.2.size ≤ maxLen) := by
  obtain ⟨a0, len, cap, rfl⟩ := okWide_slice ht hv
  obtain ⟨fuel, hf⟩ := h
  exact ents_of_trod ht he ce o0 o1 c0 c1 u0 ui ci u1 hf

/-- a dictionary: a struct of one field -/
theorem open_dictR {r : Reach} {b0 : Nat} {t te e ti : TypeId} {g0 f0 f1 : Field} {v : Value} {d : DataW H} {p : List MemPlace} (hs : P.underlying t = some (.struct #[g0])) (hone : oneCellFields P #[g0] = true) (hC : P.cellsOf t = 1) (hg : g0.type = te)
    (ht : P.underlying te = some (.slice e)) (he : P.underlying e = some (.struct #[f0, f1]))
    (ce : P.cellsOf e = 2) (o0 : f0.offset = 0) (o1 : f1.offset = 1) (c0 : P.cellsOf f0.type = 1) (c1 : P.cellsOf f1.type = 1) (u0 : P.underlying f0.type = some (.slice ti)) (ui : P.underlying ti = some (.int .i64)) (ci : P.cellsOf ti = 1) (u1 : P.underlying f1.type = some .string)
    (hv : Value.okWide P w r b0 t v) (h : DataW.Trod enc P w base spare held t v d p) :
    ∃ (l : List Ent) (u : Value), v = .agg #[u] ∧ Ents w u l ∧ (∀ q ∈ l, (∀ n ∈ q.1, (Lit.int .i64 n).wf = true) ∧ q.2.size ≤ maxLen) := by
  obtain ⟨cs, rfl, hl, n, hg2⟩ := open_agg hs hone hC hv h
  obtain ⟨c, y, e1, e2⟩ := hg2 0 g0 rfl
  obtain rfl := list1 hl e1
  rw [hg] at e2
  obtain ⟨l, h1, h2⟩ := ents_of_trod ht he ce o0 o1 c0 c1 u0 ui ci u1 e2
  exact ⟨l, c, rfl, h1, h2⟩
end

end Go.Proofs.Ytibchndfndgdeaa
