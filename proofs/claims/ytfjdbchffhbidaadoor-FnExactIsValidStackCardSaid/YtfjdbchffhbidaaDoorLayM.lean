/-
  PLAIN: a slice of layers in memory (a layer: a dictionary and whether it is on), and the law's own arguments of that kind.
-/
import Derived.Test.YtfjdbchffhbidaaDoorEntM
namespace Go.Proofs.YtfjdbchffhbidaaDoor
open Go.RowKit

abbrev Lay := List Ent × Bool
def Lays (w : World) (v : Value) (l : List Lay) : Prop :=
  ∃ a cap, v = .slice a l.length cap ∧ l.length ≤ cap ∧ cap ≤ maxLen ∧ (a = none → l.length = 0 ∧ cap = 0) ∧
    ∀ (k : Nat) (h : k < l.length), ∃ b off u, a = some ⟨b, off, none⟩ ∧ w.cell? ⟨b, off + k * 2, none⟩ = some u ∧ w.cell? ⟨b, off + k * 2 + 1, none⟩ = some (.bool (l[k]).2) ∧ Ents w u (l[k]).1

theorem Lays.keep {w w' : World} {v : Value} {l : List Lay} (h : Lays w v l) (hb : Below w.heap.size w w') : Lays w' v l := by
  obtain ⟨a, cap, h1, h2, h3, h4, h5⟩ := h
  refine ⟨a, cap, h1, h2, h3, h4, fun k hk => ?_⟩
  obtain ⟨b, off, u, e1, e2, e3, e4⟩ := h5 k hk
  exact ⟨b, off, u, e1, by rw [hb.cell (World.block_lt_of_cell? _ _ e2)]; exact e2, by rw [hb.cell (World.block_lt_of_cell? _ _ e3)]; exact e3, e4.keep hb⟩
theorem Lays.drew {w : World} {v : Value} {l : List Lay} (h : Lays w v l) (k : Nat) : Lays (w.drewN k) v l := h
theorem lay_form {w : World} {v : Value} {l : List Lay} (h : Lays w v l) : ∃ a cap, v = .slice a l.length cap ∧ l.length ≤ cap ∧ cap ≤ maxLen := by
  obtain ⟨a, cap, h1, h2, h3, _⟩ := h
  exact ⟨a, cap, h1, h2, h3⟩
/-- the cells of the layer at k, the slice's address being known -/
theorem lay_at {w : World} {a : Option Addr} {n cap : Nat} {l : List Lay} (h : Lays w (.slice a n cap) l) (k : Nat) (hk : k < l.length) :
    ∃ b off u, a = some ⟨b, off, none⟩ ∧ w.cell? ⟨b, off + k * 2, none⟩ = some u ∧ w.cell? ⟨b, off + k * 2 + 1, none⟩ = some (.bool (l[k]).2) ∧ Ents w u (l[k]).1 := by
  obtain ⟨a', cap', h1, h2, h3, h4, h5⟩ := h
  cases h1
  exact h5 k hk

/-- what the given statement says of each entry -/
def EntWf (q : Ent) : Prop := (∀ n ∈ q.1, (Lit.int .i64 n).wf = true) ∧ q.2.size ≤ maxLen

section
open Go.ChangeShapes Go.WideShapes Go.Deep
variable {H : Type} {enc : TypeId × Value → H} {P : Program} {w : World} {base : Nat} {spare : Nat → Bool} {held : Bool}

theorem lays_of_trod {t s te e ti : TypeId} {k0 k1 g0 f0 f1 : Field} {fuel : Nat} {v : Value} {x : DataW H × List MemPlace} (ht : P.underlying t = some (.slice s)) (hs : P.underlying s = some (.struct #[k0, k1]))
    (cs : P.cellsOf s = 2) (p0 : k0.offset = 0) (p1 : k1.offset = 1) (d0 : P.cellsOf k0.type = 1) (d1 : P.cellsOf k1.type = 1) (hk0 : P.underlying k0.type = some (.struct #[g0])) (hk1 : P.underlying k1.type = some .bool)
    (hg : g0.type = te) (og : g0.offset = 0) (cg : P.cellsOf te = 1)
    (hte : P.underlying te = some (.slice e)) (he : P.underlying e = some (.struct #[f0, f1]))
    (ce : P.cellsOf e = 2) (o0 : f0.offset = 0) (o1 : f1.offset = 1) (c0 : P.cellsOf f0.type = 1) (c1 : P.cellsOf f1.type = 1) (u0 : P.underlying f0.type = some (.slice ti)) (ui : P.underlying ti = some (.int .i64)) (ci : P.cellsOf ti = 1) (u1 : P.underlying f1.type = some .string)
    (hf : DataW.trod enc P w base spare held fuel t [v] = some x) :
    ∃ l : List Lay, Lays w v l ∧ (∀ q ∈ l, ∀ p ∈ q.1, EntWf p) := by
  rcases open_slice_pairs ht hs cs p0 p1 d0 d1 hf with ⟨h1, _⟩ | ⟨a, len', cap', m, n, V0, V1, D0, D1, P0, P1, h1, _, hl, hm, hmm, _, hx⟩
  · simp only [List.cons.injEq, and_true] at h1
    rw [h1]
    exact ⟨[], ⟨none, 0, rfl, Nat.le_refl _, Nat.zero_le _, fun _ => ⟨rfl, rfl⟩, fun k hk => by simp at hk⟩, fun q hq => by simp at hq⟩
  · simp only [List.cons.injEq, and_true] at h1
    rw [h1]
    have hlm : len' ≤ m := by rw [hmm]; split <;> omega
    obtain ⟨F, hF⟩ := choose_lt (α := Lay) (p := fun i q => Ents w (V0 i) q.1 ∧ (∀ p ∈ q.1, EntWf p) ∧ V1 i = .bool q.2) (fun i hi => by
      obtain ⟨_, _, h3, h4⟩ := hx i hi
      obtain ⟨y0, n2, _, _, h5⟩ := trod_struct1 hk0 h3
      rw [hg, og, cg] at h5
      obtain ⟨z, hz, hz2⟩ := ents_of_trod hte he ce o0 o1 c0 c1 u0 ui ci u1 h5
      obtain ⟨bb, eb, _⟩ := DataW.trod_bool hk1 h4
      simp only [List.cons.injEq, and_true] at eb
      exact ⟨(z, bb), hz, hz2, eb⟩)
    refine ⟨(List.range len').map F, ⟨some a, cap', by simp, by simpa using hl, hm, (fun h => nomatch h), fun k hk => ?_⟩, fun q hq => ?_⟩
    · have hk' : k < len' := by simpa using hk
      have hs : a.spot = none := by
        have h0 := (hx 0 (by omega)).1
        exact World.cell?_spot (by simpa [Addr.add] using h0)
      obtain ⟨h2, h3, _, _⟩ := hx k (by omega)
      obtain ⟨g0, _, g1⟩ := hF k (by omega)
      rw [add_spot a hs] at h2 h3
      have e : ((List.range len').map F)[k] = F k := by simp
      rw [e]
      exact ⟨a.block, a.off, V0 k, by cases a; cases hs; rfl, h2, by rw [← g1]; exact h3, g0⟩
    · simp only [List.mem_map, List.mem_range] at hq
      obtain ⟨i, hi, rfl⟩ := hq
      exact (hF i (by omega)).2.1

/-- a stack: a struct of one field -/
theorem open_stackR {r : Reach} {b0 : Nat} {t tl s te e ti : TypeId} {j0 k0 k1 g0 f0 f1 : Field} {v : Value} {d : DataW H} {p : List MemPlace} (hj : P.underlying t = some (.struct #[j0])) (hone : oneCellFields P #[j0] = true) (hC : P.cellsOf t = 1) (hjt : j0.type = tl)
    (ht : P.underlying tl = some (.slice s)) (hs : P.underlying s = some (.struct #[k0, k1]))
    (cs : P.cellsOf s = 2) (p0 : k0.offset = 0) (p1 : k1.offset = 1) (d0 : P.cellsOf k0.type = 1) (d1 : P.cellsOf k1.type = 1) (hk0 : P.underlying k0.type = some (.struct #[g0])) (hk1 : P.underlying k1.type = some .bool)
    (hg : g0.type = te) (og : g0.offset = 0) (cg : P.cellsOf te = 1)
    (hte : P.underlying te = some (.slice e)) (he : P.underlying e = some (.struct #[f0, f1]))
    (ce : P.cellsOf e = 2) (o0 : f0.offset = 0) (o1 : f1.offset = 1) (c0 : P.cellsOf f0.type = 1) (c1 : P.cellsOf f1.type = 1) (u0 : P.underlying f0.type = some (.slice ti)) (ui : P.underlying ti = some (.int .i64)) (ci : P.cellsOf ti = 1) (u1 : P.underlying f1.type = some .string)
    (hv : Value.okWide P w r b0 t v) (h : DataW.Trod enc P w base spare held t v d p) :
    ∃ (l : List Lay) (u : Value), v = .agg #[u] ∧ Lays w u l ∧ (∀ q ∈ l, ∀ p ∈ q.1, EntWf p) := by
  obtain ⟨cs', rfl, hl, n, hg2⟩ := open_agg hj hone hC hv h
  obtain ⟨c, y, e1, e2⟩ := hg2 0 j0 rfl
  obtain rfl := list1 hl e1
  rw [hjt] at e2
  obtain ⟨l, h1, h2⟩ := lays_of_trod ht hs cs p0 p1 d0 d1 hk0 hk1 hg og cg hte he ce o0 o1 c0 c1 u0 ui ci u1 e2
  exact ⟨l, c, rfl, h1, h2⟩
end

end Go.Proofs.YtfjdbchffhbidaaDoor
