/-
  MEMORY: a variable that holds a dictionary; a drawn dictionary's entries written.
-/
import Derived.Test.YtdidgaibgkdjoaaGreatDoorDrawInto
namespace Go.Proofs.YtdidgaibgkdjoaaGreatDoor
open Go.RowKit

/-- the variable b holds the dictionary with the row dv -/
def VarD (w : World) (b : Nat) (dv : Value) : Prop := w.heap[b]? = some (.cells #[dv] 26 (0, 0))
theorem VarD.new (w : World) (dv : Value) : VarD (w.alloc (.cells #[dv] 26)) w.heap.size dv := heap_alloc_new w _
theorem VarD.lt {w : World} {b : Nat} {dv : Value} (h : VarD w b dv) : b < w.heap.size := (Array.getElem?_eq_some_iff.1 h).1
theorem VarD.cell {w : World} {b : Nat} {dv : Value} (h : VarD w b dv) : w.cell? ⟨b, 0, none⟩ = some dv := by
  unfold VarD at h
  simp [World.cell?, h]
theorem VarD.thaw {w : World} {b : Nat} {dv : Value} (h : VarD w b dv) (j : Nat) : w.frozen? ⟨b, j, none⟩ = false := by
  unfold VarD at h
  simp [World.frozen?, h]
theorem VarD.grown {w w' : World} {b : Nat} {dv : Value} {r : Option Nat} (h : VarD w b dv) (hg : w.grownBy w' r) (hr : r ≠ some b) : VarD w' b dv :=
  (hg.block b h.lt (fun e => hr e.symm)).trans h
theorem VarD.keep {w w' : World} {b : Nat} {dv : Value} (h : VarD w b dv) (hb : Below w.heap.size w w') : VarD w' b dv := h.grown (below_grown hb none) (by intro e; cases e)
theorem VarD.alloc {w : World} {b : Nat} {dv : Value} (h : VarD w b dv) (o : Obj) : VarD (w.alloc o) b dv := h.keep (Joins.below_alloc1 _ _)
theorem VarD.read {v0 : Value} {m g B : Nat} {a c : World} {b : Nat} {dv : Value} (h : VarD a b dv) (hd : Read v0 m g B a c) (hg : b ≠ g) : VarD c b dv := h.grown hd.2 (fun e => hg (by injection e with e; exact e.symm))
theorem VarD.store {w : World} {b : Nat} {dv : Value} (h : VarD w b dv) (x : Value) : VarD (w.setCell ⟨b, 0, none⟩ x) b x := heap_setCell_same w b 0 _ _ x h
theorem VarD.other {w : World} {b c i : Nat} {dv : Value} (h : VarD w b dv) (hne : b ≠ c) (x : Value) : VarD (w.setCell ⟨c, i, none⟩ x) b dv := h.grown (grown_set w c i x) (fun e => hne (by injection e with e; exact e.symm))
/-- an entry's row and an outline's row are not the variable -/
theorem VarD.apart {w : World} {b base s n : Nat} {dv u : Value} {E : TypeId} {xs : List Value} (h : VarD w b dv) (hu : w.ownsRow base E s u n xs) (hE : 26 ≠ E) : u.ownBlock ≠ some b := by
  rcases hu.2 with ⟨rfl, _⟩ | ⟨g1, c1, u1, rfl, _, k1, _⟩
  · simp [Value.ownBlock]
  · simp only [Value.ownBlock, ne_eq, Option.some.injEq]
    intro e
    subst e
    unfold VarD at h
    rw [h] at k1
    cases k1
    exact hE rfl
theorem OwnD.var {w : World} {base b : Nat} {v dv : Value} {l : List Ent} (h : OwnD w base v l) (hv : VarD w b dv) (x : Value) : OwnD (w.setCell ⟨b, 0, none⟩ x) base v l :=
  h.kept (grown_set w b 0 x) (fun g hg => .inr (by cases hg; exact ⟨_, _, _, hv, by decide, by decide⟩))
/-- a cell of a row of the call's own is written -/
theorem own_set {w : World} {base la n c s : Nat} {E : TypeId} {xs : List Value} (h : w.ownsRow base E s (.slice (some ⟨la, 0, none⟩) n c) n xs) (i : Nat) (y : Value) : (w.setCell ⟨la, i, none⟩ y).ownsRow base E s (.slice (some ⟨la, 0, none⟩) n c) n (xs.set i y) := by
  obtain ⟨h1, h2⟩ := h
  refine ⟨by rw [List.length_set]; exact h1, ?_⟩
  rcases h2 with ⟨h3, _⟩ | ⟨g, cap, cur, e, h3, h4, h5, h6, h7, h8⟩
  · cases h3
  · cases e
    refine .inr ⟨la, c, cur.setIfInBounds i y, rfl, h3, heap_setCell_same _ _ _ _ _ _ h4, h5, h6, by rw [Array.size_setIfInBounds]; exact h7, ?_⟩
    rw [Array.toList_setIfInBounds, List.take_set, h8]
/-- the text of an entry is written -/
theorem OwnD.setText {w : World} {base la c : Nat} {L : List Ent} (h : OwnD w base (.slice (some ⟨la, 0, none⟩) L.length c) L) (j : Nat) (hj : j < L.length) (t : ByteArray) :
    OwnD (w.setCell ⟨la, j * 2 + 1, none⟩ (.string t)) base (.slice (some ⟨la, 0, none⟩) L.length c) (L.set j ((L[j]).1, t)) := by
  obtain ⟨xs, h1, h2⟩ := h
  have hl : xs.length = L.length * 2 := h1.1
  refine ⟨xs.set (j * 2 + 1) (.string t), by rw [List.length_set]; exact own_set h1 _ _, fun i hi => ?_⟩
  rw [List.length_set] at hi
  obtain ⟨u, e1, e2, e3⟩ := h2 i hi
  have hk : (w.setCell ⟨la, j * 2 + 1, none⟩ (.string t)).ownsRow base 3 1 u (L[i]).1.length (ints (L[i]).1) := e3.kept (grown_set _ _ _ _) (apartT e3 h1 (by decide))
  rw [List.getElem_set]
  rcases Nat.decEq j i with hne | rfl
  · rw [if_neg hne]
    exact ⟨u, by rw [List.getElem?_set_ne (by omega)]; exact e1, by rw [List.getElem?_set_ne (by omega)]; exact e2, hk⟩
  · rw [if_pos rfl]
    exact ⟨u, by rw [List.getElem?_set_ne (by omega)]; exact e1, by rw [List.getElem?_set_self (by omega)], hk⟩
/-- the outline of an entry is written -/
theorem OwnD.setOut {w : World} {base la c : Nat} {L : List Ent} (h : OwnD w base (.slice (some ⟨la, 0, none⟩) L.length c) L) (j : Nat) (hj : j < L.length) (u : Value) (o : List Int) (hu : w.ownsRow base 3 1 u o.length (ints o)) :
    OwnD (w.setCell ⟨la, j * 2, none⟩ u) base (.slice (some ⟨la, 0, none⟩) L.length c) (L.set j (o, (L[j]).2)) := by
  obtain ⟨xs, h1, h2⟩ := h
  have hl : xs.length = L.length * 2 := h1.1
  refine ⟨xs.set (j * 2) u, by rw [List.length_set]; exact own_set h1 _ _, fun i hi => ?_⟩
  rw [List.length_set] at hi
  obtain ⟨u', e1, e2, e3⟩ := h2 i hi
  have hk : (w.setCell ⟨la, j * 2, none⟩ u).ownsRow base 3 1 u' (L[i]).1.length (ints (L[i]).1) := e3.kept (grown_set _ _ _ _) (apartT e3 h1 (by decide))
  have hk2 : (w.setCell ⟨la, j * 2, none⟩ u).ownsRow base 3 1 u o.length (ints o) := hu.kept (grown_set _ _ _ _) (apartT hu h1 (by decide))
  rw [List.getElem_set]
  rcases Nat.decEq j i with hne | rfl
  · rw [if_neg hne]
    exact ⟨u', by rw [List.getElem?_set_ne (by omega)]; exact e1, by rw [List.getElem?_set_ne (by omega)]; exact e2, hk⟩
  · rw [if_pos rfl]
    exact ⟨u, by rw [List.getElem?_set_self (by omega)], by rw [List.getElem?_set_ne (by omega)]; exact e2, hk2⟩
/-- the row of a dictionary's entries, opened -/
theorem OwnD.slice {w : World} {base : Nat} {v : Value} {L : List Ent} (h : OwnD w base v L) (h1 : 1 ≤ L.length) : ∃ la c, v = .slice (some ⟨la, 0, none⟩) L.length c ∧ base ≤ la := by
  obtain ⟨xs, h2, _⟩ := h
  obtain ⟨la, c, rfl⟩ := Joins.ownsRow_form h2 (by omega)
  exact ⟨la, c, rfl, (h2.lt la rfl).1⟩
theorem row_one {base : Nat} (w : World) (x : Int) (hb : base ≤ w.heap.size) : (w.alloc (.cells #[.int .i64 x] 3)).ownsRow base 3 1 (.slice (some ⟨w.heap.size, 0, none⟩) 1 1) 1 (ints [x]) :=
  ⟨rfl, .inr ⟨w.heap.size, 1, _, rfl, hb, heap_alloc_new w _, Nat.le_refl _, by unfold maxLen; omega, rfl, rfl⟩⟩

end Go.Proofs.YtdidgaibgkdjoaaGreatDoor
