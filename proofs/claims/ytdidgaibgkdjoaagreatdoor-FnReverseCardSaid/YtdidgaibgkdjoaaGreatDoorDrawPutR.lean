/-
  PLAIN FACTS on memory for l6Put: a row of entries of the call's own that grows in a variable.
-/
import Derived.Test.YtdidgaibgkdjoaaGreatDoorDrawDic
namespace Go.Proofs.YtdidgaibgkdjoaaGreatDoor
open Go.RowKit

theorem keepcP {w w' : World} (hb : Below w.heap.size w w') {b o : Nat} {u : Value} (h : w.cell? ⟨b, o, none⟩ = some u) : w'.cell? ⟨b, o, none⟩ = some u := by
  rw [hb.cell (World.block_lt_of_cell? _ _ h)]; exact h
theorem grown_cellP {w w' : World} {r b o : Nat} {u : Value} (hg : w.grownBy w' (some r)) (h : w.cell? ⟨b, o, none⟩ = some u) (hne : b ≠ r) : w'.cell? ⟨b, o, none⟩ = some u := by
  have e := hg.block b (World.block_lt_of_cell? _ _ h) (fun e => by injection e with e; exact hne e)
  unfold World.cell? at h ⊢
  simp only [e]
  exact h
theorem grown_under {w w' : World} {row : Option Nat} {B b o : Nat} {u : Value} (hg : w.grownBy w' row) (hr : ∀ g, row = some g → B ≤ g) (hb : b < B) (h : w.cell? ⟨b, o, none⟩ = some u) : w'.cell? ⟨b, o, none⟩ = some u := by
  have e := hg.block b (World.block_lt_of_cell? _ _ h) (fun e => by have := hr b e.symm; omega)
  unfold World.cell? at h ⊢
  simp only [e]
  exact h
theorem frozen_under {w w' : World} {row : Option Nat} {B b o : Nat} {x : Bool} (hg : w.grownBy w' row) (hr : ∀ g, row = some g → B ≤ g) (hb : b < B) (hlt : b < w.heap.size) (h : w.frozen? ⟨b, o, none⟩ = x) : w'.frozen? ⟨b, o, none⟩ = x := by
  have e := hg.block b hlt (fun e => by have := hr b e.symm; omega)
  unfold World.frozen? at h ⊢
  simp only [e]
  exact h
theorem below_grown {w w' : World} (hb : Below w.heap.size w w') (r : Option Nat) : w.grownBy w' r := ⟨hb.os, hb.tape, hb.output, hb.size, fun j hj _ => hb.block j hj⟩
/-- a change of a row that is newer than the frame's world -/
theorem grown_new {w w1 w2 : World} {r g : Option Nat} (h1 : w.grownBy w1 r) (h2 : w1.grownBy w2 g) (hg : ∀ k, g = some k → w.heap.size ≤ k) : w.grownBy w2 r :=
  ⟨h2.os.trans h1.os, h2.tape.trans h1.tape, h2.output.trans h1.output, Nat.le_trans h1.size h2.size, fun j hj hne => (h2.block j (Nat.lt_of_lt_of_le hj h1.size) (fun e => by have := hg j e.symm; omega)).trans (h1.block j hj hne)⟩
theorem own_raise {w : World} {b b' : Nat} {E : TypeId} {s n : Nat} {v : Value} {xs : List Value} (h : w.ownsRow b E s v n xs) (hb : ∀ g, v.ownBlock = some g → b' ≤ g) : w.ownsRow b' E s v n xs := by
  refine ⟨h.1, ?_⟩
  rcases h.2 with h1 | ⟨g, c, u, rfl, h2, h3⟩
  · exact .inl h1
  · exact .inr ⟨g, c, u, rfl, hb g rfl, h3⟩
theorem OwnD.lower {w : World} {b b' : Nat} {v : Value} {L : List Ent} (h : OwnD w b v L) (hb : b' ≤ b) : OwnD w b' v L := by
  obtain ⟨xs, h1, h2⟩ := h
  exact ⟨xs, own_lower2 h1 hb, fun j hj => by obtain ⟨u, e1, e2, e3⟩ := h2 j hj; exact ⟨u, e1, e2, own_lower2 e3 hb⟩⟩
theorem OwnD.form {w : World} {b : Nat} {v : Value} {L : List Ent} (h : OwnD w b v L) : ∃ a c, v = .slice a L.length c := by
  obtain ⟨xs, h1, _⟩ := h
  exact row_formO h1
/-- the new dictionary's row under way: variable R, rows of base Z, the frame's world wc -/
def PutR (l : List Ent) (p : List Int) (t : ByteArray) (w wc : World) (R Z k : Nat) (y : Bool) (wr : World) : Prop :=
  ∃ (ag : Option Addr) (cg : Nat) (L : List Ent) (xs : List Value), L.length ≤ k + (if y = true then 1 else 0) ∧ (y = true → 1 ≤ L.length) ∧ (wr.cell? ⟨R, 0, none⟩ = some (.slice ag L.length cg) ∧ wr.frozen? ⟨R, 0, none⟩ = false) ∧ wr.ownsRow wc.heap.size 39 2 (.slice ag L.length cg) L.length xs ∧ (∀ j (h : j < L.length), ∃ u, xs[j * 2]? = some u ∧ xs[j * 2 + 1]? = some (.string (L[j]).2) ∧ wr.ownsRow Z 3 1 u (L[j]).1.length (ints (L[j]).1)) ∧ (∀ q ∈ L, q ∈ l ∨ q = (p, t)) ∧ wc.grownBy wr (some R) ∧ Below w.heap.size w wr
theorem PutR.start {l : List Ent} {p : List Int} {t : ByteArray} {w wc : World} {R Z : Nat} (h1 : wc.cell? ⟨R, 0, none⟩ = some (.slice none 0 0)) (h2 : wc.frozen? ⟨R, 0, none⟩ = false) (hb : Below w.heap.size w wc) : PutR l p t w wc R Z 0 false wc :=
  ⟨none, 0, [], [], Nat.zero_le _, (fun h => by cases h), ⟨h1, h2⟩, World.ownsRow_nil _ _ _ _, fun j h => absurd h (Nat.not_lt_zero j), (fun q hq => by cases hq), World.grownBy.refl _ _, hb⟩
theorem PutR.next {l : List Ent} {p : List Int} {t : ByteArray} {w wc wr : World} {R Z k : Nat} {y : Bool} (h : PutR l p t w wc R Z k y wr) : PutR l p t w wc R Z (k + 1) y wr := by
  obtain ⟨ag, cg, L, xs, h1, h2⟩ := h
  exact ⟨ag, cg, L, xs, by omega, h2⟩
theorem PutR.drewN {l : List Ent} {p : List Int} {t : ByteArray} {w wc wr : World} {R Z k : Nat} {y : Bool} (h : PutR l p t w wc R Z k y wr) (n : Nat) : PutR l p t w wc R Z k y (wr.drewN n) := by
  obtain ⟨ag, cg, L, xs, h1, h2, h3, h4, h5, h6, h7, h8⟩ := h
  exact ⟨ag, cg, L, xs, h1, h2, h3, h4, h5, h6, ⟨h7.os, h7.tape, h7.output, h7.size, h7.block⟩, below_drewN h8 n⟩
/-- an entry is appended, and the row stored -/
theorem PutR.snoc {l : List Ent} {p : List Int} {t : ByteArray} {w wc wr w1 w2 : World} {R Z k' : Nat} {y' : Bool} {ag : Option Addr} {cg : Nat} {L : List Ent} {xs : List Value} {o : Obj} {u v2 : Value} {q : List Int} {s : ByteArray}
    (hx : wr.ownsRow wc.heap.size 39 2 (.slice ag L.length cg) L.length xs) (hD : ∀ j (h : j < L.length), ∃ u, xs[j * 2]? = some u ∧ xs[j * 2 + 1]? = some (.string (L[j]).2) ∧ wr.ownsRow Z 3 1 u (L[j]).1.length (ints (L[j]).1)) (hm : ∀ q ∈ L, q ∈ l ∨ q = (p, t))
    (hg : wc.grownBy wr (some R)) (hb : Below w.heap.size w wr) (hZ : Z ≤ wc.heap.size) (hR1 : w.heap.size ≤ R) (hR2 : R < Z)
    (h1 : Below wr.heap.size wr w1) (hu : w1.ownsRow Z 3 1 u q.length (ints q)) (hq : (q, s) ∈ l ∨ (q, s) = (p, t))
    (h2 : w2.ownsRow wc.heap.size 39 2 v2 (L.length + 1) (xs ++ [u, .string s])) (hg2 : (w1.alloc o).grownBy w2 (Value.slice ag L.length cg).ownBlock)
    (hL : L.length + 1 ≤ k' + (if y' = true then 1 else 0)) (hc : wr.cell? ⟨R, 0, none⟩ = some (.slice ag L.length cg)) (hf : wr.frozen? ⟨R, 0, none⟩ = false) :
    PutR l p t w wc R Z k' y' (w2.setCell ⟨R, 0, none⟩ v2) := by
  have hRr : R < wr.heap.size := World.block_lt_of_cell? _ _ hc
  have ha : Below w1.heap.size w1 (w1.alloc o) := Joins.below_alloc1 _ _
  have hga : ∀ g, (Value.slice ag L.length cg).ownBlock = some g → wc.heap.size ≤ g := fun g h => (hx.lt g h).1
  have hwz : w.heap.size ≤ wc.heap.size := by omega
  have c1 := keepcP ha (keepcP h1 hc)
  have f1 : (w1.alloc o).frozen? ⟨R, 0, none⟩ = false := by
    rw [ha.frozen (p := ⟨R, 0, none⟩) (Nat.lt_of_lt_of_le hRr h1.size), h1.frozen (p := ⟨R, 0, none⟩) hRr]; exact hf
  have hRc : R < wc.heap.size := by omega
  have c2 := grown_under hg2 hga hRc c1
  have f2 := frozen_under (o := 0) hg2 hga hRc (World.block_lt_of_cell? _ _ c1) f1
  obtain ⟨a2, g2, rfl⟩ := row_formO h2
  have hset : w2.grownBy (w2.setCell ⟨R, 0, none⟩ (.slice a2 (L.length + 1) g2)) (some R) := grown_set _ _ _ _
  have O2 : OwnD w2 Z (.slice a2 (L.length + 1) g2) (L ++ [(q, s)]) := OwnD.snoc (l := L) (own_lower2 (own_keep (own_keep hx h1) ha) hZ) (fun j hj => by obtain ⟨u', e1, e2, e3⟩ := hD j hj; exact ⟨u', e1, e2, own_keep (own_keep e3 h1) ha⟩) (own_keep hu ha) (own_lower2 h2 hZ) hg2
  have O3 := O2.kept hset (fun g hk => .inl (by cases hk; exact hR2))
  obtain ⟨xs3, x1, x2⟩ := O3
  have hL2 : (L ++ [(q, s)]).length = L.length + 1 := by simp
  have ho3 : ∀ g, (Value.slice a2 (L.length + 1) g2).ownBlock = some g → wc.heap.size ≤ g := fun g h => (h2.lt g h).1
  have gall : wc.grownBy w2 (some R) := grown_new (grownBy_trans (grownBy_trans hg (below_grown h1 _)) (below_grown ha _)) hg2 hga
  have ball : Below w.heap.size w w2 := ((hb.trans (h1.mono hb.size)).trans (ha.mono (Nat.le_trans hb.size h1.size))).grown hg2 (Nat.le_trans (Nat.le_trans hb.size h1.size) ha.size) (fun k hk => Nat.le_trans hwz (hga k hk))
  refine ⟨a2, g2, L ++ [(q, s)], xs3, by rw [hL2]; exact hL, fun _ => by rw [hL2]; omega, ⟨by rw [hL2]; exact World.cell?_setCell_same _ _ _ c2, by rw [World.frozen?_setCell]; exact f2⟩, ?_, x2, ?_, grownBy_trans gall hset, ball.grown hset ball.size (fun k hk => by cases hk; exact hR1)⟩
  · rw [hL2] at x1 ⊢; exact own_raise x1 ho3
  · intro e he
    rw [List.mem_append] at he
    rcases he with he | he
    · exact hm e he
    · simp at he; subst he; exact hq

end Go.Proofs.YtdidgaibgkdjoaaGreatDoor
