/-
  PLAIN: a world in which blocks of one interval alone were written; what lies elsewhere is kept.
-/
import Derived.Test.YtkbbcmbeafjpaaaGreatDoorBasB
namespace Go.Proofs.YtkbbcmbeafjpaaaGreatDoor
open Go.RowKit

/-- of the old blocks those from lo up to hi alone may have been written -/
structure Wid (lo hi : Nat) (w w' : World) : Prop where
  os : w'.os = w.os
  tape : w'.tape = w.tape
  output : w'.output = w.output
  size : w.heap.size ≤ w'.heap.size
  block : ∀ k, k < w.heap.size → (k < lo ∨ hi ≤ k) → w'.heap[k]? = w.heap[k]?

theorem Wid.refl (lo hi : Nat) (w : World) : Wid lo hi w w := ⟨rfl, rfl, rfl, Nat.le_refl _, fun _ _ _ => rfl⟩
theorem Wid.trans {lo hi : Nat} {a b c : World} (h : Wid lo hi a b) (k : Wid lo hi b c) : Wid lo hi a c :=
  ⟨k.os.trans h.os, k.tape.trans h.tape, k.output.trans h.output, Nat.le_trans h.size k.size, fun i hi' hne => (k.block i (Nat.lt_of_lt_of_le hi' h.size) hne).trans (h.block i hi' hne)⟩
theorem Wid.of_below {w w' : World} (lo hi : Nat) (h : Below w.heap.size w w') : Wid lo hi w w' := ⟨h.os, h.tape, h.output, h.size, fun k hk _ => h.block k hk⟩
theorem Wid.of_grown {lo hi : Nat} {w w' : World} {row : Option Nat} (h : w.grownBy w' row) (hr : ∀ g, row = some g → lo ≤ g ∧ g < hi) : Wid lo hi w w' :=
  ⟨h.os, h.tape, h.output, h.size, fun k hk hne => h.block k hk (fun e => by have := hr k e.symm; omega)⟩
theorem Wid.wider {lo hi lo' hi' : Nat} {w w' : World} (h : Wid lo hi w w') (h1 : lo' ≤ lo) (h2 : hi ≤ hi') : Wid lo' hi' w w' :=
  ⟨h.os, h.tape, h.output, h.size, fun k hk hne => h.block k hk (by omega)⟩
theorem Wid.below {lo hi B : Nat} {w w' : World} (h : Wid lo hi w w') (hB : B ≤ lo) (hw : B ≤ w.heap.size) : Below B w w' :=
  ⟨h.os, h.tape, h.output, h.size, fun k hk => h.block k (Nat.lt_of_lt_of_le hk hw) (.inl (Nat.lt_of_lt_of_le hk hB))⟩
theorem Wid.cell {lo hi b o : Nat} {w w' : World} {u : Value} (h : Wid lo hi w w') (hc : w.cell? ⟨b, o, none⟩ = some u) (hd : b < lo ∨ hi ≤ b) : w'.cell? ⟨b, o, none⟩ = some u := by
  rw [World.cell?_of_block (w := w) (a := ⟨b, o, none⟩) (h.block b (World.block_lt_of_cell? _ _ hc) hd)]; exact hc

theorem own_wid {lo hi : Nat} {w w' : World} {base : Nat} {e : TypeId} {size : Nat} {v : Value} {n : Nat} {xs : List Value} (h : w.ownsRow base e size v n xs) (hw : Wid lo hi w w') (hd : ∀ g, v.ownBlock = some g → g < lo ∨ hi ≤ g) : w'.ownsRow base e size v n xs := by
  obtain ⟨hl, h⟩ := h
  refine ⟨hl, ?_⟩
  rcases h with h | ⟨g, cap, cur, rfl, h2, hg, h3⟩
  · exact .inl h
  · have hlt : g < w.heap.size := by
      rcases Nat.lt_or_ge g w.heap.size with h' | h'
      · exact h'
      · rw [Array.getElem?_eq_none h'] at hg; cases hg
    exact .inr ⟨g, cap, cur, rfl, h2, by rw [hw.block g hlt (hd g rfl)]; exact hg, h3⟩

/-- a row of the call's own, between two blocks -/
def OwnRow (E : TypeId) (size : Nat) (w : World) (lo hi : Nat) (v : Value) (n : Nat) (xs : List Value) : Prop :=
  w.ownsRow lo E size v n xs ∧ (∀ g, v.ownBlock = some g → g < hi) ∧ hi ≤ w.heap.size
theorem OwnRow.of {E : TypeId} {size : Nat} {w : World} {lo : Nat} {v : Value} {n : Nat} {xs : List Value} (h : w.ownsRow lo E size v n xs) : OwnRow E size w lo w.heap.size v n xs := ⟨h, fun g hg => (h.lt g hg).2, Nat.le_refl _⟩
theorem OwnRow.keep {E : TypeId} {size : Nat} {w w' : World} {lo hi : Nat} {v : Value} {n : Nat} {xs : List Value} (h : OwnRow E size w lo hi v n xs) (hb : Below w.heap.size w w') : OwnRow E size w' lo hi v n xs :=
  ⟨own_keep h.1 hb, h.2.1, Nat.le_trans h.2.2 hb.size⟩
theorem OwnRow.wid {E : TypeId} {size : Nat} {w w' : World} {lo hi a b : Nat} {v : Value} {n : Nat} {xs : List Value} (h : OwnRow E size w lo hi v n xs) (hw : Wid a b w w') (hd : hi ≤ a ∨ b ≤ lo) : OwnRow E size w' lo hi v n xs :=
  ⟨own_wid h.1 hw (fun g hg => by have := h.2.1 g hg; have := (h.1.lt g hg).1; omega), h.2.1, Nat.le_trans h.2.2 hw.size⟩
theorem OwnRow.rows {E : TypeId} {size : Nat} {w : World} {lo hi : Nat} {v : Value} {n : Nat} {xs : List Value} (h : OwnRow E size w lo hi v n xs) : Rows w v n size xs := Rows.of_own h.1
theorem OwnRow.drew {E : TypeId} {size : Nat} {w : World} {lo hi : Nat} {v : Value} {n : Nat} {xs : List Value} (h : OwnRow E size w lo hi v n xs) : OwnRow E size w.drew lo hi v n xs := h
/-- what was written in such a row was written between its two blocks -/
theorem OwnRow.wrote {E : TypeId} {size : Nat} {w w' : World} {lo hi : Nat} {v : Value} {n : Nat} {xs ys : List Value} (h : OwnRow E size w lo hi v n xs) (hw : Wrote E size lo w v n ys w') : OwnRow E size w' lo hi v n ys ∧ Wid lo hi w w' :=
  ⟨⟨hw.1, h.2.1, Nat.le_trans h.2.2 hw.2.size⟩, Wid.of_grown hw.2 (fun g hg => ⟨(h.1.lt g hg).1, h.2.1 g hg⟩)⟩

theorem OwnRow.grown {E : TypeId} {size : Nat} {w w' : World} {lo hi : Nat} {v : Value} {n : Nat} {xs : List Value} {row : Option Nat} (h : OwnRow E size w lo hi v n xs) (hg : w.grownBy w' row) (hd : ∀ g, v.ownBlock = some g → row ≠ some g) : OwnRow E size w' lo hi v n xs := by
  refine ⟨h.1.kept hg ?_, h.2.1, Nat.le_trans h.2.2 hg.size⟩
  cases hv : v.ownBlock with
  | none => exact .inl rfl
  | some g => exact .inr (fun e => hd g hv e.symm)

theorem OwnEnts.wid {w w' : World} {lo hi a b : Nat} {v : Value} {l : List Ent} (h : OwnEnts w lo v l hi) (hw : Wid a b w w') (hd : hi ≤ a ∨ b ≤ lo) : OwnEnts w' lo v l hi := by
  obtain ⟨g, xs, c, rfl, h2, h3, h4, h5, h6, h7, h8⟩ := h
  have hmono : ∀ j, j ≤ l.length → c 0 ≤ c j := by
    intro j
    induction j with
    | zero => intro _; exact Nat.le_refl _
    | succ j ih => intro hj; exact Nat.le_trans (ih (by omega)) (h4 j (by omega))
  have hup : ∀ j, j ≤ l.length → c (l.length - j) ≤ c l.length := by
    intro j
    induction j with
    | zero => intro _; exact Nat.le_refl _
    | succ j ih =>
      intro hj
      have h := h4 (l.length - (j + 1)) (by omega)
      rw [show l.length - (j + 1) + 1 = l.length - j by omega] at h
      exact Nat.le_trans h (ih (by omega))
  have hg : g < hi := by have := hmono l.length (Nat.le_refl _); omega
  refine ⟨g, xs, c, rfl, own_wid h2 hw (fun k hk => by have hk' : g = k := Option.some.inj hk; omega), fun j hj hk => ?_, h4, h5, h6, h7, Nat.le_trans h8 hw.size⟩
  obtain ⟨u, e1, e2, e3, e4⟩ := h3 j hj hk
  refine ⟨u, e1, e2, own_wid e3 hw (fun k hk => ?_), e4⟩
  have h9 := e4 k hk
  have h10 := (e3.lt k hk).1
  have h11 := hmono j (by omega)
  have h12 := hup (l.length - (j + 1)) (by omega)
  rw [show l.length - (l.length - (j + 1)) = j + 1 by omega] at h12
  omega
theorem OwnEnts.drew {w : World} {lo hi : Nat} {v : Value} {l : List Ent} (h : OwnEnts w lo v l hi) : OwnEnts w.drew lo v l hi := h

theorem max_block {w : World} (h : ∃ m, w.cell? ⟨0, 0, none⟩ = some (.int .i64 m)) : 0 < w.heap.size := by
  obtain ⟨m, h⟩ := h
  exact World.block_lt_of_cell? _ _ h

theorem max_wid {lo hi : Nat} {w w' : World} (h : ∃ m, w.cell? ⟨0, 0, none⟩ = some (.int .i64 m)) (hw : Wid lo hi w w') (hd : 0 < lo) : ∃ m, w'.cell? ⟨0, 0, none⟩ = some (.int .i64 m) := by
  obtain ⟨m, h⟩ := h
  exact ⟨m, hw.cell h (.inl hd)⟩

end Go.Proofs.YtkbbcmbeafjpaaaGreatDoor
