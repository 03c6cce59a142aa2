/-
  SLICES AS THEY LIE: what a walk is told of a slice, and how it is kept. No program is in sight.
-/
import Derived.WalkKit
import Derived.WalkSmall
import Derived.Carry
import Derived.Lib.Hide
namespace Go.Proofs.Ytibchndfndgdeaa
open Go.RowKit

/-- the cells that an address leads to -/
def CellsAt (w : World) (a : Option Addr) (xs : List Value) : Prop :=
  ∀ (j : Nat) (u : Value), xs[j]? = some u → ∃ b off, a = some ⟨b, off, none⟩ ∧ w.cell? ⟨b, off + j, none⟩ = some u

/-- a slice as it lies: n elements of 'size' cells each, the cells xs -/
def Rows (w : World) (v : Value) (n size : Nat) (xs : List Value) : Prop :=
  ∃ a cap, v = .slice a n cap ∧ n ≤ cap ∧ cap ≤ maxLen ∧ xs.length = n * size ∧ (a = none → n = 0 ∧ cap = 0) ∧ CellsAt w a xs

theorem CellsAt.keep {w w' : World} {a : Option Addr} {xs : List Value} (h : CellsAt w a xs) (hb : Below w.heap.size w w') : CellsAt w' a xs := by
  intro j u hj
  obtain ⟨b, off, h1, h2⟩ := h j u hj
  exact ⟨b, off, h1, by rw [hb.cell (World.block_lt_of_cell? _ _ h2)]; exact h2⟩
theorem CellsAt.drew {w : World} {a : Option Addr} {xs : List Value} (h : CellsAt w a xs) (k : Nat) : CellsAt (w.drewN k) a xs := h

theorem Rows.keep {w w' : World} {v : Value} {n size : Nat} {xs : List Value} (h : Rows w v n size xs) (hb : Below w.heap.size w w') : Rows w' v n size xs := by
  obtain ⟨a, cap, h1, h2, h3, h4, h5, h6⟩ := h
  exact ⟨a, cap, h1, h2, h3, h4, h5, h6.keep hb⟩

theorem Rows.drew {w : World} {v : Value} {n size : Nat} {xs : List Value} (h : Rows w v n size xs) (k : Nat) : Rows (w.drewN k) v n size xs := h

/-- kept where one row alone is written, another one -/
theorem Rows.grown {w w' : World} {v : Value} {n size : Nat} {xs : List Value} {row : Option Nat} (h : Rows w v n size xs) (hg : w.grownBy w' row) (hne : v.ownBlock = none ∨ v.ownBlock ≠ row) : Rows w' v n size xs := by
  obtain ⟨a, cap, rfl, h2, h3, h4, h5, h6⟩ := h
  refine ⟨a, cap, rfl, h2, h3, h4, h5, fun j u hj => ?_⟩
  obtain ⟨b, off, rfl, h7⟩ := h6 j u hj
  have hbr : some b ≠ row := by
    rcases hne with hne | hne
    · simp [Value.ownBlock] at hne
    · exact hne
  exact ⟨b, off, rfl, hg.cell h7 hbr⟩

theorem Rows.of_own {w : World} {base : Nat} {e : TypeId} {size : Nat} {v : Value} {n : Nat} {xs : List Value} (h : w.ownsRow base e size v n xs) : Rows w v n size xs := by
  obtain ⟨hl, h⟩ := h
  rcases h with ⟨rfl, rfl⟩ | ⟨g, cap, cur, rfl, hb, hg, hnc, hcm, hcs, ht⟩
  · refine ⟨none, 0, rfl, Nat.le_refl _, Nat.zero_le _, hl, fun _ => ⟨rfl, rfl⟩, fun j u hj => ?_⟩
    have : xs = [] := List.length_eq_zero_iff.1 (by simpa using hl)
    subst this; simp at hj
  · refine ⟨_, cap, rfl, hnc, hcm, hl, (fun h => nomatch h), fun j u hj => ⟨g, 0, rfl, ?_⟩⟩
    rw [Nat.zero_add, cell_of_row w g j cur e (0, 0) hg]
    rw [← ht, List.getElem?_take] at hj
    split at hj
    · simpa using hj
    · cases hj

theorem Rows.lt {w : World} {v : Value} {n size : Nat} {xs : List Value} (h : Rows w v n size xs) (hx : xs ≠ []) : ∀ k, v.ownBlock = some k → k < w.heap.size := by
  obtain ⟨a, cap, rfl, h2, h3, h4, h5, h6⟩ := h
  obtain ⟨x, r, rfl⟩ : ∃ x r, xs = x :: r := by cases xs with | nil => exact absurd rfl hx | cons x r => exact ⟨x, r, rfl⟩
  obtain ⟨b, off, rfl, h7⟩ := h6 0 x rfl
  intro k hk
  simp only [Value.ownBlock, Option.some.injEq] at hk
  subst hk
  exact World.block_lt_of_cell? _ _ h7

/-- what is owned stays owned while nothing below its world's end is written -/
theorem own_keep {w w' : World} {base : Nat} {e : TypeId} {size : Nat} {v : Value} {n : Nat} {xs : List Value} (h : w.ownsRow base e size v n xs) (hb : Below w.heap.size w w') : w'.ownsRow base e size v n xs := by
  obtain ⟨hl, h⟩ := h
  refine ⟨hl, ?_⟩
  rcases h with h | ⟨g, cap, cur, h1, h2, hg, h3⟩
  · exact .inl h
  · have hlt : g < w.heap.size := by
      rcases Nat.lt_or_ge g w.heap.size with h' | h'
      · exact h'
      · rw [Array.getElem?_eq_none h'] at hg; cases hg
    exact .inr ⟨g, cap, cur, h1, h2, by rw [hb.block g hlt]; exact hg, h3⟩
theorem own_base {w : World} {base base' : Nat} {e : TypeId} {size : Nat} {v : Value} {n : Nat} {xs : List Value} (h : w.ownsRow base e size v n xs) (hb : base' ≤ base) : w.ownsRow base' e size v n xs := by
  obtain ⟨hl, h⟩ := h
  refine ⟨hl, ?_⟩
  rcases h with h | ⟨g, cap, cur, h1, h2, h3⟩
  · exact .inl h
  · exact .inr ⟨g, cap, cur, h1, Nat.le_trans hb h2, h3⟩
theorem own_drewN {w : World} {base : Nat} {e : TypeId} {size : Nat} {v : Value} {n : Nat} {xs : List Value} (h : w.ownsRow base e size v n xs) (k : Nat) : (w.drewN k).ownsRow base e size v n xs := h
theorem own_block {w : World} {base : Nat} {e : TypeId} {size : Nat} {v : Value} {n : Nat} {xs : List Value} (h : w.ownsRow base e size v n xs) : v.ownBlock = none ∨ ∃ g, v.ownBlock = some g ∧ base ≤ g ∧ g < w.heap.size := by
  rcases h.2 with ⟨rfl, _⟩ | ⟨g, cap, cur, rfl, h2, hg, _⟩
  · exact .inl rfl
  · refine .inr ⟨g, rfl, h2, ?_⟩
    rcases Nat.lt_or_ge g w.heap.size with h' | h'
    · exact h'
    · rw [Array.getElem?_eq_none h'] at hg; cases hg

/-- a row that the call itself laid, handed back -/
def RetRow (E : TypeId) (size B : Nat) (w : World) (n : Nat) (xs : List Value) (e : Ending) (w' : World) : Prop :=
  ∃ v, e = .returned v ∧ w'.ownsRow B E size v n xs ∧ Below B w w'
def RetRowB (E : TypeId) (size B : Nat) (w : World) (n : Nat) (xs : List Value) (b : Bool) (e : Ending) (w' : World) : Prop :=
  ∃ v, e = .returned (.tuple #[v, .bool b]) ∧ w'.ownsRow B E size v n xs ∧ Below B w w'
/-- a row of the call's own was written, and nothing else -/
def Wrote (E : TypeId) (size base : Nat) (w : World) (v : Value) (n : Nat) (xs : List Value) (w' : World) : Prop :=
  w'.ownsRow base E size v n xs ∧ w.grownBy w' v.ownBlock

theorem grownBy_trans {a b c : World} {row : Option Nat} (h : a.grownBy b row) (k : b.grownBy c row) : a.grownBy c row :=
  ⟨k.os.trans h.os, k.tape.trans h.tape, k.output.trans h.output, Nat.le_trans h.size k.size, fun i hi hne => (k.block i (Nat.lt_of_lt_of_le hi h.size) hne).trans (h.block i hi hne)⟩

/-- the first j cells are those of xs, the rest those of zs -/
def half (xs zs : List Value) (j : Nat) : List Value := xs.take j ++ zs.drop j
theorem half_zero (xs zs : List Value) : half xs zs 0 = zs := by simp [half]
theorem half_all (xs zs : List Value) (h : xs.length = zs.length) : half xs zs xs.length = xs := by
  unfold half
  rw [List.take_of_length_le (Nat.le_refl _), List.drop_eq_nil_of_le (by omega), List.append_nil]
theorem half_all' (xs zs : List Value) (j : Nat) (h : xs.length = zs.length) (hj : j = xs.length) : half xs zs j = xs := by rw [hj]; exact half_all xs zs h
theorem half_length (xs zs : List Value) (j : Nat) (h : xs.length = zs.length) : (half xs zs j).length = xs.length := by
  simp only [half, List.length_append, List.length_take, List.length_drop]; omega
theorem half_set (xs zs : List Value) (j : Nat) (u : Value) (h : xs.length = zs.length) (hu : xs[j]? = some u) : (half xs zs j).set j u = half xs zs (j + 1) := by
  have hj : j < xs.length := by
    rcases Nat.lt_or_ge j xs.length with h' | h'
    · exact h'
    · rw [List.getElem?_eq_none h'] at hu; cases hu
  have hl : (xs.take j).length = j := by rw [List.length_take]; omega
  have e1 : xs.take (j + 1) = xs.take j ++ [u] := by
    rw [List.take_add_one, hu]; rfl
  have e2 : zs.drop j = zs[j]'(by omega) :: zs.drop (j + 1) := List.drop_eq_getElem_cons (by omega)
  unfold half
  rw [e1, List.set_append_right _ _ (by omega), hl, Nat.sub_self, e2, List.set_cons_zero]
  simp

/-- the cells of a list of integers -/
def ints (l : List Int) : List Value := l.map (Value.int .i64)
theorem ints_length (l : List Int) : (ints l).length = l.length := by simp [ints]
theorem ints_at (l : List Int) (k : Nat) (h : k < l.length) : (ints l)[k]? = some (.int .i64 l[k]) := by
  simp [ints, List.getElem?_map, List.getElem?_eq_getElem h]
def marksI (k : Int) (n : Nat) : List Int := (List.range n).map fun (i : Nat) => k + (i : Int)
theorem marksI_length (k : Int) (n : Nat) : (marksI k n).length = n := by simp [marksI]
theorem marksI_at (k : Int) (n i : Nat) (h : i < (marksI k n).length) : (marksI k n)[i] = k + (i : Int) := by
  simp [marksI]

end Go.Proofs.Ytibchndfndgdeaa
