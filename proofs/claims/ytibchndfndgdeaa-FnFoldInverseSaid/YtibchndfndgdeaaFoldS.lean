/-
  CONTRACTS: the laws' own functions over slices of folds: szFoldS, toFoldS, eqFoldS.
-/
import Derived.Test.YtibchndfndgdeaaIntS
import Derived.BigRegion
import Derived.Deep.DeepCutAuto
import Derived.Deep.RegionHeld3
import Derived.Lib.SmallJoins
namespace Go.Proofs.Ytibchndfndgdeaa
open Go.RowKit

/-- the cells of a list of folds -/
def folds : List (Int × ByteArray) → List Value
  | [] => []
  | p :: r => .int .i64 p.1 :: .string p.2 :: folds r
theorem folds_length (l : List (Int × ByteArray)) : (folds l).length = l.length * 2 := by
  induction l with
  | nil => rfl
  | cons p r ih => simp only [folds, List.length_cons, ih]; omega
theorem folds_at (l : List (Int × ByteArray)) : ∀ (k : Nat) (h : k < l.length), (folds l)[k * 2]? = some (.int .i64 l[k].1) ∧ (folds l)[k * 2 + 1]? = some (.string l[k].2) := by
  induction l with
  | nil => intro k h; simp at h
  | cons p r ih =>
    intro k h
    cases k with
    | zero => exact ⟨rfl, rfl⟩
    | succ k =>
      have hk : k < r.length := by simpa using h
      have := ih k hk
      rw [show (k + 1) * 2 = k * 2 + 1 + 1 by omega]
      simpa [folds] using this

theorem fold_cells {w : World} {a : Option Addr} {l : List (Int × ByteArray)} (hc : CellsAt w a (folds l)) (k : Nat) (h : k < l.length) :
    ∃ b off, a = some ⟨b, off, none⟩ ∧ w.cell? ⟨b, off + k * 2, none⟩ = some (.int .i64 l[k].1) ∧ w.cell? ⟨b, off + k * 2 + 1, none⟩ = some (.string l[k].2) := by
  obtain ⟨b, off, h1, h2⟩ := hc _ _ (folds_at l k h).1
  obtain ⟨b', off', h3, h4⟩ := hc _ _ (folds_at l k h).2
  rw [h1] at h3
  cases h3
  exact ⟨b, off, h1, h2, h4⟩
theorem keepc {w w' : World} (hb : Below w.heap.size w w') {b o : Nat} {u : Value} (h : w.cell? ⟨b, o, none⟩ = some u) : w'.cell? ⟨b, o, none⟩ = some u := by
  rw [hb.cell (World.block_lt_of_cell? _ _ h)]; exact h

/-- no text of a fold is long -/
def FoldsFit (l : List (Int × ByteArray)) : Prop := l.length ≤ 1048576 ∧ ∀ p ∈ l, p.2.size ≤ 1048576
theorem fits_at {l : List (Int × ByteArray)} (h : FoldsFit l) (k : Nat) (hk : k < l.length) : (l[k]).2.size ≤ 1048576 := h.2 _ (List.getElem_mem hk)

theorem take_next {α : Type} {Q : α → Prop} {l : List α} {k : Nat} (h : k < l.length) (ha : ∀ p ∈ l.take k, Q p) (hq : Q l[k]) : ∀ p ∈ l.take (k + 1), Q p := by
  intro p hp
  rw [List.take_add_one, List.getElem?_eq_getElem h, List.mem_append] at hp
  rcases hp with hp | hp
  · exact ha p hp
  · simp only [Option.toList_some, List.mem_singleton] at hp
    subst hp; exact hq

theorem Try.infoFold : (Try.prog.info? 26).map (fun i => (i.zero, i.size, i.bytes)) = some (some (.agg #[.int .i64 0, .string ⟨#[]⟩]), 2, 24) := by kernel_rfl

theorem half_set2 (l : List (Int × ByteArray)) (zs : List Value) (k : Nat) (h : (folds l).length = zs.length) (hk : k < l.length) :
    ((half (folds l) zs (k * 2)).set (k * 2) (.int .i64 l[k].1)).set (k * 2 + 1) (.string l[k].2) = half (folds l) zs ((k + 1) * 2) := by
  rw [half_set _ _ _ _ h (folds_at l k hk).1, half_set _ _ _ _ h (folds_at l k hk).2, show (k + 1) * 2 = k * 2 + 1 + 1 by omega]

theorem below_drew1 {B : Nat} {w w' : World} (h : Below B w w') : Below B w w'.drew := h.trans (Joins.below_draws _ _ 1)

end Go.Proofs.Ytibchndfndgdeaa
