/-
  CONTRACTS: DrawLeastEdit, DrawApplyEdit, DrawInvertEdit, DrawComposeEdits: what is drawn is told by bounds alone.
-/
import Derived.Test.YtdidgaibgkdjoaaGreatDoorDrawScr
import Derived.Deep.RegionHeld3
namespace Go.Proofs.YtdidgaibgkdjoaaGreatDoor
open Go.RowKit

theorem keepE {w w' : World} (hb : Below w.heap.size w w') {b o : Nat} {u : Value} (h : w.cell? ⟨b, o, none⟩ = some u) : w'.cell? ⟨b, o, none⟩ = some u := by
  rw [hb.cell (World.block_lt_of_cell? _ _ h)]; exact h

/-- a text and an edit, made in new memory -/
def MadeSE (w : World) (e : Ending) (w' : World) : Prop := ∃ (s : ByteArray) (b : Int) (t : ByteArray), e = .returned (.tuple #[.string s, .agg #[.int .i64 b, .string t]]) ∧ s.size ≤ 2010 ∧ -1 ≤ b ∧ b ≤ 2001 ∧ t.size ≤ 2010 ∧ Below w.heap.size w w'
def MadeEE (w : World) (e : Ending) (w' : World) : Prop := ∃ (a : Int) (s : ByteArray) (b : Int) (t : ByteArray), e = .returned (.tuple #[.agg #[.int .i64 a, .string s], .agg #[.int .i64 b, .string t]]) ∧ s.size ≤ 2010 ∧ -1 ≤ a ∧ a ≤ 2001 ∧ -1 ≤ b ∧ b ≤ 2001 ∧ t.size ≤ 2010 ∧ Below w.heap.size w w'
theorem Code8.alloc {w : World} {v : Value} (h : Code8 w v) (o : Obj) : Code8 (w.alloc o) v := h.keep ((Below.refl _ _).alloc (Nat.le_refl _) _)

theorem Cur.newAt {v : Value} {m g : Nat} {l : List Int} {w : World} (hg : w.heap.size = g) (hl : l.length = m) (hb : allByte l) (hr : Rows w v m 1 (u8s l)) (T : TypeId) :
    Cur v m g 0 (w.alloc (.cells #[v, .int .i64 0, .int .u64 0] T)) := by
  subst hg; exact Cur.new hl hb hr T

theorem Cur.set {v : Value} {m g B : Nat} {b : World} (h : Cur v m g B b) {R : Nat} (hR : R ≠ g) (hv : m = 0 ∨ v.ownBlock ≠ some R) (i : Nat) (u : Value) : Cur v m g B (b.setCell ⟨R, i, none⟩ u) := by
  obtain ⟨h1, ⟨l, l1, l2, l3⟩, h3, ⟨k, h4, h5⟩, ⟨z, h6⟩, h7⟩ := h
  have hn : ∀ o : Nat, (⟨R, i, none⟩ : Addr) ≠ ⟨g, o, none⟩ := fun o e => by injection e with e _ _; omega
  refine ⟨h1, ⟨l, l1, l2, rows_grown l3 (grown_set b R i u) hv⟩, ?_, ⟨k, h4, ?_⟩, ⟨z, ?_⟩, fun o => ?_⟩
  · rw [World.cell?_setCell_other _ _ _ _ (hn 0)]; exact h3
  · rw [World.cell?_setCell_other _ _ _ _ (hn 1)]; exact h5
  · rw [World.cell?_setCell_other _ _ _ _ (hn 2)]; exact h6
  · have := h7 o
    simpa [go_sem] using this

theorem cell_alloc {w : World} {b i : Nat} {u : Value} (h : w.cell? ⟨b, i, none⟩ = some u) (o : Obj) : (w.alloc o).cell? ⟨b, i, none⟩ = some u := keepE ((Below.refl _ _).alloc (Nat.le_refl _) _) h
theorem thaw_alloc {w : World} {b : Nat} (h : thawed w b) (hb : b < w.heap.size) (o : Obj) : thawed (w.alloc o) b := fun i => ((bcell ((Below.refl w.heap.size w).alloc (Nat.le_refl _) o)).2 _ _ hb).trans (h i)
theorem Read.cellK {v : Value} {m g B : Nat} {a b : World} (h : Read v m g B a b) {R i : Nat} {u : Value} (hne : R ≠ g) (hc : a.cell? ⟨R, i, none⟩ = some u) : b.cell? ⟨R, i, none⟩ = some u :=
  (h.cell (World.block_lt_of_cell? _ _ hc) hne i).1.trans hc
theorem Read.thaw {v : Value} {m g B : Nat} {a b : World} (h : Read v m g B a b) {R : Nat} (hne : R ≠ g) (hlt : R < a.heap.size) (ht : thawed a R) : thawed b R := fun i => (h.cell hlt hne i).2.trans (ht i)

end Go.Proofs.YtdidgaibgkdjoaaGreatDoor
