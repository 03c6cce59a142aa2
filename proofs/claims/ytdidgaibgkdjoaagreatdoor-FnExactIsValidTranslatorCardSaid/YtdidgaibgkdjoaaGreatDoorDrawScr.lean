/-
  CONTRACTS: the draws of screens and edits: screen, anyScreen, edit, DrawLeastEdit, DrawApplyEdit, DrawComposeEdits, DrawInvertEdit. What is drawn is told by bounds alone.
-/
import Derived.Test.YtdidgaibgkdjoaaGreatDoorDrawWord
namespace Go.Proofs.YtdidgaibgkdjoaaGreatDoor
open Go.RowKit

def szOf : Value → Nat
  | .string b => b.size
  | _ => 0
theorem size_x (b : ByteArray) : (b ++ ⟨#[120]⟩).size = b.size + 1 := by rw [ByteArray.size_append]; rfl

def DrawnE (v : Value) (m g B : Nat) (w : World) (e : Ending) (w' : World) : Prop := (∃ (b : Int) (t : ByteArray), e = .returned (.agg #[.int .i64 b, .string t]) ∧ -1 ≤ b ∧ b ≤ 2001 ∧ t.size ≤ 2010) ∧ Read v m g B w w'

/-- another block than the cursor's reads as before -/
theorem Read.cell {v : Value} {m g B : Nat} {a b : World} (h : Read v m g B a b) {R : Nat} (hlt : R < a.heap.size) (hne : R ≠ g) (i : Nat) :
    b.cell? ⟨R, i, none⟩ = a.cell? ⟨R, i, none⟩ ∧ b.frozen? ⟨R, i, none⟩ = a.frozen? ⟨R, i, none⟩ := by
  have e := h.2.block R hlt (fun h => hne (by injection h))
  unfold World.cell? World.frozen?
  simp only [e, and_self]
/-- a new block is written -/
theorem Read.setNew {v : Value} {m g B B0 : Nat} {a b : World} (h : Read v m g B a b) (h0 : Cur v m g B0 a) {R : Nat} (hR : a.heap.size ≤ R) (i : Nat) (u : Value) : Read v m g B a (b.setCell ⟨R, i, none⟩ u) := by
  have hg := h0.lt
  have hgr : a.grownBy (b.setCell ⟨R, i, none⟩ u) (some g) := ⟨h.2.os, h.2.tape, h.2.output, by rw [size_setCell]; exact h.2.size, fun j hj hne => by
    have hb : j ≠ R := by omega
    rw [Below.heap_setCell _ _ _ _ hb]; exact h.2.block j hj hne⟩
  obtain ⟨h1, ⟨l, l1, l2, l3⟩, h3, ⟨k, h4, h5⟩, ⟨z, h6⟩, h7⟩ := h.1
  obtain ⟨_, ⟨l', l1', l2', l3'⟩, _⟩ := h0
  have hn : ∀ o : Nat, (⟨R, i, none⟩ : Addr) ≠ ⟨g, o, none⟩ := fun o e => by injection e with e _ _; omega
  refine ⟨⟨h1, ⟨l', l1', l2', rows_grown l3' hgr h1⟩, ?_, ⟨k, h4, ?_⟩, ⟨z, ?_⟩, fun o => ?_⟩, hgr⟩
  · rw [World.cell?_setCell_other _ _ _ _ (hn 0)]; exact h3
  · rw [World.cell?_setCell_other _ _ _ _ (hn 1)]; exact h5
  · rw [World.cell?_setCell_other _ _ _ _ (hn 2)]; exact h6
  · have := h7 o
    simpa [go_sem] using this

end Go.Proofs.YtdidgaibgkdjoaaGreatDoor
