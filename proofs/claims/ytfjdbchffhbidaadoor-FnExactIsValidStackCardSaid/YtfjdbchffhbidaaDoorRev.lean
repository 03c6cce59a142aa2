/-
  CONTRACTS: slices.Reverse on a row of bytes; reversed, doubled of the program.
-/
import Derived.Test.YtfjdbchffhbidaaDoorSl
import Derived.Test.YtfjdbchffhbidaaDoorStrA
import Derived.Test.YtfjdbchffhbidaaDoorPlainBits
import Derived.Deep.QuietTactic
import Derived.BigQuiet
import Derived.BigRegion
import Derived.IntWalk
namespace Go.Proofs.YtfjdbchffhbidaaDoor
open Go.RowKit

/-- k bytes at each end have been exchanged -/
def RevAt (b n : Nat) (f : Nat → UInt8) (k : Nat) (w wr : World) : Prop :=
  (∀ j, j < n → wr.cell? ⟨b, j, none⟩ = some (.int .u8 (((if j < k ∨ n ≤ j + k then f (n - 1 - j) else f j).toNat : Nat) : Int))) ∧ (∀ j, j < n → wr.frozen? ⟨b, j, none⟩ = false) ∧ w.grownBy wr (some b)

theorem RevAt.step {b n : Nat} {f : Nat → UInt8} {k : Nat} {w wr : World} (h : RevAt b n f k w wr) (hk : k + k + 1 < n) :
    RevAt b n f (k + 1) w ((wr.setCell ⟨b, k, none⟩ (.int .u8 ((f (n - 1 - k)).toNat : Int))).setCell ⟨b, n - 1 - k, none⟩ (.int .u8 ((f k).toNat : Int))) := by
  obtain ⟨h1, h2, h3⟩ := h
  refine ⟨fun j hj => ?_, fun j hj => ?_, ?_⟩
  · have c1 := h1 k (by omega)
    have c2 := h1 (n - 1 - k) (by omega)
    by_cases e2 : j = n - 1 - k
    · subst e2
      have c2' : (wr.setCell ⟨b, k, none⟩ (.int .u8 ((f (n - 1 - k)).toNat : Int))).cell? ⟨b, n - 1 - k, none⟩ = some (.int .u8 (((if n - 1 - k < k ∨ n ≤ n - 1 - k + k then f (n - 1 - (n - 1 - k)) else f (n - 1 - k)).toNat : Nat) : Int)) := by
        rw [World.cell?_setCell_other _ _ _ _ (by intro h; injection h with _ h _; omega)]; exact c2
      rw [World.cell?_setCell_same _ _ _ c2', if_pos (by omega), show n - 1 - (n - 1 - k) = k by omega]
    · rw [World.cell?_setCell_other _ _ _ _ (by intro h; injection h with _ h _; omega)]
      by_cases e1 : j = k
      · subst e1
        rw [World.cell?_setCell_same _ _ _ c1, if_pos (by omega)]
      · rw [World.cell?_setCell_other _ _ _ _ (by intro h; injection h with _ h _; omega), h1 j hj]
        by_cases hj2 : j < k ∨ n ≤ j + k
        · rw [if_pos hj2, if_pos (by omega)]
        · rw [if_neg hj2, if_neg (by omega)]
  · have := h2 j hj
    simpa [go_sem] using this
  · exact ⟨h3.os, h3.tape, h3.output, by simpa [World.setCell] using h3.size, fun i hi hne => by
      have hb : i ≠ b := fun e => hne (by rw [e])
      rw [Below.heap_setCell _ _ _ _ hb, Below.heap_setCell _ _ _ _ hb]; exact h3.block i hi hne⟩

/-- read back when all is exchanged -/
theorem rev_back {b k : Nat} {t : ByteArray} {w w' : World} (hk : t.size ≤ k + k + 1) (h : RevAt b t.size (fun j => t.data.getD j 0) k w w') (cap : Nat) :
    (convert 36 9 (.slice (some ⟨b, 0, none⟩) t.size cap)).run Tryd.prog w' = .ok (.string ⟨t.data.reverse⟩) w' := by
  have hl : t.data.toList.reverse.length = t.size := by rw [List.length_reverse, Array.length_toList]; rfl
  have := run_convert_bytes_back (P := Tryd.prog) w' 36 9 5 ⟨b, 0, none⟩ cap t.data.toList.reverse Tryd.underlying36 Tryd.underlying5 Tryd.underlying9 (fun j hj => by
    have hj' : j < t.size := by omega
    have e := h.1 j hj'
    have hx : t.data.toList.reverse[j] = t.data.getD (t.size - 1 - j) 0 := by
      rw [List.getElem_reverse, Array.getD_eq_getD_getElem?, Array.getElem?_eq_getElem (by show _ < t.size; omega)]
      simp only [Array.getElem_toList, Array.length_toList]
      rfl
    rw [hx]
    have ha : (Addr.add ⟨b, 0, none⟩ j) = ⟨b, j, none⟩ := by
      unfold Addr.add; split
      · rename_i h0; subst h0; rfl
      · simp
    rw [ha, e]
    by_cases hc : j < k ∨ t.size ≤ j + k
    · rw [if_pos hc]
    · rw [if_neg hc, show t.size - 1 - j = j by omega])
  rw [hl] at this
  rw [this, show t.data.toList.reverse.toArray = t.data.reverse by rw [← Array.toList_reverse, Array.toArray_toList]]

theorem heap_new (w : World) (o : Obj) : (w.alloc o).heap[w.heap.size]? = some o := by
  show (w.heap.push _)[w.heap.size]? = _; simp
theorem cell_new (w : World) (c : Array Value) (t : TypeId) (d : Nat × Nat) (i : Nat) : (w.alloc (.cells c t d)).cell? ⟨w.heap.size, i, none⟩ = c[i]? := by
  unfold World.cell?; rw [heap_new]; rfl
theorem frozen_new (w : World) (c : Array Value) (t : TypeId) (a b i : Nat) (h : i < a) : (w.alloc (.cells c t (a, b))).frozen? ⟨w.heap.size, i, none⟩ = false := by
  unfold World.frozen?; rw [heap_new]; simp; omega

/-- the bytes of t lie in the row -/
theorem bytesRow_rev (t : ByteArray) (cap : Nat) (w : World) :
    RevAt w.heap.size t.size (fun j => t.data.getD j 0) 0 (w.alloc (.cells (bytesRow t cap) 5 ((bytesRow t cap).size, (bytesRow t cap).size + 1))).drew (w.alloc (.cells (bytesRow t cap) 5 ((bytesRow t cap).size, (bytesRow t cap).size + 1))).drew := by
  refine ⟨fun j hj => ?_, fun j hj => ?_, World.grownBy.refl _ _⟩
  · have hj' : j < t.data.size := hj
    rw [World.cell?_drew, if_neg (by omega), cell_new]
    show (bytesRow t cap)[j]? = some (.int .u8 ((t.data.getD j 0).toNat : Int))
    rw [bytesRow_at t cap j hj', Array.getD_eq_getD_getElem?, Array.getElem?_eq_getElem hj']; rfl
  · have hj' : j < (bytesRow t cap).size := by
      have : j < t.data.size := hj
      simp [bytesRow]; omega
    show (w.alloc _).frozen? _ = _
    exact frozen_new _ _ _ _ _ _ hj'

end Go.Proofs.YtfjdbchffhbidaaDoor
