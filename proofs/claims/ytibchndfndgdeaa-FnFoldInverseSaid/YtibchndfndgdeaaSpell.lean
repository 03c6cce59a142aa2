/-
  CONTRACTS: the spelling rules of the program and of the reference.
-/
import Derived.Test.YtibchndfndgdeaaEnds
import Derived.BigRegion
import Derived.Deep.DeepCutAuto
namespace Go.Proofs.Ytibchndfndgdeaa
open Go.RowKit

theorem rows_newS (w : World) (l : List ByteArray) (E : TypeId) (h : l.length ≤ 1048576) : Rows (w.alloc (.cells (strs l).toArray E)) (.slice (some ⟨w.heap.size, 0, none⟩) l.length l.length) l.length 1 (strs l) := by
  refine ⟨_, _, rfl, Nat.le_refl _, by unfold maxLen; omega, by rw [strs_length, Nat.mul_one], (fun h => nomatch h), fun j u hj => ⟨w.heap.size, 0, rfl, ?_⟩⟩
  rw [Nat.zero_add, World.cell?_alloc_mark]
  simpa using hj

theorem below_past {W w' : World} {o : Obj} (h1 : Below (W.alloc o).heap.size (W.alloc o) w') : Below W.heap.size W w' :=
  (Joins.below_alloc1 W o).trans (h1.mono (Joins.below_alloc1 W o).size)

theorem below_step {w wc w1 : World} (h : Below w.heap.size w wc) (h1 : Below wc.heap.size wc w1) : Below w.heap.size w w1 :=
  h.trans (h1.mono h.size)

end Go.Proofs.Ytibchndfndgdeaa
