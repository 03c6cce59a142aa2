/-
  FROM THE CONDITION OF A ROW: the table of powers of ten and the error ErrSyntax of the library.
-/
import Derived.Test.YtkbbcmbeafjpaabDoorRows
import Derived.Test.YtkbbcmbeafjpaabDoorPedE
import Derived.MakeChecks
import Derived.Stop.LaidErr
import Derived.Lib.LaidTab
namespace Go.Proofs.YtkbbcmbeafjpaabDoor
open Go.RowKit

theorem Tryd.starES : "*" ++ "errors.errorString" = "*errors.errorString" := by decide
theorem Tryd.rowES (u : TypeId) (h : Tryd.prog.typeName? 3 u = some "*errors.errorString") : u = 93 :=
  typeName_ptr_named (nm := "errors.errorString") (by rw [Tryd.starES]; kernel_rfl) (by kernel_rfl) (by decide) u (by rw [Tryd.starES]; exact h)
/-- the five variables that the rows of ParseEdit and FnEditText list -/
theorem toldE {W : World} (h : laidMetH Tryd.prog Rows.fnExactParseEditRow.laid W) : Tab10 W ∧ ErrC W := by
  rw [MakeChecks.laidMetH_plain _ _ _ (by kernel_rfl)] at h
  constructor
  · exact Lib.tabIs_of_head (show Tryd.prog.globalNamed "internal/strconv.uint64pow10" = some 3 by kernel_rfl) (by kernel_rfl) Tryd.underlying97 Tryd.underlying49 (by kernel_rfl) (by kernel_rfl)
      (show laidMet Tryd.prog (("internal/strconv.uint64pow10", Lib.tabData .u64 Lib.pow10Tab) :: _) W from h.tail.tail)
  · obtain ⟨a, _, hv, -, -, -⟩ := laid_sentinel h.tail.tail.tail.tail (show Tryd.prog.globalNamed "strconv.ErrSyntax" = some 1 by kernel_rfl) (by kernel_rfl) Tryd.underlying56 Tryd.rowES Tryd.underlying93 Tryd.underlying95 rfl rfl Tryd.underlying9 (by kernel_rfl) (by kernel_rfl)
    exact ⟨_, _, hv⟩

end Go.Proofs.YtkbbcmbeafjpaabDoor
