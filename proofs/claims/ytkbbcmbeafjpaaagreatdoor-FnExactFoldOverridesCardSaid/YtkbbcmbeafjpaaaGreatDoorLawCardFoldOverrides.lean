/-
  THE CARD of the claim that the law FnExactFoldOverrides returns true for every input (the walk lies in LawFoldOverrides). Conditions: the given row's own (the listed tables of the library read as the program's text lays them; the card ties them).
-/
import Derived.Test.YtkbbcmbeafjpaaaGreatDoorLawFoldOverrides
import Derived.Test.YtkbbcmbeafjpaaaGreatDoorFcMain
import Derived.Test.YtkbbcmbeafjpaaaGreatDoorFcvFnExactFoldOverrides
import Derived.Test.YtkbbcmbeafjpaaaGreatDoorTie
import Derived.Test.YtkbbcmbeafjpaaaGreatDoorCards
namespace Go.Proofs.YtkbbcmbeafjpaaaGreatDoor
open Go.RowKit

namespace fnExactFoldOverrides
theorem proved : Rows.FnExactFoldOverridesCardSaid :=
  Claim7.holds_tied_plain_at .later [] [.data, .pinned] true (true, "0a055facdfed52634cc6e3afe02bf7d64c2c09defa06d1a19fab15cb4d895d9c") false over (fun _ h => by cases h) (by kernel_rfl) (fun _ h => by cases h) fnExactFoldOverrides_row_tie rfl ⟨rfl, rfl⟩ fcMain rfl
    (fun f fn hf hfn => by
      obtain rfl : f = 8 := Option.some.inj ((show Tryz.prog.funcNamed "loop.example/g00882/laws.FnExactFoldOverrides" = some 8 by kernel_rfl).symm.trans hf) |>.symm
      obtain rfl : fn = Tryz.f8 := (Option.some.inj (Tryz.func8.symm.trans hfn)).symm
      exact ⟨fcLooks, fun j t ht => by
        rw [Tryz.params8] at ht
        have hm : t ∈ [55, 67] := by simpa using Array.mem_of_getElem? ht
        have hall : ([55, 67].all fun u => !Tryz.prog.wantsStandIn u) = true := by kernel_rfl
        exact (show Tryz.prog.wantsStandIn t = false by simpa using List.all_eq_true.1 hall t hm)⟩)
    fcvFnExactFoldOverrides
#print axioms proved
end fnExactFoldOverrides

end Go.Proofs.YtkbbcmbeafjpaaaGreatDoor
