/-
  THE CARD of the claim that the law FnExactLookupFolded returns true for every input (the walk lies in LawLookupFolded). Conditions: the given row's own (the listed tables of the library read as the program's text lays them; the card ties them).
-/
import Derived.Test.YtkbbcmbeafjpaaaGreatDoorLawLookupFolded
import Derived.Test.YtkbbcmbeafjpaaaGreatDoorFcMain
import Derived.Test.YtkbbcmbeafjpaaaGreatDoorFcvFnExactLookupFolded
import Derived.Test.YtkbbcmbeafjpaaaGreatDoorTie
import Derived.Test.YtkbbcmbeafjpaaaGreatDoorCards
namespace Go.Proofs.YtkbbcmbeafjpaaaGreatDoor
open Go.RowKit

namespace fnExactLookupFolded
theorem proved : Rows.FnExactLookupFoldedCardSaid :=
  Claim7.holds_tied_plain_at .later [] [.data, .pinned] true (true, "0a055facdfed52634cc6e3afe02bf7d64c2c09defa06d1a19fab15cb4d895d9c") false over (fun _ h => by cases h) (by kernel_rfl) (fun _ h => by cases h) fnExactLookupFolded_row_tie rfl ⟨rfl, rfl⟩ fcMain rfl
    (fun f fn hf hfn => by
      obtain rfl : f = 7 := Option.some.inj ((show Tryz.prog.funcNamed "loop.example/g00882/laws.FnExactLookupFolded" = some 7 by kernel_rfl).symm.trans hf) |>.symm
      obtain rfl : fn = Tryz.f7 := (Option.some.inj (Tryz.func7.symm.trans hfn)).symm
      exact ⟨fcLooks, fun j t ht => by
        rw [Tryz.params7] at ht
        have hm : t ∈ [55, 67, 25] := by simpa using Array.mem_of_getElem? ht
        have hall : ([55, 67, 25].all fun u => !Tryz.prog.wantsStandIn u) = true := by kernel_rfl
        exact (show Tryz.prog.wantsStandIn t = false by simpa using List.all_eq_true.1 hall t hm)⟩)
    fcvFnExactLookupFolded
#print axioms proved
end fnExactLookupFolded

end Go.Proofs.YtkbbcmbeafjpaaaGreatDoor
