/-
  THE CARD of the claim that the law FnExactFewestPieces returns true for every input (the walk lies in LawFewestPieces). Conditions: the given row's own (the listed tables of the library read as the program's text lays them; the card ties them).
-/
import Derived.Test.YtkbbcmbeafjpaaaGreatDoorLawFewestPieces
import Derived.Test.YtkbbcmbeafjpaaaGreatDoorFcMain
import Derived.Test.YtkbbcmbeafjpaaaGreatDoorFcvFnExactFewestPieces
import Derived.Test.YtkbbcmbeafjpaaaGreatDoorTie
import Derived.Test.YtkbbcmbeafjpaaaGreatDoorCards
namespace Go.Proofs.YtkbbcmbeafjpaaaGreatDoor
open Go.RowKit

namespace fnExactFewestPieces
theorem proved : Rows.FnExactFewestPiecesCardSaid :=
  Claim7.holds_tied_plain_at .later [] [.data, .pinned] true (true, "0a055facdfed52634cc6e3afe02bf7d64c2c09defa06d1a19fab15cb4d895d9c") false over (fun _ h => by cases h) (by kernel_rfl) (fun _ h => by cases h) fnExactFewestPieces_row_tie rfl ⟨rfl, rfl⟩ fcMain rfl
    (fun f fn hf hfn => by
      obtain rfl : f = 6 := Option.some.inj ((show Tryz.prog.funcNamed "loop.example/g00882/laws.FnExactFewestPieces" = some 6 by kernel_rfl).symm.trans hf) |>.symm
      obtain rfl : fn = Tryz.f6 := (Option.some.inj (Tryz.func6.symm.trans hfn)).symm
      exact ⟨fcLooks, fun j t ht => by
        rw [Tryz.params6] at ht
        have hm : t ∈ [55, 25] := by simpa using Array.mem_of_getElem? ht
        have hall : ([55, 25].all fun u => !Tryz.prog.wantsStandIn u) = true := by kernel_rfl
        exact (show Tryz.prog.wantsStandIn t = false by simpa using List.all_eq_true.1 hall t hm)⟩)
    fcvFnExactFewestPieces
#print axioms proved
end fnExactFewestPieces

end Go.Proofs.YtkbbcmbeafjpaaaGreatDoor
