/-
  THE CARD of the claim that the law FnExactSegment returns true for every input (the walk lies in LawSegment). Conditions: the given row's own (the listed tables of the library read as the program's text lays them; the card ties them).
-/
import Derived.Test.YtkbbcmbeafjpaaaGreatDoorLawSegment
import Derived.Test.YtkbbcmbeafjpaaaGreatDoorFcMain
import Derived.Test.YtkbbcmbeafjpaaaGreatDoorFcvFnExactSegment
import Derived.Test.YtkbbcmbeafjpaaaGreatDoorTie
import Derived.Test.YtkbbcmbeafjpaaaGreatDoorCards
namespace Go.Proofs.YtkbbcmbeafjpaaaGreatDoor
open Go.RowKit

namespace fnExactSegment
theorem proved : Rows.FnExactSegmentCardSaid :=
  Claim7.holds_tied_plain_at .later [] [.data, .pinned] true (true, "0a055facdfed52634cc6e3afe02bf7d64c2c09defa06d1a19fab15cb4d895d9c") false over (fun _ h => by cases h) (by kernel_rfl) (fun _ h => by cases h) fnExactSegment_row_tie rfl ⟨rfl, rfl⟩ fcMain rfl
    (fun f fn hf hfn => by
      obtain rfl : f = 5 := Option.some.inj ((show Tryz.prog.funcNamed "loop.example/g00882/laws.FnExactSegment" = some 5 by kernel_rfl).symm.trans hf) |>.symm
      obtain rfl : fn = Tryz.f5 := (Option.some.inj (Tryz.func5.symm.trans hfn)).symm
      exact ⟨fcLooks, fun j t ht => by
        rw [Tryz.params5] at ht
        have hm : t ∈ [55, 25] := by simpa using Array.mem_of_getElem? ht
        have hall : ([55, 25].all fun u => !Tryz.prog.wantsStandIn u) = true := by kernel_rfl
        exact (show Tryz.prog.wantsStandIn t = false by simpa using List.all_eq_true.1 hall t hm)⟩)
    fcvFnExactSegment
#print axioms proved
end fnExactSegment

end Go.Proofs.YtkbbcmbeafjpaaaGreatDoor
