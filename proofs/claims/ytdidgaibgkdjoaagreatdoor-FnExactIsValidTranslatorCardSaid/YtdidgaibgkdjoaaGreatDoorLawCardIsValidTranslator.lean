/-
  THE CARD of the claim that the law FnExactIsValidTranslator returns true for every input (the walk lies in LawIsValidTranslator). Conditions: the given row's own (the listed tables of the library read as the program's text lays them; the card ties them).
-/
import Derived.Test.YtdidgaibgkdjoaaGreatDoorLawIsValidTranslator
import Derived.Test.YtdidgaibgkdjoaaGreatDoorFcMain
import Derived.Test.YtdidgaibgkdjoaaGreatDoorFcvFnExactIsValidTranslator
import Derived.Test.YtdidgaibgkdjoaaGreatDoorTie
import Derived.Test.YtdidgaibgkdjoaaGreatDoorCards
namespace Go.Proofs.YtdidgaibgkdjoaaGreatDoor
open Go.RowKit

namespace fnExactIsValidTranslator
theorem proved : Rows.FnExactIsValidTranslatorCardSaid :=
  Claim7.holds_tied_plain_at .later [] [.data, .pinned] true (true, "70eabb1b7a533be697576e121598ac2897fd501f92ee71b84b46e17736223434") false over (fun _ h => by cases h) (by kernel_rfl) (fun _ h => by cases h) fnExactIsValidTranslator_row_tie rfl ⟨rfl, rfl⟩ fcMain rfl
    (fun f fn hf hfn => by
      obtain rfl : f = 7 := Option.some.inj ((show Tryz.prog.funcNamed "loop.example/g00882/laws.FnExactIsValidTranslator" = some 7 by kernel_rfl).symm.trans hf) |>.symm
      obtain rfl : fn = Tryz.f7 := (Option.some.inj (Tryz.func7.symm.trans hfn)).symm
      exact ⟨fcLooks, fun j t ht => by
        rw [Tryz.params7] at ht
        have hm : t ∈ [68, 75] := by simpa using Array.mem_of_getElem? ht
        have hall : ([68, 75].all fun u => !Tryz.prog.wantsStandIn u) = true := by kernel_rfl
        exact (show Tryz.prog.wantsStandIn t = false by simpa using List.all_eq_true.1 hall t hm)⟩)
    fcvFnExactIsValidTranslator
#print axioms proved
end fnExactIsValidTranslator

end Go.Proofs.YtdidgaibgkdjoaaGreatDoor
