/-
  THE CARD of the claim that the law FnExactShadowedEntries returns true for every input (the walk lies in LawShadowedEntries). Conditions: the given row's own (the listed tables of the library read as the program's text lays them; the card ties them).
-/
import Derived.Test.YtdidgaibgkdjoaaGreatDoorLawShadowedEntries
import Derived.Test.YtdidgaibgkdjoaaGreatDoorFcMain
import Derived.Test.YtdidgaibgkdjoaaGreatDoorFcvFnExactShadowedEntries
import Derived.Test.YtdidgaibgkdjoaaGreatDoorTie
import Derived.Test.YtdidgaibgkdjoaaGreatDoorCards
namespace Go.Proofs.YtdidgaibgkdjoaaGreatDoor
open Go.RowKit

namespace fnExactShadowedEntries
theorem proved : Rows.FnExactShadowedEntriesCardSaid :=
  Claim7.holds_tied_plain_at .later [] [.data, .pinned] true (true, "70eabb1b7a533be697576e121598ac2897fd501f92ee71b84b46e17736223434") false over (fun _ h => by cases h) (by kernel_rfl) (fun _ h => by cases h) fnExactShadowedEntries_row_tie rfl ⟨rfl, rfl⟩ fcMain rfl
    (fun f fn hf hfn => by
      obtain rfl : f = 4 := Option.some.inj ((show Tryz.prog.funcNamed "loop.example/g00882/laws.FnExactShadowedEntries" = some 4 by kernel_rfl).symm.trans hf) |>.symm
      obtain rfl : fn = Tryz.f4 := (Option.some.inj (Tryz.func4.symm.trans hfn)).symm
      exact ⟨fcLooks, fun j t ht => by
        rw [Tryz.params4] at ht
        have hm : t ∈ [42] := by simpa using Array.mem_of_getElem? ht
        have hall : ([42].all fun u => !Tryz.prog.wantsStandIn u) = true := by kernel_rfl
        exact (show Tryz.prog.wantsStandIn t = false by simpa using List.all_eq_true.1 hall t hm)⟩)
    fcvFnExactShadowedEntries
#print axioms proved
end fnExactShadowedEntries

end Go.Proofs.YtdidgaibgkdjoaaGreatDoor
