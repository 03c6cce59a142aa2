/-
  THE CARD of the claim that the law FnExactScreenOf returns true for every input (the walk lies in LawScreenOf). Conditions: the given row's own (the listed tables of the library read as the program's text lays them; the card ties them).
-/
import Derived.Test.YtdidgaibgkdjoaaGreatDoorLawScreenOf
import Derived.Test.YtdidgaibgkdjoaaGreatDoorFcMain
import Derived.Test.YtdidgaibgkdjoaaGreatDoorFcvFnExactScreenOf
import Derived.Test.YtdidgaibgkdjoaaGreatDoorTie
import Derived.Test.YtdidgaibgkdjoaaGreatDoorCards
namespace Go.Proofs.YtdidgaibgkdjoaaGreatDoor
open Go.RowKit

namespace fnExactScreenOf
theorem proved : Rows.FnExactScreenOfCardSaid :=
  Claim7.holds_tied_plain_at .later [] [.data, .pinned] true (true, "70eabb1b7a533be697576e121598ac2897fd501f92ee71b84b46e17736223434") false over (fun _ h => by cases h) (by kernel_rfl) (fun _ h => by cases h) fnExactScreenOf_row_tie rfl ⟨rfl, rfl⟩ fcMain rfl
    (fun f fn hf hfn => by
      obtain rfl : f = 6 := Option.some.inj ((show Tryz.prog.funcNamed "loop.example/g00882/laws.FnExactScreenOf" = some 6 by kernel_rfl).symm.trans hf) |>.symm
      obtain rfl : fn = Tryz.f6 := (Option.some.inj (Tryz.func6.symm.trans hfn)).symm
      exact ⟨fcLooks, fun j t ht => by
        rw [Tryz.params6] at ht
        have hm : t ∈ [68, 36] := by simpa using Array.mem_of_getElem? ht
        have hall : ([68, 36].all fun u => !Tryz.prog.wantsStandIn u) = true := by kernel_rfl
        exact (show Tryz.prog.wantsStandIn t = false by simpa using List.all_eq_true.1 hall t hm)⟩)
    fcvFnExactScreenOf
#print axioms proved
end fnExactScreenOf

end Go.Proofs.YtdidgaibgkdjoaaGreatDoor
