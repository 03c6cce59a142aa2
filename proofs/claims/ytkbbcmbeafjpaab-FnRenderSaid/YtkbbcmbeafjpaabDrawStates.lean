/-
  CONTRACTS: DrawIsValidState, DrawLastWord, DrawApplyAtom.
-/
import Derived.Test.YtkbbcmbeafjpaabDrawState
namespace Go.Proofs.Ytkbbcmbeafjpaab
open Go.RowKit

/-- a state, made in new memory, whatever the code -/
def MadeT (w : World) (e : Ending) (w' : World) : Prop :=
  ∃ (t : ByteArray) (j l : Bool) (c k : Int), e = .returned (.agg #[.string t, .bool j, .bool l, .int .i64 c, .int .i64 k]) ∧ t.size ≤ 2010 ∧ Below w.heap.size w w'

end Go.Proofs.Ytkbbcmbeafjpaab
