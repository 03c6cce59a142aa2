/-
  CONTRACTS: what DrawJoinSuffix and DrawSplitSuffix hand over.
-/
import Derived.Test.YtfjdbchffhbidaaDrawWord
import Derived.Test.YtfjdbchffhbidaaJoin
namespace Go.Proofs.Ytfjdbchffhbidaa
open Go.RowKit

set_option maxHeartbeats 800000 in
theorem DrawJoinSuffix_any (v : Value) (w : World) (h : Code8 w v) : Calls Try.prog 15 #[v] w (MadeSS w 30) := by
  go_enter Try.func15, Try.ntmps15
  go_wp2_with (go_at_call 49; refine (DrawSuffixRule_any _ _ h).mono ?_; rintro e w1 ⟨s, t, rfl, h1, h2, hb⟩)
  go_ret2
  exact ⟨_, _, rfl, h1, h2, hb⟩

theorem Pl.joinOut_size (s t : ByteArray) : (Pl.joinOut s t).size ≤ 24 := by
  unfold Pl.joinOut Pl.joinOk; split
  · rename_i h
    simp only [Bool.and_eq_true, decide_eq_true_iff] at h
    exact h.2
  · exact Nat.zero_le _

set_option maxHeartbeats 1600000 in
theorem DrawSplitSuffix_any (v : Value) (w : World) (h : Code8 w v) : Calls Try.prog 8 #[v] w (MadeSS w 30) := by
  obtain ⟨l, h1, h2⟩ := h
  have h3 := h2
  obtain ⟨a, cap, rfl, _, _, _, _, _⟩ := h3
  have HD := Lib.hid (Read.refl (Cur.new rfl h1 h2 58))
  clear h1 h2
  go_enter Try.func8, Try.ntmps8
  go_wp2_with (first | first | (go_at_call 35; refine (anyWord_any (by repeat (first | with_reducible exact HD.out | with_reducible apply Read.alloc | with_reducible apply Read.to)) (by omega)).mono ?_; rintro e w' ⟨⟨sa, rfl, hsa⟩, hd⟩; replace HD := Lib.hid hd; clear hd) | (go_at_call 37; refine (one_any 5 (by repeat (first | with_reducible exact HD.out | with_reducible apply Read.alloc | with_reducible apply Read.to)) (by omega) (by decide) (by decide)).mono ?_; rintro e w' ⟨⟨ba, rfl⟩, hd⟩; replace HD := Lib.hid hd; clear hd) | (go_at_call 36; refine (ending_any (by repeat (first | with_reducible exact HD.out | with_reducible apply Read.alloc | with_reducible apply Read.to)) (by omega)).mono ?_; rintro e w' ⟨⟨sa, rfl, hsa⟩, hd⟩; replace HD := Lib.hid hd; clear hd) | (go_at_call 16; have hz0 := hsa; refine (specJoinSuffix_any _ _ _ (by unfold maxLen; omega) (by unfold maxLen; omega)).mono ?_; rintro e w' ⟨rfl, rfl⟩))
  all_goals go_ret2
  all_goals exact ⟨_, _, rfl, by first | assumption | exact Nat.le_trans (Pl.joinOut_size _ _) (by decide), by assumption, HD.out.made⟩

end Go.Proofs.Ytfjdbchffhbidaa
