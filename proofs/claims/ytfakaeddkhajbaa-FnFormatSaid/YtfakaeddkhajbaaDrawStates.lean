/-
  CONTRACTS: DrawIsValidState, DrawLastWord, DrawApplyAtom.
-/
import Derived.Test.YtfakaeddkhajbaaDrawState
namespace Go.Proofs.Ytfakaeddkhajbaa
open Go.RowKit

/-- a state, made in new memory, whatever the code -/
def MadeT (w : World) (e : Ending) (w' : World) : Prop :=
  ∃ (t : ByteArray) (j l : Bool) (c k : Int), e = .returned (.agg #[.string t, .bool j, .bool l, .int .i64 c, .int .i64 k]) ∧ t.size ≤ 2010 ∧ Below w.heap.size w w'

set_option maxHeartbeats 800000 in
theorem DrawIsValidState_any (v : Value) (w : World) (h : Code8 w v) : Calls Try.prog 105 #[v] w (MadeT w) := by
  obtain ⟨l, h1, h2⟩ := h.alloc (.cells #[.string ⟨#[]⟩, .bool false, .bool false, .int .i64 0, .int .i64 0] 59)
  clear h
  have h3 := h2
  obtain ⟨a, cap, rfl, _, _, _, _, _⟩ := h3
  have HC := Lib.hid (Cur.newAt (World.size_alloc w (.cells #[.string ⟨#[]⟩, .bool false, .bool false, .int .i64 0, .int .i64 0] 59)) rfl h1 h2 92)
  have Z0 := Lib.hid ((St.new w ⟨#[]⟩ false false 0 0 59).alloc (.cells #[.slice a l.length cap, .int .i64 0, .int .u64 0] 92))
  have B0 := Lib.hid (laid2_below w (.cells #[.string ⟨#[]⟩, .bool false, .bool false, .int .i64 0, .int .i64 0] 59) (.cells #[.slice a l.length cap, .int .i64 0, .int .u64 0] 92))
  clear h1 h2
  go_enter Try.func105, Try.ntmps105
  go_wp2_with (go_at_call 106; refine (state_any (Read.refl HC.out) (by omega)).mono ?_; rintro e w1 ⟨⟨t, sj, sg, sc, sk, rfl, ht, hb⟩, hd⟩; have Z1 := Lib.hid (Z0.out.read hd (by omega)); have B1 := Lib.hid (B0.out.trans (hd.below w.heap.size (by omega) B0.out.size)); clear hb hd; obtain ⟨n0, n1, n2, n3, n4, nf⟩ := Z1.out; dsimp only at n0 n1 n2 n3 n4; unfold thawed at nf)
  have hB := B1.out
  exact bodyPost_ret (v := .agg #[.string t, .bool sj, .bool sg, .int .i64 sc, .int .i64 sk]) (by simp [results, Try.results105, go_sem, *]) rfl ⟨_, _, _, _, _, rfl, ht, (by repeat (first | with_reducible exact Below.refl _ _ | with_reducible assumption | with_reducible refine Below.alloc ?_ ?_ _ | with_reducible refine Below.setCell ?_ ?_ _ | with_reducible refine Below.drew ?_ | with_reducible refine below_drewN ?_ _ | with_reducible refine Below.trans ?_ (Below.mono (by assumption) ?_) | omega | ((repeat (first | rw [World.size_alloc] | rw [size_setCell] | rw [size_drewN] | rw [size_drew])); omega) | exact Nat.le_refl _ | (dsimp only; omega) | (simp [World.setCell]; omega)))⟩

set_option maxHeartbeats 800000 in
theorem DrawLastWord_any (v : Value) (w : World) (h : Code8 w v) : Calls Try.prog 56 #[v] w (MadeT w) := by
  have h2 := Lib.hid (h.alloc (.cells #[.string ⟨#[]⟩, .bool false, .bool false, .int .i64 0, .int .i64 0] 59))
  have Z0 := Lib.hid (St.new w ⟨#[]⟩ false false 0 0 59)
  have B0 := Lib.hid (Joins.below_alloc1 w (.cells #[.string ⟨#[]⟩, .bool false, .bool false, .int .i64 0, .int .i64 0] 59))
  clear h
  go_enter Try.func56, Try.ntmps56
  go_wp2_with (go_at_call 105; refine (DrawIsValidState_any _ _ h2.out).mono ?_; rintro e w1 ⟨t, sj, sg, sc, sk, rfl, ht, hb⟩; have Z1 := Lib.hid (Z0.out.keep hb); have B1 := Lib.hid (below_nx B0.out hb); clear hb; obtain ⟨n0, n1, n2, n3, n4, nf⟩ := Z1.out; dsimp only at n0 n1 n2 n3 n4; unfold thawed at nf)
  have hB := B1.out
  exact bodyPost_ret (v := .agg #[.string t, .bool sj, .bool sg, .int .i64 sc, .int .i64 sk]) (by simp [results, Try.results56, go_sem, *]) rfl ⟨_, _, _, _, _, rfl, ht, (by repeat (first | with_reducible exact Below.refl _ _ | with_reducible assumption | with_reducible refine Below.alloc ?_ ?_ _ | with_reducible refine Below.setCell ?_ ?_ _ | with_reducible refine Below.drew ?_ | with_reducible refine below_drewN ?_ _ | with_reducible refine Below.trans ?_ (Below.mono (by assumption) ?_) | omega | ((repeat (first | rw [World.size_alloc] | rw [size_setCell] | rw [size_drewN] | rw [size_drew])); omega) | exact Nat.le_refl _ | (dsimp only; omega) | (simp [World.setCell]; omega)))⟩

end Go.Proofs.Ytfakaeddkhajbaa
