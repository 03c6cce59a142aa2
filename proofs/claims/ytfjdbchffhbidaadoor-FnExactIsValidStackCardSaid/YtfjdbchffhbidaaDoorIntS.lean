/-
  CONTRACTS: the laws' own functions over slices of integers: toIntS, eqIntS, markIntS, heldIntS.
-/
import Derived.Test.YtfjdbchffhbidaaDoorSl
import Derived.Test.YtfjdbchffhbidaaDoorStrA
import Derived.Deep.QuietTactic
import Derived.BigQuiet
import Derived.IntWalk
namespace Go.Proofs.YtfjdbchffhbidaaDoor
open Go.RowKit

theorem Tryd.infoInt : (Tryd.prog.info? 3).map (fun i => (i.zero, i.size, i.bytes)) = some (some (.int .i64 0), 1, 8) := by kernel_rfl

set_option maxHeartbeats 800000 in
theorem toIntS_any (v : Value) (l : List Int) (w : World) (hr : Rows w v l.length 1 (ints l)) (hl : l.length ≤ 1048576) :
    Calls Tryd.prog 25 #[v] w (RetRow 3 1 w.heap.size w l.length (ints l)) := by
  obtain ⟨i0, hi, hz0, hz1, hz2⟩ := info_parts Tryd.infoInt
  obtain ⟨a, cap, rfl, _, _, _, _, hcells⟩ := hr
  go_enter Tryd.func25, Tryd.ntmps25
  go_wp2_with (at_make; refine wpList_make_full _ rfl _ _ 44 rfl w.heap.size 3 i0 (.int .i64 0) 1 Tryd.underlying44 hi hz0 hz1 .i64 .i64 _ _ l.length rfl rfl rfl rfl ?c2 ?c3 (Nat.le_refl _) ?_)
  case c2 => rw [hz2]; omega
  case c3 => unfold maxLen; omega
  intro w1 hown1 hg1
  have hown0 : w1.ownsRow w.heap.size 3 1 (.slice (some ⟨w.heap.size, 0, none⟩) l.length l.length) l.length (half (ints l) (List.replicate l.length (.int .i64 0)) 0) := by
    rw [half_zero]
    simpa [Value.cells, toList_madeCells_one] using hown1
  have hb0 : Below w.heap.size w w1 := (Below.refl _ _).grown hg1 (Nat.le_refl _) (fun k h => by cases h)
  have HO := Lib.hid hown0; have HB := Lib.hid hb0
  clear hown1 hg1 hown0 hb0
  go_wp2
  go_loopw [4] (fun i wr => ∃ k : Nat, k ≤ l.length ∧ i = .int .i64 k ∧ wr.ownsRow w.heap.size 3 1 (.slice (some ⟨w.heap.size, 0, none⟩) l.length l.length) l.length (half (ints l) (List.replicate l.length (.int .i64 0)) k) ∧ Below w.heap.size w wr) (fun i _ => l.length - (intOf i).toNat)
  case atStart => exact ⟨0, Nat.zero_le _, rfl, HO.out, HB.out⟩
  clear HO HB
  case round =>
    obtain ⟨k, hk, rfl, hown, hb⟩ := hrel
    have HO := Lib.hid hown; have HB := Lib.hid hb; clear hown hb
    by_cases hlt : k < l.length
    · obtain ⟨b, off, rfl, hsrc⟩ := (hcells.keep HB.out) k _ (ints_at l k hlt)
      obtain ⟨z, hdst⟩ : ∃ z, wr.cell? ⟨w.heap.size, k, none⟩ = some z := by
        rw [HO.out.cellAt k (by omega)]
        exact ⟨_, List.getElem?_eq_getElem (by rw [half_length _ _ _ (by simp [ints])]; rw [ints_length]; exact hlt)⟩
      have hfr := HO.out.frozenAt k
      go_wp2
      go_roundw
      case rel =>
        have h1 := (HO.out.stored k (.int .i64 l[k])).1
        rw [half_set _ _ _ _ (by simp [ints]) (ints_at l k hlt)] at h1
        exact ⟨k + 1, by omega, by go_num, h1, HB.out.setCell (Nat.le_refl _) _⟩
      case measure => simp [intOf]; omega
    · obtain rfl : k = l.length := by omega
      go_wp2
      go_ret
      have h := HO.out
      rw [half_all' _ _ l.length (by simp [ints]) (by rw [ints_length])] at h
      exact ⟨_, rfl, h, HB.out⟩

set_option maxHeartbeats 800000 in
theorem eqIntS_same (v v' : Value) (l : List Int) (w : World) (hr : Rows w v l.length 1 (ints l)) (hr' : Rows w v' l.length 1 (ints l)) (hl : l.length ≤ 1048576) :
    Calls Tryd.prog 28 #[v, v'] w fun e w' => e = .returned (.bool true) ∧ Drew w w' := by
  obtain ⟨a, cap, rfl, _, _, _, _, hcells⟩ := hr
  obtain ⟨a', cap', rfl, _, _, _, _, hcells'⟩ := hr'
  go_enter Tryd.func28, Tryd.ntmps28
  go_wp2
  go_loopw [5] (fun i wr => ∃ k : Nat, k ≤ l.length ∧ i = .int .i64 k ∧ ∃ n, wr = w.drewN n) (fun i _ => l.length - (intOf i).toNat)
  case atStart => exact ⟨0, Nat.zero_le _, rfl, 0, rfl⟩
  case round =>
    obtain ⟨k, hk, rfl, n, rfl⟩ := hrel
    by_cases hlt : k < l.length
    · obtain ⟨b, off, rfl, h1⟩ := hcells k _ (ints_at l k hlt)
      obtain ⟨b', off', rfl, h2⟩ := hcells' k _ (ints_at l k hlt)
      have hki : (k : Int) < (l.length : Int) := by omega
      go_wp2
      go_quiet (fail)
      go_wp2
      go_roundw
      case rel => exact ⟨k + 1, by omega, by go_num, _, rfl⟩
      case measure => simp [intOf]; omega
    · go_wp2
      go_ret
      exact ⟨rfl, ⟨_, rfl⟩⟩

end Go.Proofs.YtfjdbchffhbidaaDoor
