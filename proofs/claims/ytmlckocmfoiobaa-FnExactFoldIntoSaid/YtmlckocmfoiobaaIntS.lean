/-
  CONTRACTS: the laws' own functions over slices of integers: toIntS, eqIntS, markIntS, heldIntS.
-/
import Derived.Test.YtmlckocmfoiobaaSl
import Derived.Test.YtmlckocmfoiobaaStrA
import Derived.Deep.QuietTactic
import Derived.BigQuiet
import Derived.IntWalk
namespace Go.Proofs.Ytmlckocmfoiobaa
open Go.RowKit

theorem Try.infoInt : (Try.prog.info? 3).map (fun i => (i.zero, i.size, i.bytes)) = some (some (.int .i64 0), 1, 8) := by kernel_rfl

set_option maxHeartbeats 800000 in
theorem toIntS_any (v : Value) (l : List Int) (w : World) (hr : Rows w v l.length 1 (ints l)) (hl : l.length ≤ 1048576) :
    Calls Try.prog 43 #[v] w (RetRow 3 1 w.heap.size w l.length (ints l)) := by
  obtain ⟨i0, hi, hz0, hz1, hz2⟩ := info_parts Try.infoInt
  obtain ⟨a, cap, rfl, _, _, _, _, hcells⟩ := hr
  go_enter Try.func43, Try.ntmps43
  go_wp2_with (at_make; refine wpList_make_full _ rfl _ _ 58 rfl w.heap.size 3 i0 (.int .i64 0) 1 Try.underlying58 hi hz0 hz1 .i64 .i64 _ _ l.length rfl rfl rfl rfl ?c2 ?c3 (Nat.le_refl _) ?_)
  case c2 => rw [hz2]; omega
  case c3 => unfold maxLen; omega
  intro w1 hown1 hg1
  have hown0 : w1.ownsRow w.heap.size 3 1 (.slice (some ⟨w.heap.size, 0, none⟩) l.length l.length) l.length (half (ints l) (List.replicate l.length (.int .i64 0)) 0) := by
    rw [half_zero]
    simpa [Value.cells, toList_madeCells_one] using hown1
  have hb0 : Below w.heap.size w w1 := (Below.refl _ _).grown hg1 (Nat.le_refl _) (fun k h => by cases h)
  have HO := Lib.hid hown0; have HB := Lib.hid hb0
  clear hown1 hg1 hown0 hb0
  go_wp2
  go_loopw [4] (fun i wr => ∃ k : Nat, k ≤ l.length ∧ i = .int .i64 k ∧ wr.ownsRow w.heap.size 3 1 (.slice (some ⟨w.heap.size, 0, none⟩) l.length l.length) l.length (half (ints l) (List.replicate l.length (.int .i64 0)) k) ∧ Below w.heap.size w wr) (fun i _ => l.length - (intOf i).toNat)
  case atStart => exact ⟨0, Nat.zero_le _, rfl, HO.out, HB.out⟩
  clear HO HB
  case round =>
    obtain ⟨k, hk, rfl, hown, hb⟩ := hrel
    have HO := Lib.hid hown; have HB := Lib.hid hb; clear hown hb
    by_cases hlt : k < l.length
    · obtain ⟨b, off, rfl, hsrc⟩ := (hcells.keep HB.out) k _ (ints_at l k hlt)
      obtain ⟨z, hdst⟩ : ∃ z, wr.cell? ⟨w.heap.size, k, none⟩ = some z := by
        rw [HO.out.cellAt k (by omega)]
        exact ⟨_, List.getElem?_eq_getElem (by rw [half_length _ _ _ (by simp [ints])]; rw [ints_length]; exact hlt)⟩
      have hfr := HO.out.frozenAt k
      go_wp2
      go_roundw
      case rel =>
        have h1 := (HO.out.stored k (.int .i64 l[k])).1
        rw [half_set _ _ _ _ (by simp [ints]) (ints_at l k hlt)] at h1
        exact ⟨k + 1, by omega, by go_num, h1, HB.out.setCell (Nat.le_refl _) _⟩
      case measure => simp [intOf]; omega
    · obtain rfl : k = l.length := by omega
      go_wp2
      go_ret
      have h := HO.out
      rw [half_all' _ _ l.length (by simp [ints]) (by rw [ints_length])] at h
      exact ⟨_, rfl, h, HB.out⟩

set_option maxHeartbeats 800000 in
theorem eqIntS_same (v v' : Value) (l : List Int) (w : World) (hr : Rows w v l.length 1 (ints l)) (hr' : Rows w v' l.length 1 (ints l)) (hl : l.length ≤ 1048576) :
    Calls Try.prog 46 #[v, v'] w fun e w' => e = .returned (.bool true) ∧ Drew w w' := by
  obtain ⟨a, cap, rfl, _, _, _, _, hcells⟩ := hr
  obtain ⟨a', cap', rfl, _, _, _, _, hcells'⟩ := hr'
  go_enter Try.func46, Try.ntmps46
  go_wp2
  go_loopw [5] (fun i wr => ∃ k : Nat, k ≤ l.length ∧ i = .int .i64 k ∧ ∃ n, wr = w.drewN n) (fun i _ => l.length - (intOf i).toNat)
  case atStart => exact ⟨0, Nat.zero_le _, rfl, 0, rfl⟩
  case round =>
    obtain ⟨k, hk, rfl, n, rfl⟩ := hrel
    by_cases hlt : k < l.length
    · obtain ⟨b, off, rfl, h1⟩ := hcells k _ (ints_at l k hlt)
      obtain ⟨b', off', rfl, h2⟩ := hcells' k _ (ints_at l k hlt)
      have hki : (k : Int) < (l.length : Int) := by omega
      go_wp2
      go_quiet (fail)
      go_wp2
      go_roundw
      case rel => exact ⟨k + 1, by omega, by go_num, _, rfl⟩
      case measure => simp [intOf]; omega
    · go_wp2
      go_ret
      exact ⟨rfl, ⟨_, rfl⟩⟩

set_option maxHeartbeats 800000 in
theorem heldIntS_any (v : Value) (n : Nat) (k0 : Int) (w : World) (hr : Rows w v n 1 (ints (marksI k0 n))) (hn : n ≤ 1048576) (h0 : 0 ≤ k0) (h1 : k0 ≤ 1000000000) :
    Calls Try.prog 48 #[v, .int .i64 k0] w fun e w' => e = .returned (.int .i64 (k0 + n)) ∧ w = w' := by
  obtain ⟨a, cap, rfl, _, _, _, _, hcells⟩ := hr
  go_enter Try.func48, Try.ntmps48
  go_wp2
  go_loop [1, 5] (fun q i => ∃ k : Nat, k ≤ n ∧ i = .int .i64 k ∧ q = .int .i64 (k0 + k)) (fun _ i => n - (intOf i).toNat)
  case atStart => exact ⟨0, Nat.zero_le _, rfl, by simp⟩
  case round =>
    obtain ⟨k, hk, rfl, rfl⟩ := hrel
    by_cases hlt : k < n
    · obtain ⟨b, off, rfl, h2⟩ := hcells k _ (ints_at _ k (by rw [marksI_length]; exact hlt))
      rw [marksI_at] at h2
      go_wp2
      go_round
      case rel => exact ⟨k + 1, by omega, by go_num, by go_num⟩
      case measure => simp [intOf]; omega
    · obtain rfl : k = n := by omega
      go_wp2
      go_ret
      exact ⟨rfl, rfl⟩

set_option maxHeartbeats 800000 in
theorem markIntS_any (v : Value) (xs : List Value) (n base : Nat) (k0 : Int) (w : World) (hr : w.ownsRow base 3 1 v n xs) (hn : n ≤ 1048576) (h0 : 0 ≤ k0) (h1 : k0 ≤ 1000000000) :
    Calls Try.prog 47 #[v, .int .i64 k0] w fun e w' => e = .returned (.int .i64 (k0 + n)) ∧ Wrote 3 1 base w v n (ints (marksI k0 n)) w' := by
  have hxl := hr.1
  have hr0 := hr
  rcases hr.2 with ⟨rfl, rfl⟩ | ⟨g, cap, cur, rfl, hbg, hg, hnc, hcm, hcs, ht⟩
  · go_enter Try.func47, Try.ntmps47
    go_wp2
    go_loop [1, 5] (fun q i => i = .int .i64 0 ∧ q = .int .i64 k0) (fun _ _ => 0)
    case atStart => exact ⟨rfl, rfl⟩
    case round =>
      obtain ⟨rfl, rfl⟩ := hrel
      go_wp2
      go_ret
      exact ⟨by simp, World.ownsRow_nil _ _ _ _, World.grownBy.refl _ _⟩
  · have HR := Lib.hid hr0
    clear hr hr0 hg hcs ht hbg hcm
    go_enter Try.func47, Try.ntmps47
    go_wp2
    go_loopw [1, 5] (fun q i wr => ∃ k : Nat, k ≤ n ∧ i = .int .i64 k ∧ q = .int .i64 (k0 + k) ∧ Wrote 3 1 base w (.slice (some ⟨g, 0, none⟩) n cap) n (half (ints (marksI k0 n)) xs k) wr) (fun _ i _ => n - (intOf i).toNat)
    case atStart => exact ⟨0, Nat.zero_le _, rfl, by simp, by rw [half_zero]; exact HR.out, World.grownBy.refl _ _⟩
    case round =>
      obtain ⟨k, hk, rfl, rfl, hwr⟩ := hrel
      have HW := Lib.hid hwr; clear hwr
      have hlen : (ints (marksI k0 n)).length = xs.length := by rw [ints_length, marksI_length, hxl, Nat.mul_one]
      have HL := Lib.hid hlen; clear hlen
      by_cases hlt : k < n
      · obtain ⟨z, hdst⟩ : ∃ z, wr.cell? ⟨g, k, none⟩ = some z := by
          rw [HW.out.1.cellAt k (by omega)]
          exact ⟨_, List.getElem?_eq_getElem (by rw [half_length _ _ _ HL.out, ints_length, marksI_length]; exact hlt)⟩
        have hfr := HW.out.1.frozenAt k
        go_wp2
        go_roundw
        case rel =>
          have h2 := HW.out.1.stored k (.int .i64 (k0 + k))
          have h3 := h2.1
          rw [half_set _ _ _ _ HL.out (by rw [ints_at _ k (by rw [marksI_length]; exact hlt), marksI_at])] at h3
          exact ⟨k + 1, by omega, by go_num, by go_num, h3, grownBy_trans HW.out.2 h2.2⟩
        case measure => simp [intOf]; omega
      · obtain rfl : k = n := by omega
        go_wp2
        go_ret
        have h := HW.out.1
        rw [half_all' _ _ k HL.out (by rw [ints_length, marksI_length])] at h
        exact ⟨rfl, h, HW.out.2⟩

end Go.Proofs.Ytmlckocmfoiobaa
