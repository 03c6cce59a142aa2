/-
  CONTRACTS: the laws' own functions over slices of atoms: szAtomS, toAtomS, eqAtomS.
-/
import Derived.Test.YtfakaeddkhajbaaFoldS
import Derived.BigRegion
import Derived.Deep.DeepCutAuto
import Derived.Deep.RegionHeld3
import Derived.Lib.SmallJoins
namespace Go.Proofs.Ytfakaeddkhajbaa
open Go.RowKit

set_option maxHeartbeats 400000 in
theorem szAtom_any (k : Int) (t : ByteArray) (n : Int) (w : World) (ht : t.size ≤ maxLen) (h0 : 0 ≤ n) (h1 : n ≤ 1048576) :
    Calls Try.prog 45 #[.agg #[.int .i64 k, .string t], .int .i64 n] w fun e w' => e = .returned (.int .i64 (if n < (t.size : Int) then -1 else n - t.size)) ∧ Below w.heap.size w w' := by
  have HB := Lib.hid (Joins.below_alloc1 w (.cells #[.int .i64 k, .string t] 56))
  unfold maxLen at ht
  by_cases h : n < (t.size : Int)
  · have E := Lib.hid (show (if n < (t.size : Int) then -1 else n - t.size) = -1 from if_pos h)
    go_enter Try.func45, Try.ntmps45
    go_wp2
    all_goals go_ret
    all_goals exact ⟨by first | rfl | exact ret_int E.out.symm, HB.out⟩
  · have E := Lib.hid (show (if n < (t.size : Int) then -1 else n - t.size) = n - t.size from if_neg h)
    go_enter Try.func45, Try.ntmps45
    go_wp2
    all_goals go_ret
    all_goals exact ⟨by first | rfl | exact ret_int E.out.symm, HB.out⟩

set_option maxHeartbeats 400000 in
theorem toAtom_any (a : Int) (b : ByteArray) (w : World) :
    Calls Try.prog 48 #[.agg #[.int .i64 a, .string b]] w fun e w' => e = .returned (.agg #[.int .i64 a, .string b]) ∧ Below w.heap.size w w' := by
  go_enter Try.func48, Try.ntmps48
  go_wp2
  exact bodyPost_ret (v := .agg #[.int .i64 a, .string b]) (by simp [results, Try.results48, go_sem]) rfl ⟨rfl, (by repeat (first | with_reducible exact Below.refl _ _ | with_reducible assumption | with_reducible refine Below.alloc ?_ ?_ _ | with_reducible refine Below.setCell ?_ ?_ _ | with_reducible refine Below.drew ?_ | with_reducible refine below_drewN ?_ _ | with_reducible refine Below.trans ?_ (Below.mono (by assumption) ?_) | omega | ((repeat (first | rw [World.size_alloc] | rw [size_setCell] | rw [size_drewN] | rw [size_drew])); omega) | exact Nat.le_refl _ | (dsimp only; omega) | (simp [World.setCell]; omega)))⟩

set_option maxHeartbeats 800000 in
theorem szAtomS_any (v : Value) (l : List (Int × ByteArray)) (w : World) (hr : Rows w v l.length 2 (folds l)) (hsz : ∀ p ∈ l, p.2.size ≤ maxLen) :
    Calls Try.prog 51 #[v, .int .i64 1048576] w fun e w' => (∃ r : Int, e = .returned (.int .i64 r) ∧ (0 ≤ r → FoldsFit l)) ∧ Below w.heap.size w w' := by
  obtain ⟨a, cap, rfl, hnc, hcm, _, _, hcells⟩ := hr
  have HC := Lib.hid hcells
  have HZ := Lib.hid hsz
  clear hcells hsz
  unfold maxLen at hcm
  by_cases h0 : 1048576 < l.length
  · go_enter Try.func51, Try.ntmps51
    go_wp2
    go_ret
    exact ⟨⟨-1, rfl, fun h => absurd h (by omega)⟩, Below.refl _ _⟩
  · go_enter Try.func51, Try.ntmps51
    go_wp2
    go_loopw [1, 5] (fun lf i wr => ∃ (k : Nat) (n : Int), k ≤ l.length ∧ i = .int .i64 k ∧ lf = .int .i64 n ∧ 0 ≤ n ∧ n ≤ 1048576 ∧ Hid (∀ p ∈ l.take k, p.2.size ≤ 1048576) ∧ Below w.heap.size w wr) (fun _ i _ => l.length - (intOf i).toNat)
    case atStart => exact ⟨0, _, Nat.zero_le _, rfl, rfl, by omega, by omega, Lib.hid (by simp), Below.refl _ _⟩
    case round =>
      obtain ⟨k, n, hk, rfl, rfl, hn0, hn1, HA, hb⟩ := hrel
      have HB := Lib.hid hb; clear hb
      by_cases hlt : k < l.length
      · obtain ⟨b, off, rfl, c1, c2⟩ := fold_cells (HC.out.keep HB.out) k hlt
        have hs := HZ.out _ (List.getElem_mem hlt)
        have HN := Lib.hid (take_next (Q := fun p => p.2.size ≤ 1048576) hlt HA.out)
        have hki : (k : Int) < (l.length : Int) := by omega
        generalize l[k] = p at c1 c2 hs HN
        obtain ⟨pk, pt⟩ := p
        clear HA
        by_cases hn : n < (pt.size : Int)
        · go_wp2_with (go_at_call 45; refine (szAtom_any _ _ _ _ hs hn0 hn1).mono ?_; rintro e w1 ⟨he, hb1⟩; rw [if_pos hn] at he; subst he)
          go_ret
          exact ⟨⟨-1, rfl, fun h => absurd h (by omega)⟩, HB.out.trans (hb1.mono HB.out.size)⟩
        · have HN2 := Lib.hid (HN.out (by show pt.size ≤ 1048576; omega))
          clear HN
          go_wp2_with (go_at_call 45; refine (szAtom_any _ _ _ _ hs hn0 hn1).mono ?_; rintro e w1 ⟨he, hb1⟩; rw [if_neg hn] at he; subst he)
          go_roundw
          case rel => exact ⟨k + 1, n - pt.size, by omega, by go_num, rfl, by omega, by omega, HN2, HB.out.trans (hb1.mono HB.out.size)⟩
          case measure => simp [intOf]; omega
      · obtain rfl : k = l.length := by omega
        have HF : Hid (FoldsFit l) := Lib.hid ⟨by omega, by have := HA.out; rwa [List.take_of_length_le (Nat.le_refl _)] at this⟩
        clear HA
        go_wp2
        go_ret
        exact ⟨⟨n, rfl, fun _ => HF.out⟩, HB.out⟩

theorem Try.infoAtom : (Try.prog.info? 63).map (fun i => (i.zero, i.size, i.bytes)) = some (some (.agg #[.int .i64 0, .string ⟨#[]⟩]), 2, 24) := by kernel_rfl

set_option maxHeartbeats 800000 in
theorem toAtomS_any (v : Value) (l : List (Int × ByteArray)) (w : World) (hr : Rows w v l.length 2 (folds l)) (hl : l.length ≤ 1048576) :
    Calls Try.prog 53 #[v] w (RetRow 63 2 w.heap.size w l.length (folds l)) := by
  obtain ⟨i0, hi, hz0, hz1, hz2⟩ := info_parts Try.infoAtom
  obtain ⟨a, cap, rfl, _, _, _, _, hcells⟩ := hr
  have HC := Lib.hid hcells; clear hcells
  go_enter Try.func53, Try.ntmps53
  go_wp2_with (at_make; refine wpList_make_full _ rfl _ _ 70 rfl w.heap.size 63 i0 (.agg #[.int .i64 0, .string ⟨#[]⟩]) 2 Try.underlying70 hi hz0 hz1 .i64 .i64 _ _ l.length rfl rfl rfl rfl ?c2 ?c3 (Nat.le_refl _) ?_)
  case c2 => rw [hz2]; omega
  case c3 => unfold maxLen; omega
  intro w1 hown1 hg1
  have hb0 : Below w.heap.size w w1 := (Below.refl _ _).grown hg1 (Nat.le_refl _) (fun k h => by cases h)
  obtain ⟨zs, hown1⟩ : ∃ zs, w1.ownsRow w.heap.size 63 2 (.slice (some ⟨w.heap.size, 0, none⟩) l.length l.length) l.length zs := ⟨_, hown1⟩
  have hzl : (folds l).length = zs.length := by rw [folds_length, hown1.1]
  have hown0 : w1.ownsRow w.heap.size 63 2 (.slice (some ⟨w.heap.size, 0, none⟩) l.length l.length) l.length (half (folds l) zs (0 * 2)) := by
    rw [Nat.zero_mul, half_zero]; exact hown1
  have HO := Lib.hid hown0; have HB := Lib.hid hb0; have HL := Lib.hid hzl
  clear hown1 hg1 hown0 hb0 hzl hz0 hz1 hz2 hi
  go_wp2
  go_loopw [4] (fun i wr => ∃ k : Nat, k ≤ l.length ∧ i = .int .i64 k ∧ wr.ownsRow w.heap.size 63 2 (.slice (some ⟨w.heap.size, 0, none⟩) l.length l.length) l.length (half (folds l) zs (k * 2)) ∧ Below w.heap.size w wr) (fun i _ => l.length - (intOf i).toNat)
  case atStart => exact ⟨0, Nat.zero_le _, rfl, HO.out, HB.out⟩
  clear HO HB
  case round =>
    obtain ⟨k, hk, rfl, hown, hb⟩ := hrel
    have HO := Lib.hid hown; have HB := Lib.hid hb; clear hown hb
    by_cases hlt : k < l.length
    · obtain ⟨b, off, rfl, c1, c2⟩ := fold_cells (HC.out.keep HB.out) k hlt
      have HS := Lib.hid (half_set2 l zs k HL.out hlt)
      have hki : (k : Int) < (l.length : Int) := by omega
      have hlen : (half (folds l) zs (k * 2)).length = l.length * 2 := by rw [half_length _ _ _ HL.out, folds_length]
      generalize l[k] = p at c1 c2 HS
      obtain ⟨pk, pt⟩ := p
      obtain ⟨z1, d1⟩ : ∃ z, wr.cell? ⟨w.heap.size, k * 2, none⟩ = some z := by
        rw [HO.out.cellAt (k * 2) (by omega)]
        exact ⟨_, List.getElem?_eq_getElem (by omega)⟩
      obtain ⟨z2, d2⟩ : ∃ z, wr.cell? ⟨w.heap.size, k * 2 + 1, none⟩ = some z := by
        rw [HO.out.cellAt (k * 2 + 1) (by omega)]
        exact ⟨_, List.getElem?_eq_getElem (by omega)⟩
      go_wp2_with (go_at_call 48; refine (toAtom_any _ _ _).mono ?_; rintro e w1 ⟨rfl, hb1⟩; have HO1 := Lib.hid (own_keep HO.out hb1); have f1 := keepc hb1 d1; have f2 := keepc hb1 d2; have g1 := HO1.out.frozenAt (k * 2); have g2 := HO1.out.frozenAt (k * 2 + 1))
      go_roundw
      case rel =>
        have h1 := (HO1.out.stored (k * 2) (.int .i64 pk)).1
        have h2 := (h1.stored (k * 2 + 1) (.string pt)).1
        rw [HS.out] at h2
        exact ⟨k + 1, by omega, by go_num, h2, ((HB.out.trans (hb1.mono HB.out.size)).setCell (Nat.le_refl _) _).setCell (Nat.le_refl _) _⟩
      case measure => simp [intOf]; omega
    · obtain rfl : k = l.length := by omega
      go_wp2
      go_ret
      have h := HO.out
      rw [half_all' _ _ (l.length * 2) HL.out (by rw [folds_length])] at h
      exact ⟨_, rfl, h, HB.out⟩

set_option maxHeartbeats 400000 in
theorem eqAtom_same (k : Int) (t : ByteArray) (w : World) :
    Calls Try.prog 104 #[.agg #[.int .i64 k, .string t], .agg #[.int .i64 k, .string t]] w fun e w' => e = .returned (.bool true) ∧ Below w.heap.size w w' := by
  have HB := Lib.hid (Joins.below_alloc2 w (.cells #[.int .i64 k, .string t] 63) (.cells #[.int .i64 k, .string t] 63))
  go_enter Try.func104, Try.ntmps104
  go_wp2
  all_goals go_ret
  all_goals exact ⟨rfl, HB.out⟩

set_option maxHeartbeats 1600000 in
theorem eqAtomS_same (v v' : Value) (l : List (Int × ByteArray)) (w : World) (hr : Rows w v l.length 2 (folds l)) (hr' : Rows w v' l.length 2 (folds l)) (hl : l.length ≤ 1048576) :
    Calls Try.prog 55 #[v, v'] w fun e w' => e = .returned (.bool true) ∧ Below w.heap.size w w' := by
  obtain ⟨a, cap, rfl, _, _, _, _, hcells⟩ := hr
  obtain ⟨a', cap', rfl, _, _, _, _, hcells'⟩ := hr'
  have HC := Lib.hid hcells; have HC' := Lib.hid hcells'
  clear hcells hcells'
  go_enter Try.func55, Try.ntmps55
  go_wp2
  go_loopw [5] (fun i wr => ∃ k : Nat, k ≤ l.length ∧ i = .int .i64 k ∧ Below w.heap.size w wr) (fun i _ => l.length - (intOf i).toNat)
  case atStart => exact ⟨0, Nat.zero_le _, rfl, Below.refl _ _⟩
  case round =>
    obtain ⟨k, hk, rfl, hb⟩ := hrel
    have HB := Lib.hid hb; clear hb
    by_cases hlt : k < l.length
    · obtain ⟨b, off, rfl, c1, c2⟩ := fold_cells (HC.out.keep HB.out) k hlt
      obtain ⟨b', off', rfl, c3, c4⟩ := fold_cells (HC'.out.keep HB.out) k hlt
      have hki : (k : Int) < (l.length : Int) := by omega
      have hk0 : (0 : Int) ≤ (k : Int) := by omega
      generalize l[k] = p at c1 c2 c3 c4
      obtain ⟨pk, pt⟩ := p
      go_upto_region 6 with fail
      go_region_held3 (fun w' => w'.cell? ⟨b, off + k * 2, none⟩ = some (.int .i64 pk) ∧ w'.cell? ⟨b, off + k * 2 + 1, none⟩ = some (.string pt) ∧ w'.cell? ⟨b', off' + k * 2, none⟩ = some (.int .i64 pk) ∧ w'.cell? ⟨b', off' + k * 2 + 1, none⟩ = some (.string pt)) (first | exact ⟨e1, e2, e3, e4⟩ | exact ⟨c1, c2, c3, c4⟩) (first
        | (go_at_call 104; refine (eqAtom_same _ _ _).mono ?_; rintro e w1 ⟨rfl, hb1⟩; have e1 := keepc hb1 c1; have e2 := keepc hb1 c2; have e3 := keepc hb1 c3; have e4 := keepc hb1 c4))
      go_wp2
      go_roundw
      case rel => exact ⟨k + 1, by omega, by go_num, (below_drew1 HB.out).trans (hb1.mono HB.out.size)⟩
      case measure => simp [intOf]; omega
    · go_wp2
      go_ret
      exact ⟨rfl, HB.out⟩

end Go.Proofs.Ytfakaeddkhajbaa
