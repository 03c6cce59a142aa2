/-
  CONTRACTS: the laws' own functions over slices of slices of integers: eqIntSS, markIntSS, heldIntSS.
-/
import Derived.Test.YtkbbcmbeafjpaaaGreatDoorNestM
namespace Go.Proofs.YtkbbcmbeafjpaaaGreatDoor
open Go.RowKit

set_option maxRecDepth 20000 in
set_option maxHeartbeats 1600000 in
theorem eqIntSS_same (v v' : Value) (L : List (List Int)) (w : World) (hr : Nests 1 0 w v L) (hr' : Nests 1 0 w v' L) (hL : L.length ≤ 1048576) (hs : ∀ q ∈ L, q.length ≤ 1048576) :
    Calls Tryz.prog 47 #[v, v'] w fun e w' => e = .returned (.bool true) ∧ Below w.heap.size w w' := by
  have HE := Lib.hid hr; have HE' := Lib.hid hr'
  have HS := Lib.hid hs
  obtain ⟨a, cap, rfl, _, _⟩ := nest_form hr
  obtain ⟨a', cap', rfl, _, _⟩ := nest_form hr'
  clear hr hr' hs
  go_enter Tryz.func47, Tryz.ntmps47
  go_wp2
  go_loopw [5] (fun i wr => ∃ k : Nat, k ≤ L.length ∧ i = .int .i64 k ∧ Below w.heap.size w wr) (fun i _ => L.length - (intOf i).toNat)
  case atStart => exact ⟨0, Nat.zero_le _, rfl, Below.refl _ _⟩
  case round =>
    obtain ⟨k, hk, rfl, hb⟩ := hrel
    have HB := Lib.hid hb; clear hb
    by_cases hlt : k < L.length
    · obtain ⟨b, off, u, rfl, c1, c3⟩ := nest_at (HE.out.keep HB.out) k hlt
      obtain ⟨b', off', u', rfl, d1, d3⟩ := nest_at (HE'.out.keep HB.out) k hlt
      have hs := HS.out _ (List.getElem_mem hlt)
      have hki : (k : Int) < (L.length : Int) := by omega
      have hk0 : (0 : Int) ≤ (k : Int) := by omega
      replace c1 : wr.cell? ⟨b, off + k, none⟩ = some u := by rw [Nat.mul_one, Nat.add_zero] at c1; exact c1
      replace d1 : wr.cell? ⟨b', off' + k, none⟩ = some u' := by rw [Nat.mul_one, Nat.add_zero] at d1; exact d1
      generalize L[k] = p at c3 d3 hs
      have HR := Lib.hid c3
      have HR' := Lib.hid d3
      obtain ⟨au, cu, rfl, _, _⟩ := rows_form c3
      obtain ⟨au', cu', rfl, _, _⟩ := rows_form d3
      clear c3 d3
      go_upto_region 6 with fail
      go_region_held3 (fun w' => w'.cell? ⟨b, off + k, none⟩ = some (.slice au p.length cu) ∧ w'.cell? ⟨b', off' + k, none⟩ = some (.slice au' p.length cu')) (first | exact ⟨e1, e3⟩ | exact ⟨c1, d1⟩) (first
        | (go_at_call 19; refine (eqIntS_same _ _ p _ (Rows.drew HR.out 1) (Rows.drew HR'.out 1) hs).mono ?_; rintro e w1 ⟨rfl, hd⟩; have hb1 := hd.below; have e1 := keepcE hb1 c1; have e3 := keepcE hb1 d1; clear hd))
      go_wp2
      go_roundw
      case rel => exact ⟨k + 1, by omega, by go_num, (below_drew1 HB.out).trans (hb1.mono HB.out.size)⟩
      case measure => simp [intOf]; omega
    · go_wp2
      go_ret
      exact ⟨rfl, HB.out⟩

set_option maxRecDepth 20000 in
set_option maxHeartbeats 1600000 in
theorem heldIntSS_any (v : Value) (L : List (List Int)) (k0 : Int) (w : World) (hr : Nests 1 0 w v (marksII k0 L)) (hL : L.length ≤ 1048576) (hs : ∀ q ∈ L, q.length ≤ 1048576) (h0 : 0 ≤ k0) (h1 : k0 ≤ 1000000000) :
    Calls Tryz.prog 50 #[v, .int .i64 k0] w fun e w' => e = .returned (.int .i64 (k0 + lens L)) ∧ Below w.heap.size w w' := by
  have HE := Lib.hid hr
  have HS := Lib.hid hs
  obtain ⟨a, cap, rfl, _, _⟩ := nest_form hr
  have hml := marksII_len k0 L
  have HLL := Lib.hid (show ∀ k, lens (L.take k) ≤ 1099511627776 from fun k => Nat.le_trans (lens_take_le L k) (Nat.le_trans (lens_le hs) (by have : L.length * 1048576 ≤ 1048576 * 1048576 := Nat.mul_le_mul_right _ hL; omega)))
  clear hr hs
  rw [hml]
  go_enter Tryz.func50, Tryz.ntmps50
  go_wp2
  go_loopw [1, 5] (fun q i wr => ∃ k : Nat, k ≤ L.length ∧ i = .int .i64 k ∧ q = .int .i64 (k0 + (lens (L.take k) : Nat)) ∧ Below w.heap.size w wr) (fun _ i _ => L.length - (intOf i).toNat)
  case atStart => exact ⟨0, Nat.zero_le _, rfl, by simp [lens], Below.refl _ _⟩
  case round =>
    obtain ⟨k, hk, rfl, rfl, hb⟩ := hrel
    have HB := Lib.hid hb; clear hb
    by_cases hlt : k < L.length
    · obtain ⟨b, off, u, rfl, c1, c3⟩ := nest_at (HE.out.keep HB.out) k (by rw [hml]; exact hlt)
      rw [marksII_at k0 L k hlt] at c3
      have hs := HS.out _ (List.getElem_mem hlt)
      have hki : (k : Int) < (L.length : Int) := by omega
      have hk0 : (0 : Int) ≤ (k : Int) := by omega
      replace c1 : wr.cell? ⟨b, off + k, none⟩ = some u := by rw [Nat.mul_one, Nat.add_zero] at c1; exact c1
      have HN := Lib.hid (lens_take L k hlt)
      have hll := HLL.out k
      generalize lens (L.take k) = m at c3 HN hll
      generalize L[k] = p at c3 hs HN
      rw [marksI_length] at c3
      have HR := Lib.hid c3
      obtain ⟨au, cu, rfl, _, _⟩ := rows_form c3
      clear c3
      go_wp2_with (go_at_call 112; refine (heldIntS_any _ p.length _ _ HR.out hs (by omega) (by omega)).mono ?_; rintro e w1 ⟨rfl, rfl⟩)
      go_roundw
      case rel => exact ⟨k + 1, by omega, by go_num, by rw [HN.out]; go_num, HB.out⟩
      case measure => simp [intOf]; omega
    · obtain rfl : k = L.length := by omega
      go_wp2
      go_ret
      exact ⟨by first | rfl | (rw [List.take_length]; done) | simp, HB.out⟩

/-- the first k rows are marked -/
def halfII (k0 : Int) (L : List (List Int)) (k : Nat) : List (List Int) := (marksII k0 L).take k ++ L.drop k
theorem halfII_len (k0 : Int) (L : List (List Int)) (k : Nat) (h : k ≤ L.length) : (halfII k0 L k).length = L.length := by
  unfold halfII; rw [List.length_append, List.length_take, List.length_drop, marksII_len]; omega
theorem halfII_lo (k0 : Int) (L : List (List Int)) (k j : Nat) (hk : k ≤ L.length) (h : j < k) : (halfII k0 L k)[j]'(by rw [halfII_len _ _ _ hk]; omega) = (marksII k0 L)[j]'(by rw [marksII_len]; omega) := by
  unfold halfII
  rw [List.getElem_append_left (by rw [List.length_take, marksII_len]; omega), List.getElem_take]
theorem halfII_hi (k0 : Int) (L : List (List Int)) (k j : Nat) (hk : k ≤ j) (h : j < L.length) : (halfII k0 L k)[j]'(by rw [halfII_len _ _ _ (by omega)]; omega) = L[j] := by
  unfold halfII
  have hl : ((marksII k0 L).take k).length = k := by rw [List.length_take, marksII_len]; omega
  rw [List.getElem_append_right (by rw [hl]; exact hk), List.getElem_drop]
  congr 1
  omega
theorem halfII_next (k0 : Int) (L : List (List Int)) (k : Nat) (h : k < L.length) : ∀ j (hj : j < L.length), j ≠ k → (halfII k0 L (k + 1))[j]'(by rw [halfII_len _ _ _ (by omega)]; exact hj) = (halfII k0 L k)[j]'(by rw [halfII_len _ _ _ (by omega)]; exact hj) := by
  intro j hj hne
  rcases Nat.lt_or_ge j k with h' | h'
  · rw [halfII_lo k0 L (k + 1) j (by omega) (by omega), halfII_lo k0 L k j (by omega) h']
  · rw [halfII_hi k0 L (k + 1) j (by omega) hj, halfII_hi k0 L k j h' hj]
theorem halfII_all (k0 : Int) (L : List (List Int)) : halfII k0 L L.length = marksII k0 L := by
  unfold halfII
  rw [List.drop_eq_nil_of_le (Nat.le_refl _), List.append_nil, List.take_of_length_le (by rw [marksII_len]; exact Nat.le_refl _)]
theorem halfII_zero (k0 : Int) (L : List (List Int)) : halfII k0 L 0 = L := by simp [halfII]

set_option maxRecDepth 20000 in
set_option maxHeartbeats 3200000 in
theorem markIntSS_any (v : Value) (L : List (List Int)) (xs : List Value) (lo hi : Nat) (k0 : Int) (w : World) (hr : OwnNest 25 1 0 w lo hi v L xs) (hL : L.length ≤ 1048576) (hs : ∀ q ∈ L, q.length ≤ 1048576) (h0 : 0 ≤ k0) (h1 : k0 ≤ 1000000000) :
    Calls Tryz.prog 49 #[v, .int .i64 k0] w fun e w' => e = .returned (.int .i64 (k0 + lens L)) ∧ OwnNest 25 1 0 w' lo hi v (marksII k0 L) xs ∧ Wid lo hi w w' := by
  obtain ⟨ho, U, hi0⟩ := hr
  obtain ⟨a, cap, rfl, _, _⟩ := rows_form ho.rows
  have HS := Lib.hid hs
  have HO := Lib.hid ho
  have HI := Lib.hid (show Inner w lo hi xs 1 0 (halfII k0 L 0) U by rw [halfII_zero]; exact hi0)
  have HLL := Lib.hid (show ∀ k, lens (L.take k) ≤ 1099511627776 from fun k => Nat.le_trans (lens_take_le L k) (Nat.le_trans (lens_le hs) (by have : L.length * 1048576 ≤ 1048576 * 1048576 := Nat.mul_le_mul_right _ hL; omega)))
  clear ho hi0 hs
  go_enter Tryz.func49, Tryz.ntmps49
  go_wp2
  go_loopw [1, 5] (fun q i wr => ∃ k : Nat, k ≤ L.length ∧ i = .int .i64 k ∧ q = .int .i64 (k0 + (lens (L.take k) : Nat)) ∧ Hid (Inner wr lo hi xs 1 0 (halfII k0 L k) U) ∧ Hid (OwnRow 25 1 wr lo hi (.slice a L.length cap) L.length xs) ∧ Wid lo hi w wr) (fun _ i _ => L.length - (intOf i).toNat)
  case atStart => exact ⟨0, Nat.zero_le _, rfl, by simp [lens], HI, HO, Wid.refl _ _ _⟩
  clear HI HO
  case round =>
    obtain ⟨k, hk, rfl, rfl, HI, HO, hw⟩ := hrel
    have HW := Lib.hid hw; clear hw
    by_cases hlt : k < L.length
    · have hlk : k < (halfII k0 L k).length := by rw [halfII_len _ _ _ (by omega)]; exact hlt
      obtain ⟨e1, e2, e3⟩ := HI.out.1 k hlk
      have e4 := halfII_hi k0 L k k (Nat.le_refl _) hlt
      rw [e4] at e2
      have hs := HS.out _ (List.getElem_mem hlt)
      have hki : (k : Int) < (L.length : Int) := by omega
      have hk0 : (0 : Int) ≤ (k : Int) := by omega
      obtain ⟨b, off, rfl, c1⟩ : ∃ b off, a = some ⟨b, off, none⟩ ∧ wr.cell? ⟨b, off + k, none⟩ = some (U k) := by
        obtain ⟨a', cap', h1, h2, h3, h4, h5, h6⟩ := HO.out.rows
        cases h1
        exact h6 k _ (by rw [Nat.mul_one, Nat.add_zero] at e1; exact e1)
      have HN := Lib.hid (lens_take L k hlt)
      have hll := HLL.out k
      have HD := Lib.hid (apart_type HO.out.1 e2 (by decide))
      have hmk := marksII_at k0 L k hlt
      have HX := Lib.hid (fun (w' : World) (hg : wr.grownBy w' (U k).ownBlock) (hr : w'.ownsRow lo 3 1 (U k) (L[k]).length (ints (marksI (k0 + lens (L.take k)) (L[k]).length))) =>
        Inner.set (M := halfII k0 L (k + 1)) (w' := w') HI.out hlk (by rw [halfII_len _ _ _ (by omega), halfII_len _ _ _ (by omega)]) hg
          (by rw [halfII_lo k0 L (k + 1) k (by omega) (by omega), hmk, e4]; exact hr)
          (by rw [halfII_lo k0 L (k + 1) k (by omega) (by omega), hmk, e4, marksI_length])
          (fun j hj hne => halfII_next k0 L k hlt j (by rw [halfII_len _ _ _ (by omega)] at hj; exact hj) hne))
      clear hmk
      generalize lens (L.take k) = m at HN hll HX
      generalize L[k] = p at e2 hs HN HX
      have HMK := Lib.hid (fun h0 h1 => markIntS_any _ _ _ _ (k0 + (m : Nat)) wr e2 hs h0 h1)
      have HB := Lib.hid (fun g hg => And.intro (e2.lt g hg).1 (e3 g hg))
      generalize U k = u at *
      obtain ⟨au, cu, rfl⟩ := row_formD e2
      clear e1 e2 e3 e4 hlk HI
      go_wp2_with (go_at_call 35; refine (HMK.out (by omega) (by omega)).mono ?_; rintro e w1 ⟨rfl, hwr⟩; have HX1 := Lib.hid (HX.out w1 hwr.2 hwr.1); have HO1 := Lib.hid (OwnRow.grown HO.out hwr.2 HD.out); have HW1 := Lib.hid (HW.out.trans (Wid.of_grown hwr.2 HB.out)); clear hwr)
      go_roundw
      case rel => exact ⟨k + 1, by omega, by go_num, by rw [HN.out]; go_num, HX1, HO1, HW1⟩
      case measure => simp [intOf]; omega
    · obtain rfl : k = L.length := by omega
      go_wp2
      go_ret
      refine ⟨by first | rfl | (rw [List.take_length]; done) | simp, ⟨by rw [marksII_len]; exact HO.out, U, ?_⟩, HW.out⟩
      rw [← halfII_all]
      exact HI.out

end Go.Proofs.YtkbbcmbeafjpaaaGreatDoor
