/-
  CONTRACTS: the laws' own functions over what is said of hidden entries: eqShadowedS, markShadowedS, heldShadowedS.
-/
import Derived.Test.YtdidgaibgkdjoaaGreatDoorShM
namespace Go.Proofs.YtdidgaibgkdjoaaGreatDoor
open Go.RowKit

set_option maxHeartbeats 800000 in
theorem eqShadowed_same (a b : Int) (u u' : Value) (l : List Int) (w : World) (hr : Rows w u l.length 1 (ints l)) (hr' : Rows w u' l.length 1 (ints l)) (hl : l.length ≤ 1048576) :
    Calls Tryz.prog 59 #[.agg #[.int .i64 a, .int .i64 b, u], .agg #[.int .i64 a, .int .i64 b, u']] w fun e w' => e = .returned (.bool true) ∧ Below w.heap.size w w' := by
  have HB := Lib.hid (Joins.below_alloc2 w (.cells #[.int .i64 a, .int .i64 b, u] 99) (.cells #[.int .i64 a, .int .i64 b, u'] 99))
  have HE := Lib.hid (eqIntS_same u u' l _ (hr.keep HB.out) (hr'.keep HB.out) hl)
  obtain ⟨x, cap, rfl, _, _⟩ := rows_form hr
  obtain ⟨x', cap', rfl, _, _⟩ := rows_form hr'
  clear hr hr'
  go_enter Tryz.func59, Tryz.ntmps59
  go_wp2_with (go_at_call 37; refine HE.out.mono ?_; rintro e w1 ⟨rfl, hd⟩; have hb1 := hd.below; have HB1 := Lib.hid (HB.out.trans (hb1.mono HB.out.size)); clear hd hb1)
  go_ret
  exact ⟨rfl, HB1.out⟩

set_option maxRecDepth 20000 in
set_option maxHeartbeats 1600000 in
theorem eqShadowedS_same (v v' : Value) (L : List Sh) (w : World) (hr : Shs w v L) (hr' : Shs w v' L) (hL : L.length ≤ 1048576) (hs : ∀ q ∈ L, q.2.2.length ≤ 1048576) :
    Calls Tryz.prog 20 #[v, v'] w fun e w' => e = .returned (.bool true) ∧ Below w.heap.size w w' := by
  have HE := Lib.hid hr; have HE' := Lib.hid hr'
  have HS := Lib.hid hs
  obtain ⟨a, cap, rfl, _, _⟩ := sh_form hr
  obtain ⟨a', cap', rfl, _, _⟩ := sh_form hr'
  clear hr hr' hs
  go_enter Tryz.func20, Tryz.ntmps20
  go_wp2
  go_loopw [5] (fun i wr => ∃ k : Nat, k ≤ L.length ∧ i = .int .i64 k ∧ Below w.heap.size w wr) (fun i _ => L.length - (intOf i).toNat)
  case atStart => exact ⟨0, Nat.zero_le _, rfl, Below.refl _ _⟩
  case round =>
    obtain ⟨k, hk, rfl, hb⟩ := hrel
    have HB := Lib.hid hb; clear hb
    by_cases hlt : k < L.length
    · obtain ⟨b, off, u, rfl, c1, c2, c3, c4⟩ := sh_at (HE.out.keep HB.out) k hlt
      obtain ⟨b', off', u', rfl, d1, d2, d3, d4⟩ := sh_at (HE'.out.keep HB.out) k hlt
      have hs := HS.out _ (List.getElem_mem hlt)
      have hki : (k : Int) < (L.length : Int) := by omega
      have hk0 : (0 : Int) ≤ (k : Int) := by omega
      generalize L[k] = p at c1 c2 c3 c4 d1 d2 d3 d4 hs
      obtain ⟨pa, pb, pl⟩ := p
      dsimp only at c1 c2 c3 c4 d1 d2 d3 d4 hs
      have HR := Lib.hid c4
      have HR' := Lib.hid d4
      obtain ⟨au, cu, rfl, _, _⟩ := rows_form c4
      obtain ⟨au', cu', rfl, _, _⟩ := rows_form d4
      clear c4 d4
      go_upto_region 6 with fail
      go_region_held3 (fun w' => w'.cell? ⟨b, off + k * 3, none⟩ = some (.int .i64 pa) ∧ w'.cell? ⟨b, off + k * 3 + 1, none⟩ = some (.int .i64 pb) ∧ w'.cell? ⟨b, off + k * 3 + 2, none⟩ = some (.slice au pl.length cu) ∧ w'.cell? ⟨b', off' + k * 3, none⟩ = some (.int .i64 pa) ∧ w'.cell? ⟨b', off' + k * 3 + 1, none⟩ = some (.int .i64 pb) ∧ w'.cell? ⟨b', off' + k * 3 + 2, none⟩ = some (.slice au' pl.length cu')) (first | exact ⟨e1, e2, e3, f1, f2, f3⟩ | exact ⟨c1, c2, c3, d1, d2, d3⟩) (first
        | (go_at_call 59; refine (eqShadowed_same _ _ _ _ pl _ (Rows.drew HR.out 1) (Rows.drew HR'.out 1) hs).mono ?_; rintro e w1 ⟨rfl, hb1⟩; have e1 := keepcE hb1 c1; have e2 := keepcE hb1 c2; have e3 := keepcE hb1 c3; have f1 := keepcE hb1 d1; have f2 := keepcE hb1 d2; have f3 := keepcE hb1 d3))
      go_wp2
      go_roundw
      case rel => exact ⟨k + 1, by omega, by go_num, (below_drew1 HB.out).trans (hb1.mono HB.out.size)⟩
      case measure => simp [intOf]; omega
    · go_wp2
      go_ret
      exact ⟨rfl, HB.out⟩

set_option maxRecDepth 20000 in
set_option maxHeartbeats 1600000 in
theorem heldShadowedS_any (v : Value) (L : List Sh) (k0 : Int) (w : World) (hr : Shs w v (marksSh k0 L)) (hL : L.length ≤ 1048576) (hs : ∀ q ∈ L, q.2.2.length ≤ 1048576) (h0 : 0 ≤ k0) (h1 : k0 ≤ 1000000000) :
    Calls Tryz.prog 24 #[v, .int .i64 k0] w fun e w' => e = .returned (.int .i64 (k0 + szSh L)) ∧ Below w.heap.size w w' := by
  have HE := Lib.hid hr
  have HS := Lib.hid hs
  obtain ⟨a, cap, rfl, _, _⟩ := sh_form hr
  have hml := marksSh_len k0 L
  have HLL := Lib.hid (show ∀ k, szSh (L.take k) ≤ 1099513724928 from fun k => Nat.le_trans (szSh_take_le L k) (Nat.le_trans (szSh_le hs) (by have : L.length * 1048578 ≤ 1048576 * 1048578 := Nat.mul_le_mul_right _ hL; omega)))
  clear hr hs
  rw [hml]
  go_enter Tryz.func24, Tryz.ntmps24
  go_wp2
  go_loopw [1, 5] (fun q i wr => ∃ k : Nat, k ≤ L.length ∧ i = .int .i64 k ∧ q = .int .i64 (k0 + (szSh (L.take k) : Nat)) ∧ Below w.heap.size w wr) (fun _ i _ => L.length - (intOf i).toNat)
  case atStart => exact ⟨0, Nat.zero_le _, rfl, by simp [szSh], Below.refl _ _⟩
  case round =>
    obtain ⟨k, hk, rfl, rfl, hb⟩ := hrel
    have HB := Lib.hid hb; clear hb
    by_cases hlt : k < L.length
    · obtain ⟨b, off, u, rfl, c1, c2, c3, c4⟩ := sh_at (HE.out.keep HB.out) k (by rw [hml]; exact hlt)
      rw [marksSh_at k0 L k hlt] at c1 c2 c4
      dsimp only at c1 c2 c4
      have hs := HS.out _ (List.getElem_mem hlt)
      have hki : (k : Int) < (L.length : Int) := by omega
      have hk0 : (0 : Int) ≤ (k : Int) := by omega
      have HN := Lib.hid (szSh_take L k hlt)
      have hll := HLL.out k
      generalize szSh (L.take k) = m at c1 c2 c4 HN hll
      generalize (L[k]).2.2 = p at c4 hs HN
      rw [marksI_length] at c4
      have HR := Lib.hid c4
      obtain ⟨au, cu, rfl, _, _⟩ := rows_form c4
      have HH := Lib.hid (fun W h => heldIntS_any (.slice au p.length cu) p.length (k0 + (m : Nat) + 2) W h hs (by omega) (by omega))
      have e1 : k0 + ((m : Nat) : Int) + 1 + 1 = k0 + ((m : Nat) : Int) + 2 := by omega
      rw [← e1] at HH
      clear c4 e1
      have HR2 := HR.out
      rw [show k0 + ((m : Nat) : Int) + 2 = k0 + ((m : Nat) : Int) + 1 + 1 by omega] at HR2
      have HR3 := Lib.hid HR2
      clear HR2
      go_wp2_with (go_at_call 63; refine (HH.out _ HR3.out).mono ?_; rintro e w1 ⟨rfl, rfl⟩)
      go_roundw
      case rel => exact ⟨k + 1, by omega, by go_num, by rw [HN.out]; go_num, HB.out⟩
      case measure => simp [intOf]; omega
    · obtain rfl : k = L.length := by omega
      go_wp2
      go_ret
      exact ⟨by first | rfl | (rw [List.take_length]; done) | simp, HB.out⟩

set_option maxRecDepth 20000 in
set_option maxHeartbeats 3200000 in
theorem markShadowedS_any (v : Value) (L : List Sh) (lo hi : Nat) (k0 : Int) (w : World) (hr : OwnSh w lo hi v L) (hL : L.length ≤ 1048576) (hs : ∀ q ∈ L, q.2.2.length ≤ 1048576) (h0 : 0 ≤ k0) (h1 : k0 ≤ 1000000000) :
    Calls Tryz.prog 23 #[v, .int .i64 k0] w fun e w' => e = .returned (.int .i64 (k0 + szSh L)) ∧ OwnSh w' lo hi v (marksSh k0 L) ∧ Wid lo hi w w' := by
  obtain ⟨xs, ⟨hO, U, hI⟩, hC⟩ := hr
  rw [outs_len] at hO
  obtain ⟨a, cap, rfl⟩ := row_formD hO.1
  rcases Nat.eq_zero_or_pos L.length with hz | hpos
  · have hL0 : L = [] := List.length_eq_zero_iff.1 hz
    subst hL0
    go_enter Tryz.func23, Tryz.ntmps23
    go_wp2
    go_loop [1, 5] (fun q i => i = .int .i64 0 ∧ q = .int .i64 k0) (fun _ _ => 0)
    case atStart => exact ⟨rfl, rfl⟩
    case round =>
      obtain ⟨rfl, rfl⟩ := hrel
      go_wp2
      go_ret
      exact ⟨by simp [szSh], ⟨xs, ⟨hO, U, hI⟩, hC⟩, Wid.refl _ _ _⟩
  · obtain ⟨g, cap', e⟩ := Joins.ownsRow_form hO.1 hpos
    cases e
    have HO := Lib.hid hO.1
    have HG := Lib.hid (hO.2.1 g rfl)
    have HGl := Lib.hid (hO.1.lt g rfl).1
    have HZ := Lib.hid hO.2.2
    have HI := Lib.hid (show Inner w lo hi xs 3 2 (outs (halfSh k0 L 0)) U by rw [halfSh_zero]; exact hI)
    have HC := Lib.hid (show ShCells xs (halfSh k0 L 0) by rw [halfSh_zero]; exact hC)
    have HS := Lib.hid hs
    have HLL := Lib.hid (show ∀ k, szSh (L.take k) ≤ 1099513724928 from fun k => Nat.le_trans (szSh_take_le L k) (Nat.le_trans (szSh_le hs) (by have : L.length * 1048578 ≤ 1048576 * 1048578 := Nat.mul_le_mul_right _ hL; omega)))
    clear hO hI hC hs
    go_enter Tryz.func23, Tryz.ntmps23
    go_wp2
    go_loopw [1, 5] (fun q i wr => ∃ (k : Nat) (ys : List Value), k ≤ L.length ∧ i = .int .i64 k ∧ q = .int .i64 (k0 + (szSh (L.take k) : Nat)) ∧ Hid (Inner wr lo hi ys 3 2 (outs (halfSh k0 L k)) U) ∧ Hid (ShCells ys (halfSh k0 L k)) ∧ Hid (wr.ownsRow lo 99 3 (.slice (some ⟨g, 0, none⟩) L.length cap) L.length ys) ∧ Wid lo hi w wr) (fun _ i _ => L.length - (intOf i).toNat)
    case atStart => exact ⟨0, xs, Nat.zero_le _, rfl, by simp [szSh], HI, HC, HO, Wid.refl _ _ _⟩
    clear HI HC HO
    case round =>
      obtain ⟨k, ys, hk, rfl, rfl, HI, HC, HO, hw⟩ := hrel
      have HW := Lib.hid hw; clear hw
      by_cases hlt : k < L.length
      · have hki : (k : Int) < (L.length : Int) := by omega
        have hk0 : (0 : Int) ≤ (k : Int) := by omega
        have hx : ys.length = L.length * 3 := HO.out.1
        have HN := Lib.hid (szSh_take L k hlt)
        have hll := HLL.out k
        have hs := HS.out _ (List.getElem_mem hlt)
        have HC1 := Lib.hid (shCells_next HC.out hlt hx)
        have hlk : k < (outs (halfSh k0 L k)).length := by rw [outs_len, halfSh_len _ _ _ (by omega)]; exact hlt
        have hok : (outs (halfSh k0 L k))[k] = (L[k]).2.2 := by rw [outs_at _ k (by rw [halfSh_len _ _ _ (by omega)]; exact hlt), halfSh_hi k0 L k k (Nat.le_refl _) hlt]
        have hmk := marksSh_at k0 L k hlt
        have hM1 : (outs (halfSh k0 L (k + 1))).length = (outs (halfSh k0 L k)).length := by rw [outs_len, outs_len, halfSh_len _ _ _ (by omega), halfSh_len _ _ _ (by omega)]
        have hM2 : (outs (halfSh k0 L (k + 1)))[k]'(by omega) = marksI (k0 + (szSh (L.take k) : Nat) + 2) (L[k]).2.2.length := by
          rw [outs_at _ k (by rw [halfSh_len _ _ _ (by omega)]; exact hlt), halfSh_lo k0 L (k + 1) k (by omega) (by omega), hmk]
        have hM3 : ∀ j (hj : j < (outs (halfSh k0 L k)).length), j ≠ k → (outs (halfSh k0 L (k + 1)))[j]'(by omega) = (outs (halfSh k0 L k))[j] := by
          intro j hj hne
          have hj2 : j < L.length := by rw [outs_len, halfSh_len _ _ _ (by omega)] at hj; exact hj
          rw [outs_at _ j (by rw [halfSh_len _ _ _ (by omega)]; exact hj2), outs_at _ j (by rw [halfSh_len _ _ _ (by omega)]; exact hj2), halfSh_next k0 L k hlt j hj2 hne]
        obtain ⟨z1, d1⟩ : ∃ z, wr.cell? ⟨g, k * 3, none⟩ = some z := by
          rw [HO.out.cellAt (k * 3) (by omega)]
          exact ⟨_, List.getElem?_eq_getElem (by omega)⟩
        obtain ⟨z2, d2⟩ : ∃ z, wr.cell? ⟨g, k * 3 + 1, none⟩ = some z := by
          rw [HO.out.cellAt (k * 3 + 1) (by omega)]
          exact ⟨_, List.getElem?_eq_getElem (by omega)⟩
        have f1 := HO.out.frozenAt (k * 3)
        have f2 := HO.out.frozenAt (k * 3 + 1)
        have HO1 := Lib.hid (HO.out.stored (k * 3) (.int .i64 (k0 + (szSh (L.take k) : Nat))))
        have HO2 := Lib.hid (HO1.out.1.stored (k * 3 + 1) (.int .i64 (k0 + (szSh (L.take k) : Nat) + 1)))
        have HG2 := Lib.hid (grownBy_trans HO1.out.2 HO2.out.2)
        have hap := HI.out.apart HO.out (show 3 ≠ 99 by decide)
        have HI2 := Lib.hid ((HI.out.grown HG2.out hap).setInts (k := k) (.int .i64 (k0 + (szSh (L.take k) : Nat))) (.int .i64 (k0 + (szSh (L.take k) : Nat) + 1)))
        obtain ⟨e1, e2, e3⟩ := HI2.out.1 k hlk
        rw [hok] at e2
        have d3 := HO2.out.1.cellAt (k * 3 + 2) (by omega)
        rw [e1] at d3
        have d3' : wr.cell? ⟨g, k * 3 + 2, none⟩ = some (U k) := by
          rw [HO.out.cellAt (k * 3 + 2) (by omega)]
          exact (HI.out.1 k hlk).1
        have HD := Lib.hid (apart_type HO2.out.1 e2 (by decide))
        have HMK := Lib.hid (fun h0 h1 => markIntS_any _ _ _ _ (k0 + (szSh (L.take k) : Nat) + 1 + 1) _ e2 hs h0 h1)
        have HX := Lib.hid (fun (w' : World) (hg : World.grownBy _ w' (U k).ownBlock) (hr : w'.ownsRow lo 3 1 (U k) (L[k]).2.2.length (ints (marksI (k0 + (szSh (L.take k) : Nat) + 2) (L[k]).2.2.length))) =>
          Inner.set (M := outs (halfSh k0 L (k + 1))) (w' := w') HI2.out hlk hM1 hg (by rw [hM2, hok]; exact hr) (by rw [hM2, hok, marksI_length]) hM3)
        have HB := Lib.hid (fun q hq => And.intro (e2.lt q hq).1 (e3 q hq))
        have hmm : (k0 + (szSh (L.take k) : Nat) + 1 + 1 : Int) = k0 + (szSh (L.take k) : Nat) + 2 := by omega
        rw [← hmm] at HX
        clear hM1 hM2 hM3 hok hmk hmm hap
        generalize szSh (L.take k) = m at *
        generalize (L[k]).2.2 = p at *
        have HOx := Lib.hid HO2.out.1
        have HWx := Lib.hid (HW.out.trans (Wid.of_grown (lo := lo) (hi := hi) HG2.out (fun b hb => by have hb' : g = b := Option.some.inj hb; have := HG.out; have := HGl.out; omega)))
        clear HI2 HI HC HO1 HO2 HG2 HO d3 e1 e3 hlk
        generalize U k = u at *
        obtain ⟨au, cu, rfl⟩ := row_formD e2
        clear e2
        go_wp2_with (go_at_call 62; refine (HMK.out (by omega) (by omega)).mono ?_; rintro e w1 ⟨rfl, hwr⟩; have HX1 := Lib.hid (HX.out w1 hwr.2 hwr.1); have HO3 := Lib.hid (HOx.out.kept hwr.2 (.inr (fun e => HD.out g rfl e.symm))); have HW1 := Lib.hid (HWx.out.trans (Wid.of_grown hwr.2 HB.out)); clear hwr)
        go_roundw
        case rel => exact ⟨k + 1, _, by omega, by go_num, by rw [HN.out]; go_num, HX1, HC1, HO3, HW1⟩
        case measure => simp [intOf]; omega
      · obtain rfl : k = L.length := by omega
        go_wp2
        go_ret
        refine ⟨by first | rfl | (rw [List.take_length]; done) | simp, ⟨ys, ⟨⟨?_, ?_, ?_⟩, U, ?_⟩, ?_⟩, HW.out⟩
        · rw [outs_len, marksSh_len]; exact HO.out
        · intro b hb; have hb' : g = b := Option.some.inj hb; have := HG.out; omega
        · exact Nat.le_trans HZ.out HW.out.size
        · rw [← halfSh_all]; exact HI.out
        · rw [← halfSh_all]; exact HC.out

end Go.Proofs.YtdidgaibgkdjoaaGreatDoor
