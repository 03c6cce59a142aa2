/-
  CONTRACTS: IsValidFolds of the program and of the reference.
-/
import Derived.Test.YtmlckocmfoiobaaPlainFolds
import Derived.Test.YtmlckocmfoiobaaFoldS
import Derived.Test.YtmlckocmfoiobaaOutline
namespace Go.Proofs.Ytmlckocmfoiobaa
open Go.RowKit

set_option maxHeartbeats 800000 in
theorem l10Fold_any (k : Int) (t : ByteArray) (w : World) (ht : t.size ≤ maxLen) :
    Calls Try.prog 75 #[.agg #[.int .i64 k, .string t]] w fun e w' => e = .returned (.bool (Pl.foldB k t)) ∧ Below w.heap.size w w' := by
  have E : Hid (Pl.foldB k t = (Pl.inB k 13 22 && Pl.inB t.size 1 8 && Pl.allIn 97 122 t.data.toList)) := Lib.hid rfl
  have HB := Lib.hid (Joins.below_alloc1 w (.cells #[.int .i64 k, .string t] 65))
  unfold maxLen at ht
  go_enter Try.func75, Try.ntmps75
  go_wp2
  go_loop [3] (fun i => ∃ n : Nat, n ≤ t.size ∧ i = .int .i64 n ∧ Pl.allIn 97 122 (t.data.toList.take n) = true) (fun i => t.size - (intOf i).toNat)
  case atStart => exact ⟨0, Nat.zero_le _, rfl, rfl⟩
  case round =>
    obtain ⟨n, hn, rfl, hall⟩ := hrel
    have HA := Lib.hid hall; clear hall
    by_cases hlt : n < t.size
    · by_cases h1 : t[n].toNat < 97 ∨ 122 < t[n].toNat
      · have HV := Lib.hid (Pl.allIn_of_bad 97 122 t n hlt h1)
        go_wp2
        all_goals go_ret
        all_goals exact ⟨ret_bool (by rw [E.out, HV.out, Bool.and_false]), HB.out⟩
      · have HT := Lib.hid (Pl.allIn_take_ok 97 122 t n hlt HA.out (by omega) (by omega))
        go_wp2
        go_round
        case rel => exact ⟨n + 1, by omega, by go_num, HT.out⟩
        case measure => simp [intOf]; omega
    · have HT := Lib.hid (Pl.allIn_take_all 97 122 t n (by omega) HA.out)
      cases h1 : Pl.inB k 13 22
      · rw [h1, Bool.false_and, Bool.false_and] at E
        go_wp2_with ((go_at_call 87; refine (l1In_any _ _ _ _).mono ?_; rintro e w' ⟨rfl, rfl⟩))
        all_goals go_ret
        all_goals exact ⟨ret_bool E.out.symm, HB.out⟩
      · rw [h1, Bool.true_and, HT.out, Bool.and_true] at E
        cases h2 : Pl.inB t.size 1 8
        · rw [h2] at E
          go_wp2_with ((go_at_call 87; refine (l1In_any _ _ _ _).mono ?_; rintro e w' ⟨rfl, rfl⟩))
          all_goals go_ret
          all_goals exact ⟨ret_bool E.out.symm, HB.out⟩
        · rw [h2] at E
          go_wp2_with ((go_at_call 87; refine (l1In_any _ _ _ _).mono ?_; rintro e w' ⟨rfl, rfl⟩))
          all_goals go_ret
          all_goals exact ⟨ret_bool E.out.symm, HB.out⟩

theorem below_pastF {W w' : World} {o : Obj} (h1 : Below (W.alloc o).heap.size (W.alloc o) w') : Below W.heap.size W w' :=
  (Joins.below_alloc1 W o).trans (h1.mono (Joins.below_alloc1 W o).size)
theorem wrap_pow {j : Nat} (h : j ≤ 22) : wrap64 ((2 : Int) ^ j) = ((2 ^ j : Nat) : Int) := by
  have hk : 2 ^ j ≤ 2 ^ 22 := Nat.pow_le_pow_right (by omega) h
  rw [show ((2 : Int) ^ j) = ((2 ^ j : Nat) : Int) by simp]
  generalize 2 ^ j = x at hk ⊢
  exact IntWalk.wrap64_in _ ⟨by omega, by omega⟩

set_option maxRecDepth 20000 in
set_option maxHeartbeats 1600000 in
theorem IsValidFolds_any (v : Value) (l : List (Int × ByteArray)) (w : World) (hr : Rows w v l.length 2 (folds l)) (hf : FoldsFit l) :
    Calls Try.prog 39 #[v] w fun e w' => e = .returned (.bool (Pl.foldsOk l)) ∧ Below w.heap.size w w' := by
  have hl : l.length ≤ 1048576 := hf.1
  have HF := Lib.hid hf; clear hf
  obtain ⟨a, cap, rfl, _, _, _, _, hcells⟩ := hr
  have HC := Lib.hid hcells; clear hcells
  go_enter Try.func39, Try.ntmps39
  go_wp2
  go_loopw [3, 5, 8] (fun ks _ i wr => ∃ k : Nat, k ≤ l.length ∧ i = .int .i64 k ∧ ks = .int .i64 (Pl.keysTo l k : Nat) ∧ Hid (Pl.goodTo l k = true) ∧ Below w.heap.size w wr) (fun _ _ i _ => l.length - (intOf i).toNat)
  case atStart => exact ⟨0, Nat.zero_le _, rfl, rfl, Lib.hid rfl, Below.refl _ _⟩
  case round =>
    obtain ⟨k, hk, rfl, rfl, HA, hb⟩ := hrel
    have HB := Lib.hid hb; clear hb
    have hkb := Pl.keysTo_bit k hk HA.out
    have HK := Lib.hid hkb.2
    have hk1 := hkb.1
    clear hkb
    have HN : Hid (Pl.keysTo l (k + 1) = Pl.keysTo l k ||| 2 ^ ((l.getD k (0, ⟨#[]⟩)).1).toNat) := Lib.hid rfl
    generalize Pl.keysTo l k = ks at hk1 HK HN ⊢
    by_cases hlt : k < l.length
    · obtain ⟨b, off, rfl, c1, c2⟩ := fold_cells (HC.out.keep HB.out) k hlt
      have hs := fits_at HF.out k hlt
      have hki : (k : Int) < (l.length : Int) := by omega
      have hgd : l.getD k (0, ⟨#[]⟩) = l[k] := by rw [List.getD_eq_getElem?_getD, List.getElem?_eq_getElem hlt]; rfl
      rw [hgd] at HN
      clear hgd
      generalize hp : l[k] = p at c1 c2 hs HN
      have HE := Lib.hid (Pl.foldAt_eq hlt hp)
      clear hp
      obtain ⟨pk, pt⟩ := p
      have hs2 : pt.size ≤ 1048576 := hs
      have hs' : pt.size ≤ maxLen := by unfold maxLen; omega
      cases h2 : Pl.foldB pk pt
      · have HV := Lib.hid (Pl.foldsOk_no hlt (by rw [HE.out]; show (Pl.foldB pk pt && _) = false; rw [h2]; rfl))
        clear HE HN HK
        go_wp2_with (go_at_call 76; refine (isFold_any _ _ _ hs').mono ?_; rintro e w1 ⟨rfl, hb1⟩)
        all_goals go_ret
        all_goals exact ⟨ret_bool HV.out.symm, HB.out.trans ((below_pastF hb1).mono HB.out.size)⟩
      · obtain ⟨j, rfl, hj1, hj2⟩ := Pl.fold_key h2
        have hjb := HK.out j
        cases hq : ks.testBit j
        · have q1 : (bits .and .i64 ((ks : Int) / 2 ^ j) 1 == 1) = false := by rw [Pl.shr_key ks j hk1, hq]; rfl
          go_wp2_with (go_at_call 76; refine (isFold_any _ _ _ hs').mono ?_; rintro e w1 ⟨rfl, hb1⟩; have da := keepc hb1 (b := wr.heap.size) (o := 0) (u := .int .i64 (j : Int)) (by simp); have db := keepc hb1 (b := wr.heap.size) (o := 1) (u := .string pt) (by simp))
          go_roundw
          case rel =>
            have hj3 : 2 ^ j ≤ 2 ^ 22 := Nat.pow_le_pow_right (by omega) hj2
            refine ⟨k + 1, by omega, by go_num, ?_, Lib.hid ?_, HB.out.trans ((below_pastF hb1).mono HB.out.size)⟩
            · rw [wrap_pow hj2, Pl.bits_or _ _ (by omega) (by omega), HN.out]; rfl
            · show (Pl.goodTo l k && Pl.foldAt l k) = true
              rw [HA.out, HE.out]
              show (true && (Pl.foldB (j : Int) pt && !((l.take k).any fun q => q.1 == (j : Int)))) = true
              rw [h2, ← hjb, hq]; rfl
          case measure => simp [intOf]; omega
        · have q1 : (bits .and .i64 ((ks : Int) / 2 ^ j) 1 == 1) = true := by rw [Pl.shr_key ks j hk1, hq]; rfl
          rw [hq] at hjb
          have HV := Lib.hid (Pl.foldsOk_no hlt (by rw [HE.out]; show (Pl.foldB (j : Int) pt && !((l.take k).any fun q => q.1 == (j : Int))) = false; rw [← hjb]; simp))
          clear HE HN HK hjb
          go_wp2_with (go_at_call 76; refine (isFold_any _ _ _ hs').mono ?_; rintro e w1 ⟨rfl, hb1⟩; have da := keepc hb1 (b := wr.heap.size) (o := 0) (u := .int .i64 (j : Int)) (by simp); have db := keepc hb1 (b := wr.heap.size) (o := 1) (u := .string pt) (by simp))
          all_goals go_ret
          all_goals exact ⟨ret_bool HV.out.symm, HB.out.trans ((below_pastF hb1).mono HB.out.size)⟩
    · obtain rfl : k = l.length := by omega
      have HE : Hid (Pl.foldsOk l = decide (l.length ≤ 6)) := Lib.hid (by unfold Pl.foldsOk; rw [HA.out, Bool.and_true])
      clear HA HK HN
      go_wp2
      go_ret
      exact ⟨ret_bool (by rw [HE.out]; apply Bool.eq_iff_iff.2; simp only [decide_eq_true_eq]; omega), HB.out⟩

theorem any_take_step {l : List (Int × ByteArray)} {x : Int} (m : Nat) (h : m < l.length) (hp : (l[m].1 == x) = false) (ha : ((l.take m).any fun q => q.1 == x) = false) : ((l.take (m + 1)).any fun q => q.1 == x) = false := by
  rw [List.take_add_one, List.getElem?_eq_getElem h, List.any_append, ha]
  simpa using hp
theorem any_take_found {l : List (Int × ByteArray)} {x : Int} (m k : Nat) (h : m < l.length) (hm : m < k) (hp : (l[m].1 == x) = true) : ((l.take k).any fun q => q.1 == x) = true :=
  List.any_eq_true.2 ⟨l[m], List.mem_take_iff_getElem.2 ⟨m, by omega, rfl⟩, hp⟩

set_option maxRecDepth 20000 in
set_option maxHeartbeats 1600000 in
theorem specIsValidFolds_any (v : Value) (l : List (Int × ByteArray)) (w : World) (hr : Rows w v l.length 2 (folds l)) (hf : FoldsFit l) :
    Calls Try.prog 37 #[v] w fun e w' => e = .returned (.bool (Pl.foldsOk l)) ∧ Below w.heap.size w w' := by
  have hl : l.length ≤ 1048576 := hf.1
  have HF := Lib.hid hf; clear hf
  obtain ⟨a, cap, rfl, _, _, _, _, hcells⟩ := hr
  have HC := Lib.hid hcells; clear hcells
  by_cases h6 : 6 < l.length
  · have HE : Hid (Pl.foldsOk l = false) := Lib.hid (by unfold Pl.foldsOk; rw [decide_eq_false (by omega), Bool.false_and])
    go_enter Try.func37, Try.ntmps37
    go_wp2
    go_ret
    exact ⟨ret_bool HE.out.symm, Below.refl _ _⟩
  · go_enter Try.func37, Try.ntmps37
    go_wp2
    go_loopw [3, 4] (fun i _ wr => ∃ k : Nat, k ≤ l.length ∧ i = .int .i64 k ∧ Hid (Pl.goodTo l k = true) ∧ Below w.heap.size w wr) (fun i _ _ => l.length - (intOf i).toNat)
    case atStart => exact ⟨0, Nat.zero_le _, rfl, Lib.hid rfl, Below.refl _ _⟩
    case round =>
      obtain ⟨k, hk, rfl, HA, hb⟩ := hrel
      have HB := Lib.hid hb; clear hb
      by_cases hlt : k < l.length
      · obtain ⟨b, off, rfl, c1, c2⟩ := fold_cells (HC.out.keep HB.out) k hlt
        have hs := fits_at HF.out k hlt
        have hki : (k : Int) < (l.length : Int) := by omega
        have hk0 : (0 : Int) ≤ (k : Int) := by omega
        generalize hp : l[k] = p at c1 c2 hs
        have HE := Lib.hid (Pl.foldAt_eq hlt hp)
        clear hp
        obtain ⟨pk, pt⟩ := p
        have hs2 : pt.size ≤ 1048576 := hs
        have hs' : pt.size ≤ maxLen := by unfold maxLen; omega
        cases h2 : Pl.foldB pk pt
        · have HV := Lib.hid (Pl.foldsOk_no hlt (by rw [HE.out]; show (Pl.foldB pk pt && _) = false; rw [h2]; rfl))
          clear HE
          go_wp2_with (go_at_call 75; refine (l10Fold_any _ _ _ hs').mono ?_; rintro e w1 ⟨rfl, hb1⟩)
          all_goals go_ret
          all_goals exact ⟨ret_bool HV.out.symm, HB.out.trans (hb1.mono HB.out.size)⟩
        · go_wp2_with (go_at_call 75; refine (l10Fold_any _ _ _ hs').mono ?_; rintro e w1 ⟨rfl, hb1⟩; have c3 := keepc hb1 c1)
          have HB1 := Lib.hid (HB.out.trans (hb1.mono HB.out.size))
          clear HB hb1
          go_loopw [4] (fun j w2 => ∃ m : Nat, m ≤ k ∧ j = .int .i64 m ∧ Hid (((l.take m).any fun q => q.1 == pk) = false) ∧ ∃ n, w2 = w1.drewN n) (fun j _ => k - (intOf j).toNat)
          case atStart => exact ⟨0, Nat.zero_le _, rfl, Lib.hid (by simp), 0, rfl⟩
          case round =>
            obtain ⟨m, hm, rfl, HM, n, rfl⟩ := hrel
            by_cases hmk : m < k
            · have hml : m < l.length := by omega
              obtain ⟨b', off', he, d1, -⟩ := fold_cells (HC.out.keep HB1.out) m hml
              cases he
              have hmi : (m : Int) < (l.length : Int) := by omega
              have hm0 : (0 : Int) ≤ (m : Int) := by omega
              have HS := Lib.hid (fun h => any_take_step (x := pk) m hml h HM.out)
              have HT := Lib.hid (any_take_found (x := pk) m k hml hmk)
              generalize l[m] = q at d1 HS HT
              obtain ⟨qk, qt⟩ := q
              cases hq : (qk == pk)
              · have hq2 := bF hq
                have HS2 := Lib.hid (HS.out hq)
                clear HS HT
                go_wp2
                go_quiet (fail)
                go_wp2
                go_roundw
                case rel => exact ⟨m + 1, by omega, by go_num, HS2, _, rfl⟩
                case measure => simp [intOf]; omega
              · have hq2 := bT hq
                have HV := Lib.hid (Pl.foldsOk_no hlt (by rw [HE.out]; show (Pl.foldB pk pt && !((l.take k).any fun q => q.1 == pk)) = false; rw [HT.out hq]; simp))
                clear HS HT
                go_wp2
                go_quiet (fail)
                go_wp2
                go_ret
                exact ⟨ret_bool HV.out.symm, (HB1.out.trans (Joins.below_draws _ _ n)).trans (Joins.below_draws _ _ _)⟩
            · obtain rfl : m = k := by omega
              have HG : Hid (Pl.goodTo l (m + 1) = true) := Lib.hid (by
                show (Pl.goodTo l m && Pl.foldAt l m) = true
                rw [HA.out, HE.out]
                show (true && (Pl.foldB pk pt && !((l.take m).any fun q => q.1 == pk))) = true
                rw [h2, HM.out]; rfl)
              clear HM HE HA
              go_wp2
              go_roundw
              case rel => exact ⟨m + 1, by omega, by go_num, HG, HB1.out.trans (Joins.below_draws _ _ _)⟩
              case measure => simp [intOf]; omega
      · obtain rfl : k = l.length := by omega
        have HE : Hid (Pl.foldsOk l = true) := Lib.hid (by unfold Pl.foldsOk; rw [HA.out, Bool.and_true]; exact decide_eq_true (by omega))
        clear HA
        go_wp2
        go_ret
        exact ⟨ret_bool HE.out.symm, HB.out⟩

end Go.Proofs.Ytmlckocmfoiobaa
