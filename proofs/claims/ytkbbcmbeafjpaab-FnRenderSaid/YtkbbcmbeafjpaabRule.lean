/-
  CONTRACTS: the spelling rule of the program.
-/
import Derived.Test.YtkbbcmbeafjpaabSpell
namespace Go.Proofs.Ytkbbcmbeafjpaab
open Go.RowKit

set_option maxRecDepth 20000 in
set_option maxHeartbeats 6400000 in
theorem rule_any (s t : ByteArray) (w : World) (hs : s.size ≤ maxLen) (ht : t.size ≤ maxLen) (ht1 : 1 ≤ t.size) :
    Calls Try.prog 108 #[.string s, .string t] w fun x w' => x = .returned (.int .i64 (Pl.rule s t)) ∧ Below w.heap.size w w' := by
  have hs0 := hs
  have e0 := Pl.byteAt_eq t 0 ht1
  have d0 := Pl.byteAt_bd t 0
  have d1 := Pl.byteAt_bd s (s.size - 1)
  have d2 := Pl.byteAt_bd s (s.size - 2)
  have d3 := Pl.byteAt_bd s (s.size - 3)
  have EC : Hid (Pl.consY s = (decide (2 ≤ s.size) && Pl.byteAt s (s.size - 1) == 121 && !Pl.isVowel (Pl.byteAt s (s.size - 2)))) := Lib.hid rfl
  have EK : Hid (Pl.closedB s = (decide (3 ≤ s.size) && !Pl.isVowel (Pl.byteAt s (s.size - 3)) && Pl.isVowel (Pl.byteAt s (s.size - 2)) && !Pl.isVowel (Pl.byteAt s (s.size - 1)) && !Pl.endsAny s [⟨#[119]⟩, ⟨#[120]⟩, ⟨#[121]⟩])) := Lib.hid rfl
  have HB := Lib.hid (Below.refl w.heap.size w)
  unfold maxLen at hs ht
  go_enter Try.func108, Try.ntmps108
  go_upto_region 2 with ((go_at_call 113; refine (isVowel_any _ (by omega) (by omega) _).mono ?_; rintro e w' ⟨rfl, rfl⟩))
  go_cut [7] (fun sx wx => sx = .bool (Pl.consY s) ∧ w = wx)
  case first =>
    by_cases hn : 2 ≤ s.size
    · have e1 := Pl.byteAt_eq s (s.size - 1) (by omega)
      have e2 := Pl.byteAt_eq s (s.size - 2) (by omega)
      cases f1 : (Pl.byteAt s (s.size - 1) == 121)
      · have g1 := by simpa using f1
        go_wp2_with ((go_at_call 113; refine (isVowel_any _ (by omega) (by omega) _).mono ?_; rintro e w' ⟨rfl, rfl⟩))
        all_goals go_meet
        all_goals (case rel => exact ⟨congrArg Value.bool (by rw [EC.out, f1]; simp), rfl⟩)
      · have g1 := by simpa using f1
        cases f2 : Pl.isVowel (Pl.byteAt s (s.size - 2))
        · go_wp2_with ((go_at_call 113; refine (isVowel_any _ (by omega) (by omega) _).mono ?_; rintro e w' ⟨rfl, rfl⟩))
          all_goals go_meet
          all_goals (case rel => exact ⟨congrArg Value.bool (by rw [EC.out, f1, f2]; simp [hn]), rfl⟩)
        · go_wp2_with ((go_at_call 113; refine (isVowel_any _ (by omega) (by omega) _).mono ?_; rintro e w' ⟨rfl, rfl⟩))
          all_goals go_meet
          all_goals (case rel => exact ⟨congrArg Value.bool (by rw [EC.out, f1, f2]; simp), rfl⟩)
    · go_wp2_with ((go_at_call 113; refine (isVowel_any _ (by omega) (by omega) _).mono ?_; rintro e w' ⟨rfl, rfl⟩))
      all_goals go_meet
      all_goals (case rel => exact ⟨congrArg Value.bool (by rw [EC.out]; simp [hn]), rfl⟩)
  obtain ⟨rfl, rfl⟩ := hcut
  clear EC
  go_upto_region 3 with fail
  go_cut [8] (fun sx wx => sx = .bool (Pl.closedB s) ∧ Below w.heap.size w wx)
  case first =>
    by_cases hn : 3 ≤ s.size
    · have e1 := Pl.byteAt_eq s (s.size - 1) (by omega)
      have e2 := Pl.byteAt_eq s (s.size - 2) (by omega)
      have e3 := Pl.byteAt_eq s (s.size - 3) (by omega)
      cases f3 : Pl.isVowel (Pl.byteAt s (s.size - 3))
      · cases f2 : Pl.isVowel (Pl.byteAt s (s.size - 2))
        · go_wp2_with (first | (go_at_call 113; refine (isVowel_any _ (by omega) (by omega) _).mono ?_; rintro e w' ⟨rfl, rfl⟩) | (go_at_call 114; refine (ends_w _ _ hs0).mono ?_; rintro e w1 ⟨rfl, hb1⟩))
          all_goals go_meet
          all_goals (case rel => exact ⟨congrArg Value.bool (by rw [EK.out, f2]; simp), HB.out⟩)
        · cases f1 : Pl.isVowel (Pl.byteAt s (s.size - 1))
          · cases f0 : Pl.endsAny s [⟨#[119]⟩, ⟨#[120]⟩, ⟨#[121]⟩]
            · go_wp2_with (first | (go_at_call 113; refine (isVowel_any _ (by omega) (by omega) _).mono ?_; rintro e w' ⟨rfl, rfl⟩) | (go_at_call 114; refine (ends_w _ _ hs0).mono ?_; rintro e w1 ⟨rfl, hb1⟩))
              all_goals go_meet
              all_goals (case rel => exact ⟨congrArg Value.bool (by rw [EK.out, f3, f2, f1, f0]; simp [hn]), below_step HB.out hb1⟩)
            · go_wp2_with (first | (go_at_call 113; refine (isVowel_any _ (by omega) (by omega) _).mono ?_; rintro e w' ⟨rfl, rfl⟩) | (go_at_call 114; refine (ends_w _ _ hs0).mono ?_; rintro e w1 ⟨rfl, hb1⟩))
              all_goals go_meet
              all_goals (case rel => exact ⟨congrArg Value.bool (by rw [EK.out, f0]; simp), below_step HB.out hb1⟩)
          · go_wp2_with (first | (go_at_call 113; refine (isVowel_any _ (by omega) (by omega) _).mono ?_; rintro e w' ⟨rfl, rfl⟩) | (go_at_call 114; refine (ends_w _ _ hs0).mono ?_; rintro e w1 ⟨rfl, hb1⟩))
            all_goals go_meet
            all_goals (case rel => exact ⟨congrArg Value.bool (by rw [EK.out, f1]; simp), HB.out⟩)
      · go_wp2_with (first | (go_at_call 113; refine (isVowel_any _ (by omega) (by omega) _).mono ?_; rintro e w' ⟨rfl, rfl⟩) | (go_at_call 114; refine (ends_w _ _ hs0).mono ?_; rintro e w1 ⟨rfl, hb1⟩))
        all_goals go_meet
        all_goals (case rel => exact ⟨congrArg Value.bool (by rw [EK.out, f3]; simp), HB.out⟩)
    · go_wp2_with (first | (go_at_call 113; refine (isVowel_any _ (by omega) (by omega) _).mono ?_; rintro e w' ⟨rfl, rfl⟩) | (go_at_call 114; refine (ends_w _ _ hs0).mono ?_; rintro e w1 ⟨rfl, hb1⟩))
      all_goals go_meet
      all_goals (case rel => exact ⟨congrArg Value.bool (by rw [EK.out]; simp [hn]), HB.out⟩)
  obtain ⟨rfl, HB0⟩ := hcut
  clear HB EK
  have HB := Lib.hid HB0
  clear HB0
  go_upto_region 4 with fail
  go_cut [62] (fun sx wx => sx = .bool (Pl.t1 s t) ∧ Below w.heap.size w wx)
  case first =>
    cases f1 : (t.toList == [115])
    · go_wp2_with fail
      all_goals go_meet
      all_goals (case rel => exact ⟨congrArg Value.bool (by simp [Pl.t1, f1]), HB.out⟩)
    · go_wp2_with fail
      all_goals go_meet
      all_goals (case rel => exact ⟨congrArg Value.bool (by simp [Pl.t1, f1]), HB.out⟩)
  obtain ⟨rfl, HB0⟩ := hcut
  clear HB
  have HB := Lib.hid HB0
  clear HB0
  cases h1 : Pl.t1 s t
  rotate_left
  · go_wp2
    go_ret
    exact ⟨ret_int (Pl.rule1 h1).symm, HB.out⟩
  go_upto_region 6 with fail
  go_cut [68] (fun sx wx => sx = .bool (Pl.t2 s t) ∧ Below w.heap.size w wx)
  case first =>
    cases f1 : (t.toList == [115])
    · go_wp2_with fail
      all_goals go_meet
      all_goals (case rel => exact ⟨congrArg Value.bool (by simp [Pl.t2, f1]), HB.out⟩)
    · go_wp2_with ((go_at_call 114; refine (ends_s _ _ hs0).mono ?_; rintro e w1 ⟨rfl, hb1⟩))
      all_goals go_meet
      all_goals (case rel => exact ⟨congrArg Value.bool (by simp [Pl.t2, f1]), below_step HB.out hb1⟩)
  obtain ⟨rfl, HB0⟩ := hcut
  clear HB
  have HB := Lib.hid HB0
  clear HB0
  cases h2 : Pl.t2 s t
  rotate_left
  · go_wp2
    go_ret
    exact ⟨ret_int (Pl.rule2 h1 h2).symm, HB.out⟩
  go_upto_region 8 with fail
  go_cut [76] (fun sx wx => sx = .bool (Pl.t3 s t) ∧ Below w.heap.size w wx)
  case first =>
    cases f1 : (t.toList == [105, 110, 103])
    · go_wp2_with fail
      all_goals go_meet
      all_goals (case rel => exact ⟨congrArg Value.bool (by simp [Pl.t3, f1]), HB.out⟩)
    · go_wp2_with ((go_at_call 114; refine (ends_i _ _ hs0).mono ?_; rintro e w1 ⟨rfl, hb1⟩))
      all_goals go_meet
      all_goals (case rel => exact ⟨congrArg Value.bool (by simp [Pl.t3, f1]), below_step HB.out hb1⟩)
  obtain ⟨rfl, HB0⟩ := hcut
  clear HB
  have HB := Lib.hid HB0
  clear HB0
  cases h3 : Pl.t3 s t
  rotate_left
  · go_wp2
    go_ret
    exact ⟨ret_int (Pl.rule3 h1 h2 h3).symm, HB.out⟩
  go_upto_region 10 with fail
  go_cut [7, 84] (fun sc sx wx => sc = .bool (Pl.consY s) ∧ sx = .bool (Pl.t4 s t) ∧ Below w.heap.size w wx)
  case first =>
    cases f1 : Pl.consY s
    · go_wp2_with fail
      all_goals go_meet
      all_goals (case rel => exact ⟨by rw [f1], congrArg Value.bool (by simp [Pl.t4, f1]), HB.out⟩)
    · go_wp2_with fail
      all_goals go_meet
      all_goals (case rel => exact ⟨by rw [f1], congrArg Value.bool (by simp [Pl.t4, f1]), HB.out⟩)
  obtain ⟨rfl, rfl, HB0⟩ := hcut
  clear HB
  have HB := Lib.hid HB0
  clear HB0
  cases h4 : Pl.t4 s t
  rotate_left
  · go_wp2
    go_ret
    exact ⟨ret_int (Pl.rule4 h1 h2 h3 h4).symm, HB.out⟩
  go_upto_region 12 with fail
  go_cut [91] (fun sx wx => sx = .bool (Pl.t5 s t) ∧ Below w.heap.size w wx)
  case first =>
    by_cases hn : 2 ≤ s.size
    · have dn : decide (2 ≤ s.size) = true := decide_eq_true hn
      cases f1 : Pl.endsAny s [⟨#[101]⟩]
      · go_wp2_with ((go_at_call 114; refine (ends_e _ _ hs0).mono ?_; rintro e w1 ⟨rfl, hb1⟩))
        all_goals go_meet
        all_goals (case rel => exact ⟨congrArg Value.bool (by simp [Pl.t5, f1]), below_step HB.out hb1⟩)
      · cases f2 : Pl.endsAny s [⟨#[101, 101]⟩, ⟨#[111, 101]⟩, ⟨#[121, 101]⟩]
        · go_wp2_with (first | (go_at_call 114; have hx2 := hb1; refine (ends_o _ _ hs0).mono ?_; rintro e w2 ⟨rfl, hb2⟩) | (go_at_call 114; refine (ends_e _ _ hs0).mono ?_; rintro e w1 ⟨rfl, hb1⟩))
          all_goals go_meet
          all_goals (case rel => exact ⟨congrArg Value.bool (by simp [Pl.t5, f1, f2, hn]), below_step (below_step HB.out hb1) hb2⟩)
        · go_wp2_with (first | (go_at_call 114; have hx2 := hb1; refine (ends_o _ _ hs0).mono ?_; rintro e w2 ⟨rfl, hb2⟩) | (go_at_call 114; refine (ends_e _ _ hs0).mono ?_; rintro e w1 ⟨rfl, hb1⟩))
          all_goals go_meet
          all_goals (case rel => exact ⟨congrArg Value.bool (by simp [Pl.t5, f1, f2, hn]), below_step (below_step HB.out hb1) hb2⟩)
    · go_wp2_with fail
      all_goals go_meet
      all_goals (case rel => exact ⟨congrArg Value.bool (by simp [Pl.t5, hn]), HB.out⟩)
  obtain ⟨rfl, HB0⟩ := hcut
  clear HB
  have HB := Lib.hid HB0
  clear HB0
  cases h5 : Pl.t5 s t
  rotate_left
  · go_wp2
    go_ret
    exact ⟨ret_int (Pl.rule5 h1 h2 h3 h4 h5).symm, HB.out⟩
  go_upto_region 14 with fail
  go_cut [8, 108] (fun sc sx wx => sc = .bool (Pl.closedB s) ∧ sx = .bool (Pl.t6 s t) ∧ Below w.heap.size w wx)
  case first =>
    cases f1 : (Pl.vowelGroups s == 1)
    · go_wp2_with ((go_at_call 115; refine (vowelGroups_any _ _ hs0).mono ?_; rintro e w' ⟨rfl, rfl⟩))
      all_goals go_meet
      all_goals (case rel => exact ⟨rfl, congrArg Value.bool (by simp [Pl.t6, f1]), HB.out⟩)
    · cases f2 : Pl.closedB s
      · go_wp2_with ((go_at_call 115; refine (vowelGroups_any _ _ hs0).mono ?_; rintro e w' ⟨rfl, rfl⟩))
        all_goals go_meet
        all_goals (case rel => exact ⟨by rw [f2], congrArg Value.bool (by simp [Pl.t6, f1, f2]), HB.out⟩)
      · go_wp2_with ((go_at_call 115; refine (vowelGroups_any _ _ hs0).mono ?_; rintro e w' ⟨rfl, rfl⟩))
        all_goals go_meet
        all_goals (case rel => exact ⟨by rw [f2], congrArg Value.bool (by simp [Pl.t6, f1, f2]), HB.out⟩)
  obtain ⟨rfl, rfl, HB0⟩ := hcut
  clear HB
  have HB := Lib.hid HB0
  clear HB0
  cases h6 : Pl.t6 s t
  rotate_left
  · go_wp2
    go_ret
    exact ⟨ret_int (Pl.rule6 h1 h2 h3 h4 h5 h6).symm, HB.out⟩
  · go_wp2
    go_ret
    exact ⟨ret_int (Pl.rule0 h1 h2 h3 h4 h5 h6).symm, HB.out⟩

end Go.Proofs.Ytkbbcmbeafjpaab
