/-
  CONTRACTS: the spelling rules of the program and of the reference.
-/
import Derived.Test.YtkbbcmbeafjpaabEnds
import Derived.BigRegion
import Derived.Deep.DeepCutAuto
namespace Go.Proofs.Ytkbbcmbeafjpaab
open Go.RowKit

theorem rows_newS (w : World) (l : List ByteArray) (E : TypeId) (h : l.length ≤ 1048576) : Rows (w.alloc (.cells (strs l).toArray E)) (.slice (some ⟨w.heap.size, 0, none⟩) l.length l.length) l.length 1 (strs l) := by
  refine ⟨_, _, rfl, Nat.le_refl _, by unfold maxLen; omega, by rw [strs_length, Nat.mul_one], (fun h => nomatch h), fun j u hj => ⟨w.heap.size, 0, rfl, ?_⟩⟩
  rw [Nat.zero_add, World.cell?_alloc_mark]
  simpa using hj

set_option maxHeartbeats 400000 in
theorem l9Ends_any (s e : ByteArray) (w : World) (hs : s.size ≤ maxLen) (he : e.size ≤ maxLen) :
    Calls Try.prog 118 #[.string s, .string e] w fun x w' => x = .returned (.bool (Pl.endsB s e)) ∧ w = w' := by
  unfold maxLen at hs he
  have E := Lib.hid (Pl.endsB_iff s e)
  by_cases hl : e.size ≤ s.size
  · have e1 : ((s.size : Int) - (e.size : Int)).toNat = s.size - e.size := by omega
    go_enter Try.func118, Try.ntmps118
    go_wp2
    all_goals go_ret
    all_goals exact ⟨ret_bool (by have E0 := E.out; clear E; rw [E0]; clear E0; first | (simp_all; done) | (simp_all; intros; omega)), rfl⟩
  · go_enter Try.func118, Try.ntmps118
    go_wp2
    all_goals go_ret
    all_goals exact ⟨ret_bool (by have E0 := E.out; clear E; rw [E0]; clear E0; first | (simp_all; done) | (simp_all; intros; omega)), rfl⟩

set_option maxHeartbeats 400000 in
theorem l9ConsonantY_any (s : ByteArray) (w : World) (hs : s.size ≤ maxLen) :
    Calls Try.prog 117 #[.string s] w fun x w' => x = .returned (.bool (Pl.consY s)) ∧ w = w' := by
  unfold maxLen at hs
  have E : Hid (Pl.consY s = (decide (2 ≤ s.size) && Pl.byteAt s (s.size - 1) == 121 && !Pl.isVowel (Pl.byteAt s (s.size - 2)))) := Lib.hid rfl
  by_cases hn : 2 ≤ s.size
  · have e1 := Pl.byteAt_eq s (s.size - 1) (by omega)
    have e2 := Pl.byteAt_eq s (s.size - 2) (by omega)
    generalize Pl.byteAt s (s.size - 1) = c1 at E e1
    generalize Pl.byteAt s (s.size - 2) = c2 at E e2
    go_enter Try.func117, Try.ntmps117
    go_wp2_with ((go_at_call 116; refine (l9Vowel_any _ _).mono ?_; rintro e w' ⟨rfl, rfl⟩))
    all_goals go_ret
    all_goals exact ⟨ret_bool (by have E0 := E.out; clear E; rw [E0]; clear E0; first | (simp_all; done) | (simp_all; intros; omega)), rfl⟩
  · go_enter Try.func117, Try.ntmps117
    go_wp2_with ((go_at_call 116; refine (l9Vowel_any _ _).mono ?_; rintro e w' ⟨rfl, rfl⟩))
    all_goals go_ret
    all_goals exact ⟨ret_bool (by have E0 := E.out; clear E; rw [E0]; clear E0; first | (simp_all; done) | (simp_all; intros; omega)), rfl⟩

set_option maxHeartbeats 400000 in
theorem l9Doubles_any (s : ByteArray) (w : World) (hs : s.size ≤ maxLen) :
    Calls Try.prog 119 #[.string s] w fun x w' => x = .returned (.bool (Pl.vowelGroups s == 1 && Pl.closedB s)) ∧ w = w' := by
  have hs0 := hs
  unfold maxLen at hs
  have E := Lib.hid (Pl.doubles_eq s)
  by_cases hn : 3 ≤ s.size
  · have e1 := Pl.byteAt_eq s (s.size - 1) (by omega)
    have e2 := Pl.byteAt_eq s (s.size - 2) (by omega)
    have e3 := Pl.byteAt_eq s (s.size - 3) (by omega)
    generalize Pl.byteAt s (s.size - 1) = c1 at E e1
    generalize Pl.byteAt s (s.size - 2) = c2 at E e2
    generalize Pl.byteAt s (s.size - 3) = c3 at E e3
    go_enter Try.func119, Try.ntmps119
    go_wp2_with (first | (go_at_call 116; refine (l9Vowel_any _ _).mono ?_; rintro e w' ⟨rfl, rfl⟩) | (go_at_call 123; refine (l9Groups_any _ _ hs0).mono ?_; rintro e w' ⟨rfl, rfl⟩))
    all_goals go_ret
    all_goals exact ⟨ret_bool (by have E0 := E.out; clear E; rw [E0]; clear E0; first | (simp_all; done) | (simp_all; intros; omega)), rfl⟩
  · go_enter Try.func119, Try.ntmps119
    go_wp2_with (first | (go_at_call 116; refine (l9Vowel_any _ _).mono ?_; rintro e w' ⟨rfl, rfl⟩) | (go_at_call 123; refine (l9Groups_any _ _ hs0).mono ?_; rintro e w' ⟨rfl, rfl⟩))
    all_goals go_ret
    all_goals exact ⟨ret_bool (by have E0 := E.out; clear E; rw [E0]; clear E0; first | (simp_all; done) | (simp_all; intros; omega)), rfl⟩

set_option maxHeartbeats 1600000 in
theorem l9Rule_any (s t : ByteArray) (w : World) (hs : s.size ≤ maxLen) (ht : t.size ≤ maxLen) (ht1 : 1 ≤ t.size) :
    Calls Try.prog 112 #[.string s, .string t] w fun x w' => x = .returned (.int .i64 (Pl.rule s t)) ∧ w = w' := by
  have hs0 := hs
  have e0 := Pl.byteAt_eq t 0 ht1
  unfold maxLen at hs ht
  go_enter Try.func112, Try.ntmps112
  go_upto_region 2 with (first | (go_at_call 116; refine (l9Vowel_any _ _).mono ?_; rintro e w' ⟨rfl, rfl⟩) | (go_at_call 117; refine (l9ConsonantY_any _ _ hs0).mono ?_; rintro e w' ⟨rfl, rfl⟩) | (go_at_call 118; refine (l9Ends_any _ _ _ hs0 (by decide)).mono ?_; rintro e w' ⟨rfl, rfl⟩) | (go_at_call 119; refine (l9Doubles_any _ _ hs0).mono ?_; rintro e w' ⟨rfl, rfl⟩))
  go_cut [9] (fun sx wx => sx = .bool (Pl.t1 s t) ∧ w = wx)
  case first =>
    go_wp2_with (first | (go_at_call 116; refine (l9Vowel_any _ _).mono ?_; rintro e w' ⟨rfl, rfl⟩) | (go_at_call 117; refine (l9ConsonantY_any _ _ hs0).mono ?_; rintro e w' ⟨rfl, rfl⟩) | (go_at_call 118; refine (l9Ends_any _ _ _ hs0 (by decide)).mono ?_; rintro e w' ⟨rfl, rfl⟩) | (go_at_call 119; refine (l9Doubles_any _ _ hs0).mono ?_; rintro e w' ⟨rfl, rfl⟩))
    all_goals go_meet
    all_goals (case rel => exact ⟨congrArg Value.bool (by first | (simp_all [Pl.t1]; done) | (simp_all [Pl.t1]; intros; omega)), rfl⟩)
  obtain ⟨rfl, rfl⟩ := hcut
  cases ht1 : Pl.t1 s t
  rotate_left
  · go_wp2
    go_ret
    exact ⟨ret_int (Pl.rule1 ht1).symm, rfl⟩
  go_upto_region 4 with (first | (go_at_call 116; refine (l9Vowel_any _ _).mono ?_; rintro e w' ⟨rfl, rfl⟩) | (go_at_call 117; refine (l9ConsonantY_any _ _ hs0).mono ?_; rintro e w' ⟨rfl, rfl⟩) | (go_at_call 118; refine (l9Ends_any _ _ _ hs0 (by decide)).mono ?_; rintro e w' ⟨rfl, rfl⟩) | (go_at_call 119; refine (l9Doubles_any _ _ hs0).mono ?_; rintro e w' ⟨rfl, rfl⟩))
  go_cut [16] (fun sx wx => sx = .bool (Pl.t2 s t) ∧ w = wx)
  case first =>
    go_wp2_with (first | (go_at_call 116; refine (l9Vowel_any _ _).mono ?_; rintro e w' ⟨rfl, rfl⟩) | (go_at_call 117; refine (l9ConsonantY_any _ _ hs0).mono ?_; rintro e w' ⟨rfl, rfl⟩) | (go_at_call 118; refine (l9Ends_any _ _ _ hs0 (by decide)).mono ?_; rintro e w' ⟨rfl, rfl⟩) | (go_at_call 119; refine (l9Doubles_any _ _ hs0).mono ?_; rintro e w' ⟨rfl, rfl⟩))
    all_goals go_meet
    all_goals (case rel => exact ⟨congrArg Value.bool (by first | (simp_all [Pl.t2, Pl.endsAny]; done) | (simp_all [Pl.t2, Pl.endsAny]; intros; omega)), rfl⟩)
  obtain ⟨rfl, rfl⟩ := hcut
  cases ht2 : Pl.t2 s t
  rotate_left
  · go_wp2
    go_ret
    exact ⟨ret_int (Pl.rule2 ht1 ht2).symm, rfl⟩
  go_upto_region 6 with (first | (go_at_call 116; refine (l9Vowel_any _ _).mono ?_; rintro e w' ⟨rfl, rfl⟩) | (go_at_call 117; refine (l9ConsonantY_any _ _ hs0).mono ?_; rintro e w' ⟨rfl, rfl⟩) | (go_at_call 118; refine (l9Ends_any _ _ _ hs0 (by decide)).mono ?_; rintro e w' ⟨rfl, rfl⟩) | (go_at_call 119; refine (l9Doubles_any _ _ hs0).mono ?_; rintro e w' ⟨rfl, rfl⟩))
  go_cut [39] (fun sx wx => sx = .bool (Pl.t3 s t) ∧ w = wx)
  case first =>
    go_wp2_with (first | (go_at_call 116; refine (l9Vowel_any _ _).mono ?_; rintro e w' ⟨rfl, rfl⟩) | (go_at_call 117; refine (l9ConsonantY_any _ _ hs0).mono ?_; rintro e w' ⟨rfl, rfl⟩) | (go_at_call 118; refine (l9Ends_any _ _ _ hs0 (by decide)).mono ?_; rintro e w' ⟨rfl, rfl⟩) | (go_at_call 119; refine (l9Doubles_any _ _ hs0).mono ?_; rintro e w' ⟨rfl, rfl⟩))
    all_goals go_meet
    all_goals (case rel => exact ⟨congrArg Value.bool (by first | (simp_all [Pl.t3, Pl.endsAny]; done) | (simp_all [Pl.t3, Pl.endsAny]; intros; omega)), rfl⟩)
  obtain ⟨rfl, rfl⟩ := hcut
  cases ht3 : Pl.t3 s t
  rotate_left
  · go_wp2
    go_ret
    exact ⟨ret_int (Pl.rule3 ht1 ht2 ht3).symm, rfl⟩
  go_upto_region 8 with (first | (go_at_call 116; refine (l9Vowel_any _ _).mono ?_; rintro e w' ⟨rfl, rfl⟩) | (go_at_call 117; refine (l9ConsonantY_any _ _ hs0).mono ?_; rintro e w' ⟨rfl, rfl⟩) | (go_at_call 118; refine (l9Ends_any _ _ _ hs0 (by decide)).mono ?_; rintro e w' ⟨rfl, rfl⟩) | (go_at_call 119; refine (l9Doubles_any _ _ hs0).mono ?_; rintro e w' ⟨rfl, rfl⟩))
  go_cut [46] (fun sx wx => sx = .bool (Pl.t4 s t) ∧ w = wx)
  case first =>
    go_wp2_with (first | (go_at_call 116; refine (l9Vowel_any _ _).mono ?_; rintro e w' ⟨rfl, rfl⟩) | (go_at_call 117; refine (l9ConsonantY_any _ _ hs0).mono ?_; rintro e w' ⟨rfl, rfl⟩) | (go_at_call 118; refine (l9Ends_any _ _ _ hs0 (by decide)).mono ?_; rintro e w' ⟨rfl, rfl⟩) | (go_at_call 119; refine (l9Doubles_any _ _ hs0).mono ?_; rintro e w' ⟨rfl, rfl⟩))
    all_goals go_meet
    all_goals (case rel => exact ⟨congrArg Value.bool (by first | (simp_all [Pl.t4]; done) | (simp_all [Pl.t4]; intros; omega)), rfl⟩)
  obtain ⟨rfl, rfl⟩ := hcut
  cases ht4 : Pl.t4 s t
  rotate_left
  · go_wp2
    go_ret
    exact ⟨ret_int (Pl.rule4 ht1 ht2 ht3 ht4).symm, rfl⟩
  go_upto_region 10 with (first | (go_at_call 116; refine (l9Vowel_any _ _).mono ?_; rintro e w' ⟨rfl, rfl⟩) | (go_at_call 117; refine (l9ConsonantY_any _ _ hs0).mono ?_; rintro e w' ⟨rfl, rfl⟩) | (go_at_call 118; refine (l9Ends_any _ _ _ hs0 (by decide)).mono ?_; rintro e w' ⟨rfl, rfl⟩) | (go_at_call 119; refine (l9Doubles_any _ _ hs0).mono ?_; rintro e w' ⟨rfl, rfl⟩))
  go_cut [54] (fun sx wx => sx = .bool (Pl.t5 s t) ∧ w = wx)
  case first =>
    go_wp2_with (first | (go_at_call 116; refine (l9Vowel_any _ _).mono ?_; rintro e w' ⟨rfl, rfl⟩) | (go_at_call 117; refine (l9ConsonantY_any _ _ hs0).mono ?_; rintro e w' ⟨rfl, rfl⟩) | (go_at_call 118; refine (l9Ends_any _ _ _ hs0 (by decide)).mono ?_; rintro e w' ⟨rfl, rfl⟩) | (go_at_call 119; refine (l9Doubles_any _ _ hs0).mono ?_; rintro e w' ⟨rfl, rfl⟩))
    all_goals go_meet
    all_goals (case rel => exact ⟨congrArg Value.bool (by first | (simp_all [Pl.t5, Pl.endsAny]; done) | (simp_all [Pl.t5, Pl.endsAny]; intros; omega)), rfl⟩)
  obtain ⟨rfl, rfl⟩ := hcut
  cases ht5 : Pl.t5 s t
  rotate_left
  · go_wp2
    go_ret
    exact ⟨ret_int (Pl.rule5 ht1 ht2 ht3 ht4 ht5).symm, rfl⟩
  go_upto_region 12 with (first | (go_at_call 116; refine (l9Vowel_any _ _).mono ?_; rintro e w' ⟨rfl, rfl⟩) | (go_at_call 117; refine (l9ConsonantY_any _ _ hs0).mono ?_; rintro e w' ⟨rfl, rfl⟩) | (go_at_call 118; refine (l9Ends_any _ _ _ hs0 (by decide)).mono ?_; rintro e w' ⟨rfl, rfl⟩) | (go_at_call 119; refine (l9Doubles_any _ _ hs0).mono ?_; rintro e w' ⟨rfl, rfl⟩))
  go_cut [80] (fun sx wx => sx = .bool (Pl.t6 s t) ∧ w = wx)
  case first =>
    go_wp2_with (first | (go_at_call 116; refine (l9Vowel_any _ _).mono ?_; rintro e w' ⟨rfl, rfl⟩) | (go_at_call 117; refine (l9ConsonantY_any _ _ hs0).mono ?_; rintro e w' ⟨rfl, rfl⟩) | (go_at_call 118; refine (l9Ends_any _ _ _ hs0 (by decide)).mono ?_; rintro e w' ⟨rfl, rfl⟩) | (go_at_call 119; refine (l9Doubles_any _ _ hs0).mono ?_; rintro e w' ⟨rfl, rfl⟩))
    all_goals go_meet
    all_goals (case rel => exact ⟨congrArg Value.bool (by first | (simp_all [Pl.t6]; done) | (simp_all [Pl.t6]; intros; omega)), rfl⟩)
  obtain ⟨rfl, rfl⟩ := hcut
  cases ht6 : Pl.t6 s t
  rotate_left
  · go_wp2
    go_ret
    exact ⟨ret_int (Pl.rule6 ht1 ht2 ht3 ht4 ht5 ht6).symm, rfl⟩
  · go_wp2
    go_ret
    exact ⟨ret_int (Pl.rule0 ht1 ht2 ht3 ht4 ht5 ht6).symm, rfl⟩

theorem below_past {W w' : World} {o : Obj} (h1 : Below (W.alloc o).heap.size (W.alloc o) w') : Below W.heap.size W w' :=
  (Joins.below_alloc1 W o).trans (h1.mono (Joins.below_alloc1 W o).size)

theorem ends_w (s : ByteArray) (W : World) (hs : s.size ≤ maxLen) :
    Calls Try.prog 114 #[.string s, .slice (some ⟨W.heap.size, 0, none⟩) 3 3] (W.alloc (.cells #[.string ⟨#[119]⟩, .string ⟨#[120]⟩, .string ⟨#[121]⟩] 9)) fun e w' => e = .returned (.bool (Pl.endsAny s [⟨#[119]⟩, ⟨#[120]⟩, ⟨#[121]⟩])) ∧ Below W.heap.size W w' :=
  (endsWith_any s _ [⟨#[119]⟩, ⟨#[120]⟩, ⟨#[121]⟩] _ (rows_newS W [⟨#[119]⟩, ⟨#[120]⟩, ⟨#[121]⟩] _ (by decide)) (by decide) hs).mono fun _ _ h => ⟨h.1, below_past h.2⟩

theorem ends_s (s : ByteArray) (W : World) (hs : s.size ≤ maxLen) :
    Calls Try.prog 114 #[.string s, .slice (some ⟨W.heap.size, 0, none⟩) 5 5] (W.alloc (.cells #[.string ⟨#[115]⟩, .string ⟨#[120]⟩, .string ⟨#[122]⟩, .string ⟨#[99, 104]⟩, .string ⟨#[115, 104]⟩] 9)) fun e w' => e = .returned (.bool (Pl.endsAny s [⟨#[115]⟩, ⟨#[120]⟩, ⟨#[122]⟩, ⟨#[99, 104]⟩, ⟨#[115, 104]⟩])) ∧ Below W.heap.size W w' :=
  (endsWith_any s _ [⟨#[115]⟩, ⟨#[120]⟩, ⟨#[122]⟩, ⟨#[99, 104]⟩, ⟨#[115, 104]⟩] _ (rows_newS W [⟨#[115]⟩, ⟨#[120]⟩, ⟨#[122]⟩, ⟨#[99, 104]⟩, ⟨#[115, 104]⟩] _ (by decide)) (by decide) hs).mono fun _ _ h => ⟨h.1, below_past h.2⟩

theorem ends_i (s : ByteArray) (W : World) (hs : s.size ≤ maxLen) :
    Calls Try.prog 114 #[.string s, .slice (some ⟨W.heap.size, 0, none⟩) 1 1] (W.alloc (.cells #[.string ⟨#[105, 101]⟩] 9)) fun e w' => e = .returned (.bool (Pl.endsAny s [⟨#[105, 101]⟩])) ∧ Below W.heap.size W w' :=
  (endsWith_any s _ [⟨#[105, 101]⟩] _ (rows_newS W [⟨#[105, 101]⟩] _ (by decide)) (by decide) hs).mono fun _ _ h => ⟨h.1, below_past h.2⟩

theorem ends_e (s : ByteArray) (W : World) (hs : s.size ≤ maxLen) :
    Calls Try.prog 114 #[.string s, .slice (some ⟨W.heap.size, 0, none⟩) 1 1] (W.alloc (.cells #[.string ⟨#[101]⟩] 9)) fun e w' => e = .returned (.bool (Pl.endsAny s [⟨#[101]⟩])) ∧ Below W.heap.size W w' :=
  (endsWith_any s _ [⟨#[101]⟩] _ (rows_newS W [⟨#[101]⟩] _ (by decide)) (by decide) hs).mono fun _ _ h => ⟨h.1, below_past h.2⟩

theorem ends_o (s : ByteArray) (W : World) (hs : s.size ≤ maxLen) :
    Calls Try.prog 114 #[.string s, .slice (some ⟨W.heap.size, 0, none⟩) 3 3] (W.alloc (.cells #[.string ⟨#[101, 101]⟩, .string ⟨#[111, 101]⟩, .string ⟨#[121, 101]⟩] 9)) fun e w' => e = .returned (.bool (Pl.endsAny s [⟨#[101, 101]⟩, ⟨#[111, 101]⟩, ⟨#[121, 101]⟩])) ∧ Below W.heap.size W w' :=
  (endsWith_any s _ [⟨#[101, 101]⟩, ⟨#[111, 101]⟩, ⟨#[121, 101]⟩] _ (rows_newS W [⟨#[101, 101]⟩, ⟨#[111, 101]⟩, ⟨#[121, 101]⟩] _ (by decide)) (by decide) hs).mono fun _ _ h => ⟨h.1, below_past h.2⟩

theorem below_step {w wc w1 : World} (h : Below w.heap.size w wc) (h1 : Below wc.heap.size wc w1) : Below w.heap.size w w1 :=
  h.trans (h1.mono h.size)

end Go.Proofs.Ytkbbcmbeafjpaab
