/-
  CONTRACTS: the spelling rules of the program and of the reference.
  CONTRACTS: the spelling rule of the program.
  CONTRACTS: SuffixRule of the program and of the reference.
  CONTRACTS: JoinSuffix of the program and of the reference.
  CONTRACTS: IsValidState, LastWord of the program and the reference.
  CONTRACTS: isWordText, IsValidAtom, upper, lower of the program; l5Word, l5Good, l12Case of the reference.
-/
import Derived.Test.YtdidgaibgkdjoaaGreatDoorBasB
import Derived.BigRegion
import Derived.Deep.DeepCutAuto
import Derived.Test.YtdidgaibgkdjoaaGreatDoorBasA
namespace Go.Proofs.YtdidgaibgkdjoaaGreatDoor
open Go.RowKit

theorem rows_newS (w : World) (l : List ByteArray) (E : TypeId) (h : l.length ≤ 1048576) : Rows (w.alloc (.cells (strs l).toArray E)) (.slice (some ⟨w.heap.size, 0, none⟩) l.length l.length) l.length 1 (strs l) := by
  refine ⟨_, _, rfl, Nat.le_refl _, by unfold maxLen; omega, by rw [strs_length, Nat.mul_one], (fun h => nomatch h), fun j u hj => ⟨w.heap.size, 0, rfl, ?_⟩⟩
  rw [Nat.zero_add, World.cell?_alloc_mark]
  simpa using hj

set_option maxHeartbeats 400000 in
theorem l9Ends_any (s e : ByteArray) (w : World) (hs : s.size ≤ maxLen) (he : e.size ≤ maxLen) :
    Calls Tryz.prog 216 #[.string s, .string e] w fun x w' => x = .returned (.bool (Pl.endsB s e)) ∧ w = w' := by
  unfold maxLen at hs he
  have E := Lib.hid (Pl.endsB_iff s e)
  by_cases hl : e.size ≤ s.size
  · have e1 : ((s.size : Int) - (e.size : Int)).toNat = s.size - e.size := by omega
    go_enter Tryz.func216, Tryz.ntmps216
    go_wp2
    all_goals go_ret
    all_goals exact ⟨ret_bool (by have E0 := E.out; clear E; rw [E0]; clear E0; first | (simp_all; done) | (simp_all; intros; omega)), rfl⟩
  · go_enter Tryz.func216, Tryz.ntmps216
    go_wp2
    all_goals go_ret
    all_goals exact ⟨ret_bool (by have E0 := E.out; clear E; rw [E0]; clear E0; first | (simp_all; done) | (simp_all; intros; omega)), rfl⟩

set_option maxHeartbeats 400000 in
theorem l9ConsonantY_any (s : ByteArray) (w : World) (hs : s.size ≤ maxLen) :
    Calls Tryz.prog 215 #[.string s] w fun x w' => x = .returned (.bool (Pl.consY s)) ∧ w = w' := by
  unfold maxLen at hs
  have E : Hid (Pl.consY s = (decide (2 ≤ s.size) && Pl.byteAt s (s.size - 1) == 121 && !Pl.isVowel (Pl.byteAt s (s.size - 2)))) := Lib.hid rfl
  by_cases hn : 2 ≤ s.size
  · have e1 := Pl.byteAt_eq s (s.size - 1) (by omega)
    have e2 := Pl.byteAt_eq s (s.size - 2) (by omega)
    generalize Pl.byteAt s (s.size - 1) = c1 at E e1
    generalize Pl.byteAt s (s.size - 2) = c2 at E e2
    go_enter Tryz.func215, Tryz.ntmps215
    go_wp2_with ((go_at_call 214; refine (l9Vowel_any _ _).mono ?_; rintro e w' ⟨rfl, rfl⟩))
    all_goals go_ret
    all_goals exact ⟨ret_bool (by have E0 := E.out; clear E; rw [E0]; clear E0; first | (simp_all; done) | (simp_all; intros; omega)), rfl⟩
  · go_enter Tryz.func215, Tryz.ntmps215
    go_wp2_with ((go_at_call 214; refine (l9Vowel_any _ _).mono ?_; rintro e w' ⟨rfl, rfl⟩))
    all_goals go_ret
    all_goals exact ⟨ret_bool (by have E0 := E.out; clear E; rw [E0]; clear E0; first | (simp_all; done) | (simp_all; intros; omega)), rfl⟩

set_option maxHeartbeats 400000 in
theorem l9Doubles_any (s : ByteArray) (w : World) (hs : s.size ≤ maxLen) :
    Calls Tryz.prog 217 #[.string s] w fun x w' => x = .returned (.bool (Pl.vowelGroups s == 1 && Pl.closedB s)) ∧ w = w' := by
  have hs0 := hs
  unfold maxLen at hs
  have E := Lib.hid (Pl.doubles_eq s)
  by_cases hn : 3 ≤ s.size
  · have e1 := Pl.byteAt_eq s (s.size - 1) (by omega)
    have e2 := Pl.byteAt_eq s (s.size - 2) (by omega)
    have e3 := Pl.byteAt_eq s (s.size - 3) (by omega)
    generalize Pl.byteAt s (s.size - 1) = c1 at E e1
    generalize Pl.byteAt s (s.size - 2) = c2 at E e2
    generalize Pl.byteAt s (s.size - 3) = c3 at E e3
    go_enter Tryz.func217, Tryz.ntmps217
    go_wp2_with (first | (go_at_call 214; refine (l9Vowel_any _ _).mono ?_; rintro e w' ⟨rfl, rfl⟩) | (go_at_call 231; refine (l9Groups_any _ _ hs0).mono ?_; rintro e w' ⟨rfl, rfl⟩))
    all_goals go_ret
    all_goals exact ⟨ret_bool (by have E0 := E.out; clear E; rw [E0]; clear E0; first | (simp_all; done) | (simp_all; intros; omega)), rfl⟩
  · go_enter Tryz.func217, Tryz.ntmps217
    go_wp2_with (first | (go_at_call 214; refine (l9Vowel_any _ _).mono ?_; rintro e w' ⟨rfl, rfl⟩) | (go_at_call 231; refine (l9Groups_any _ _ hs0).mono ?_; rintro e w' ⟨rfl, rfl⟩))
    all_goals go_ret
    all_goals exact ⟨ret_bool (by have E0 := E.out; clear E; rw [E0]; clear E0; first | (simp_all; done) | (simp_all; intros; omega)), rfl⟩

set_option maxHeartbeats 1600000 in
theorem l9Rule_any (s t : ByteArray) (w : World) (hs : s.size ≤ maxLen) (ht : t.size ≤ maxLen) (ht1 : 1 ≤ t.size) :
    Calls Tryz.prog 200 #[.string s, .string t] w fun x w' => x = .returned (.int .i64 (Pl.rule s t)) ∧ w = w' := by
  have hs0 := hs
  have e0 := Pl.byteAt_eq t 0 ht1
  unfold maxLen at hs ht
  go_enter Tryz.func200, Tryz.ntmps200
  go_upto_region 2 with (first | (go_at_call 214; refine (l9Vowel_any _ _).mono ?_; rintro e w' ⟨rfl, rfl⟩) | (go_at_call 215; refine (l9ConsonantY_any _ _ hs0).mono ?_; rintro e w' ⟨rfl, rfl⟩) | (go_at_call 216; refine (l9Ends_any _ _ _ hs0 (by decide)).mono ?_; rintro e w' ⟨rfl, rfl⟩) | (go_at_call 217; refine (l9Doubles_any _ _ hs0).mono ?_; rintro e w' ⟨rfl, rfl⟩))
  go_cut [9] (fun sx wx => sx = .bool (Pl.t1 s t) ∧ w = wx)
  case first =>
    go_wp2_with (first | (go_at_call 214; refine (l9Vowel_any _ _).mono ?_; rintro e w' ⟨rfl, rfl⟩) | (go_at_call 215; refine (l9ConsonantY_any _ _ hs0).mono ?_; rintro e w' ⟨rfl, rfl⟩) | (go_at_call 216; refine (l9Ends_any _ _ _ hs0 (by decide)).mono ?_; rintro e w' ⟨rfl, rfl⟩) | (go_at_call 217; refine (l9Doubles_any _ _ hs0).mono ?_; rintro e w' ⟨rfl, rfl⟩))
    all_goals go_meet
    all_goals (case rel => exact ⟨congrArg Value.bool (by first | (simp_all [Pl.t1]; done) | (simp_all [Pl.t1]; intros; omega)), rfl⟩)
  obtain ⟨rfl, rfl⟩ := hcut
  cases ht1 : Pl.t1 s t
  rotate_left
  · go_wp2
    go_ret
    exact ⟨ret_int (Pl.rule1 ht1).symm, rfl⟩
  go_upto_region 4 with (first | (go_at_call 214; refine (l9Vowel_any _ _).mono ?_; rintro e w' ⟨rfl, rfl⟩) | (go_at_call 215; refine (l9ConsonantY_any _ _ hs0).mono ?_; rintro e w' ⟨rfl, rfl⟩) | (go_at_call 216; refine (l9Ends_any _ _ _ hs0 (by decide)).mono ?_; rintro e w' ⟨rfl, rfl⟩) | (go_at_call 217; refine (l9Doubles_any _ _ hs0).mono ?_; rintro e w' ⟨rfl, rfl⟩))
  go_cut [16] (fun sx wx => sx = .bool (Pl.t2 s t) ∧ w = wx)
  case first =>
    go_wp2_with (first | (go_at_call 214; refine (l9Vowel_any _ _).mono ?_; rintro e w' ⟨rfl, rfl⟩) | (go_at_call 215; refine (l9ConsonantY_any _ _ hs0).mono ?_; rintro e w' ⟨rfl, rfl⟩) | (go_at_call 216; refine (l9Ends_any _ _ _ hs0 (by decide)).mono ?_; rintro e w' ⟨rfl, rfl⟩) | (go_at_call 217; refine (l9Doubles_any _ _ hs0).mono ?_; rintro e w' ⟨rfl, rfl⟩))
    all_goals go_meet
    all_goals (case rel => exact ⟨congrArg Value.bool (by first | (simp_all [Pl.t2, Pl.endsAny]; done) | (simp_all [Pl.t2, Pl.endsAny]; intros; omega)), rfl⟩)
  obtain ⟨rfl, rfl⟩ := hcut
  cases ht2 : Pl.t2 s t
  rotate_left
  · go_wp2
    go_ret
    exact ⟨ret_int (Pl.rule2 ht1 ht2).symm, rfl⟩
  go_upto_region 6 with (first | (go_at_call 214; refine (l9Vowel_any _ _).mono ?_; rintro e w' ⟨rfl, rfl⟩) | (go_at_call 215; refine (l9ConsonantY_any _ _ hs0).mono ?_; rintro e w' ⟨rfl, rfl⟩) | (go_at_call 216; refine (l9Ends_any _ _ _ hs0 (by decide)).mono ?_; rintro e w' ⟨rfl, rfl⟩) | (go_at_call 217; refine (l9Doubles_any _ _ hs0).mono ?_; rintro e w' ⟨rfl, rfl⟩))
  go_cut [39] (fun sx wx => sx = .bool (Pl.t3 s t) ∧ w = wx)
  case first =>
    go_wp2_with (first | (go_at_call 214; refine (l9Vowel_any _ _).mono ?_; rintro e w' ⟨rfl, rfl⟩) | (go_at_call 215; refine (l9ConsonantY_any _ _ hs0).mono ?_; rintro e w' ⟨rfl, rfl⟩) | (go_at_call 216; refine (l9Ends_any _ _ _ hs0 (by decide)).mono ?_; rintro e w' ⟨rfl, rfl⟩) | (go_at_call 217; refine (l9Doubles_any _ _ hs0).mono ?_; rintro e w' ⟨rfl, rfl⟩))
    all_goals go_meet
    all_goals (case rel => exact ⟨congrArg Value.bool (by first | (simp_all [Pl.t3, Pl.endsAny]; done) | (simp_all [Pl.t3, Pl.endsAny]; intros; omega)), rfl⟩)
  obtain ⟨rfl, rfl⟩ := hcut
  cases ht3 : Pl.t3 s t
  rotate_left
  · go_wp2
    go_ret
    exact ⟨ret_int (Pl.rule3 ht1 ht2 ht3).symm, rfl⟩
  go_upto_region 8 with (first | (go_at_call 214; refine (l9Vowel_any _ _).mono ?_; rintro e w' ⟨rfl, rfl⟩) | (go_at_call 215; refine (l9ConsonantY_any _ _ hs0).mono ?_; rintro e w' ⟨rfl, rfl⟩) | (go_at_call 216; refine (l9Ends_any _ _ _ hs0 (by decide)).mono ?_; rintro e w' ⟨rfl, rfl⟩) | (go_at_call 217; refine (l9Doubles_any _ _ hs0).mono ?_; rintro e w' ⟨rfl, rfl⟩))
  go_cut [46] (fun sx wx => sx = .bool (Pl.t4 s t) ∧ w = wx)
  case first =>
    go_wp2_with (first | (go_at_call 214; refine (l9Vowel_any _ _).mono ?_; rintro e w' ⟨rfl, rfl⟩) | (go_at_call 215; refine (l9ConsonantY_any _ _ hs0).mono ?_; rintro e w' ⟨rfl, rfl⟩) | (go_at_call 216; refine (l9Ends_any _ _ _ hs0 (by decide)).mono ?_; rintro e w' ⟨rfl, rfl⟩) | (go_at_call 217; refine (l9Doubles_any _ _ hs0).mono ?_; rintro e w' ⟨rfl, rfl⟩))
    all_goals go_meet
    all_goals (case rel => exact ⟨congrArg Value.bool (by first | (simp_all [Pl.t4]; done) | (simp_all [Pl.t4]; intros; omega)), rfl⟩)
  obtain ⟨rfl, rfl⟩ := hcut
  cases ht4 : Pl.t4 s t
  rotate_left
  · go_wp2
    go_ret
    exact ⟨ret_int (Pl.rule4 ht1 ht2 ht3 ht4).symm, rfl⟩
  go_upto_region 10 with (first | (go_at_call 214; refine (l9Vowel_any _ _).mono ?_; rintro e w' ⟨rfl, rfl⟩) | (go_at_call 215; refine (l9ConsonantY_any _ _ hs0).mono ?_; rintro e w' ⟨rfl, rfl⟩) | (go_at_call 216; refine (l9Ends_any _ _ _ hs0 (by decide)).mono ?_; rintro e w' ⟨rfl, rfl⟩) | (go_at_call 217; refine (l9Doubles_any _ _ hs0).mono ?_; rintro e w' ⟨rfl, rfl⟩))
  go_cut [54] (fun sx wx => sx = .bool (Pl.t5 s t) ∧ w = wx)
  case first =>
    go_wp2_with (first | (go_at_call 214; refine (l9Vowel_any _ _).mono ?_; rintro e w' ⟨rfl, rfl⟩) | (go_at_call 215; refine (l9ConsonantY_any _ _ hs0).mono ?_; rintro e w' ⟨rfl, rfl⟩) | (go_at_call 216; refine (l9Ends_any _ _ _ hs0 (by decide)).mono ?_; rintro e w' ⟨rfl, rfl⟩) | (go_at_call 217; refine (l9Doubles_any _ _ hs0).mono ?_; rintro e w' ⟨rfl, rfl⟩))
    all_goals go_meet
    all_goals (case rel => exact ⟨congrArg Value.bool (by first | (simp_all [Pl.t5, Pl.endsAny]; done) | (simp_all [Pl.t5, Pl.endsAny]; intros; omega)), rfl⟩)
  obtain ⟨rfl, rfl⟩ := hcut
  cases ht5 : Pl.t5 s t
  rotate_left
  · go_wp2
    go_ret
    exact ⟨ret_int (Pl.rule5 ht1 ht2 ht3 ht4 ht5).symm, rfl⟩
  go_upto_region 12 with (first | (go_at_call 214; refine (l9Vowel_any _ _).mono ?_; rintro e w' ⟨rfl, rfl⟩) | (go_at_call 215; refine (l9ConsonantY_any _ _ hs0).mono ?_; rintro e w' ⟨rfl, rfl⟩) | (go_at_call 216; refine (l9Ends_any _ _ _ hs0 (by decide)).mono ?_; rintro e w' ⟨rfl, rfl⟩) | (go_at_call 217; refine (l9Doubles_any _ _ hs0).mono ?_; rintro e w' ⟨rfl, rfl⟩))
  go_cut [80] (fun sx wx => sx = .bool (Pl.t6 s t) ∧ w = wx)
  case first =>
    go_wp2_with (first | (go_at_call 214; refine (l9Vowel_any _ _).mono ?_; rintro e w' ⟨rfl, rfl⟩) | (go_at_call 215; refine (l9ConsonantY_any _ _ hs0).mono ?_; rintro e w' ⟨rfl, rfl⟩) | (go_at_call 216; refine (l9Ends_any _ _ _ hs0 (by decide)).mono ?_; rintro e w' ⟨rfl, rfl⟩) | (go_at_call 217; refine (l9Doubles_any _ _ hs0).mono ?_; rintro e w' ⟨rfl, rfl⟩))
    all_goals go_meet
    all_goals (case rel => exact ⟨congrArg Value.bool (by first | (simp_all [Pl.t6]; done) | (simp_all [Pl.t6]; intros; omega)), rfl⟩)
  obtain ⟨rfl, rfl⟩ := hcut
  cases ht6 : Pl.t6 s t
  rotate_left
  · go_wp2
    go_ret
    exact ⟨ret_int (Pl.rule6 ht1 ht2 ht3 ht4 ht5 ht6).symm, rfl⟩
  · go_wp2
    go_ret
    exact ⟨ret_int (Pl.rule0 ht1 ht2 ht3 ht4 ht5 ht6).symm, rfl⟩

theorem below_past {W w' : World} {o : Obj} (h1 : Below (W.alloc o).heap.size (W.alloc o) w') : Below W.heap.size W w' :=
  (Joins.below_alloc1 W o).trans (h1.mono (Joins.below_alloc1 W o).size)

theorem ends_w (s : ByteArray) (W : World) (hs : s.size ≤ maxLen) :
    Calls Tryz.prog 240 #[.string s, .slice (some ⟨W.heap.size, 0, none⟩) 3 3] (W.alloc (.cells #[.string ⟨#[119]⟩, .string ⟨#[120]⟩, .string ⟨#[121]⟩] 9)) fun e w' => e = .returned (.bool (Pl.endsAny s [⟨#[119]⟩, ⟨#[120]⟩, ⟨#[121]⟩])) ∧ Below W.heap.size W w' :=
  (endsWith_any s _ [⟨#[119]⟩, ⟨#[120]⟩, ⟨#[121]⟩] _ (rows_newS W [⟨#[119]⟩, ⟨#[120]⟩, ⟨#[121]⟩] _ (by decide)) (by decide) hs).mono fun _ _ h => ⟨h.1, below_past h.2⟩

theorem ends_s (s : ByteArray) (W : World) (hs : s.size ≤ maxLen) :
    Calls Tryz.prog 240 #[.string s, .slice (some ⟨W.heap.size, 0, none⟩) 5 5] (W.alloc (.cells #[.string ⟨#[115]⟩, .string ⟨#[120]⟩, .string ⟨#[122]⟩, .string ⟨#[99, 104]⟩, .string ⟨#[115, 104]⟩] 9)) fun e w' => e = .returned (.bool (Pl.endsAny s [⟨#[115]⟩, ⟨#[120]⟩, ⟨#[122]⟩, ⟨#[99, 104]⟩, ⟨#[115, 104]⟩])) ∧ Below W.heap.size W w' :=
  (endsWith_any s _ [⟨#[115]⟩, ⟨#[120]⟩, ⟨#[122]⟩, ⟨#[99, 104]⟩, ⟨#[115, 104]⟩] _ (rows_newS W [⟨#[115]⟩, ⟨#[120]⟩, ⟨#[122]⟩, ⟨#[99, 104]⟩, ⟨#[115, 104]⟩] _ (by decide)) (by decide) hs).mono fun _ _ h => ⟨h.1, below_past h.2⟩

theorem ends_i (s : ByteArray) (W : World) (hs : s.size ≤ maxLen) :
    Calls Tryz.prog 240 #[.string s, .slice (some ⟨W.heap.size, 0, none⟩) 1 1] (W.alloc (.cells #[.string ⟨#[105, 101]⟩] 9)) fun e w' => e = .returned (.bool (Pl.endsAny s [⟨#[105, 101]⟩])) ∧ Below W.heap.size W w' :=
  (endsWith_any s _ [⟨#[105, 101]⟩] _ (rows_newS W [⟨#[105, 101]⟩] _ (by decide)) (by decide) hs).mono fun _ _ h => ⟨h.1, below_past h.2⟩

theorem ends_e (s : ByteArray) (W : World) (hs : s.size ≤ maxLen) :
    Calls Tryz.prog 240 #[.string s, .slice (some ⟨W.heap.size, 0, none⟩) 1 1] (W.alloc (.cells #[.string ⟨#[101]⟩] 9)) fun e w' => e = .returned (.bool (Pl.endsAny s [⟨#[101]⟩])) ∧ Below W.heap.size W w' :=
  (endsWith_any s _ [⟨#[101]⟩] _ (rows_newS W [⟨#[101]⟩] _ (by decide)) (by decide) hs).mono fun _ _ h => ⟨h.1, below_past h.2⟩

theorem ends_o (s : ByteArray) (W : World) (hs : s.size ≤ maxLen) :
    Calls Tryz.prog 240 #[.string s, .slice (some ⟨W.heap.size, 0, none⟩) 3 3] (W.alloc (.cells #[.string ⟨#[101, 101]⟩, .string ⟨#[111, 101]⟩, .string ⟨#[121, 101]⟩] 9)) fun e w' => e = .returned (.bool (Pl.endsAny s [⟨#[101, 101]⟩, ⟨#[111, 101]⟩, ⟨#[121, 101]⟩])) ∧ Below W.heap.size W w' :=
  (endsWith_any s _ [⟨#[101, 101]⟩, ⟨#[111, 101]⟩, ⟨#[121, 101]⟩] _ (rows_newS W [⟨#[101, 101]⟩, ⟨#[111, 101]⟩, ⟨#[121, 101]⟩] _ (by decide)) (by decide) hs).mono fun _ _ h => ⟨h.1, below_past h.2⟩

theorem below_step {w wc w1 : World} (h : Below w.heap.size w wc) (h1 : Below wc.heap.size wc w1) : Below w.heap.size w w1 :=
  h.trans (h1.mono h.size)

end Go.Proofs.YtdidgaibgkdjoaaGreatDoor

namespace Go.Proofs.YtdidgaibgkdjoaaGreatDoor
open Go.RowKit

set_option maxRecDepth 20000 in
set_option maxHeartbeats 6400000 in
theorem rule_any (s t : ByteArray) (w : World) (hs : s.size ≤ maxLen) (ht : t.size ≤ maxLen) (ht1 : 1 ≤ t.size) :
    Calls Tryz.prog 238 #[.string s, .string t] w fun x w' => x = .returned (.int .i64 (Pl.rule s t)) ∧ Below w.heap.size w w' := by
  have hs0 := hs
  have e0 := Pl.byteAt_eq t 0 ht1
  have d0 := Pl.byteAt_bd t 0
  have d1 := Pl.byteAt_bd s (s.size - 1)
  have d2 := Pl.byteAt_bd s (s.size - 2)
  have d3 := Pl.byteAt_bd s (s.size - 3)
  have EC : Hid (Pl.consY s = (decide (2 ≤ s.size) && Pl.byteAt s (s.size - 1) == 121 && !Pl.isVowel (Pl.byteAt s (s.size - 2)))) := Lib.hid rfl
  have EK : Hid (Pl.closedB s = (decide (3 ≤ s.size) && !Pl.isVowel (Pl.byteAt s (s.size - 3)) && Pl.isVowel (Pl.byteAt s (s.size - 2)) && !Pl.isVowel (Pl.byteAt s (s.size - 1)) && !Pl.endsAny s [⟨#[119]⟩, ⟨#[120]⟩, ⟨#[121]⟩])) := Lib.hid rfl
  have HB := Lib.hid (Below.refl w.heap.size w)
  unfold maxLen at hs ht
  go_enter Tryz.func238, Tryz.ntmps238
  go_upto_region 2 with ((go_at_call 239; refine (isVowel_any _ (by omega) (by omega) _).mono ?_; rintro e w' ⟨rfl, rfl⟩))
  go_cut [7] (fun sx wx => sx = .bool (Pl.consY s) ∧ w = wx)
  case first =>
    by_cases hn : 2 ≤ s.size
    · have e1 := Pl.byteAt_eq s (s.size - 1) (by omega)
      have e2 := Pl.byteAt_eq s (s.size - 2) (by omega)
      cases f1 : (Pl.byteAt s (s.size - 1) == 121)
      · have g1 := by simpa using f1
        go_wp2_with ((go_at_call 239; refine (isVowel_any _ (by omega) (by omega) _).mono ?_; rintro e w' ⟨rfl, rfl⟩))
        all_goals go_meet
        all_goals (case rel => exact ⟨congrArg Value.bool (by rw [EC.out, f1]; simp), rfl⟩)
      · have g1 := by simpa using f1
        cases f2 : Pl.isVowel (Pl.byteAt s (s.size - 2))
        · go_wp2_with ((go_at_call 239; refine (isVowel_any _ (by omega) (by omega) _).mono ?_; rintro e w' ⟨rfl, rfl⟩))
          all_goals go_meet
          all_goals (case rel => exact ⟨congrArg Value.bool (by rw [EC.out, f1, f2]; simp [hn]), rfl⟩)
        · go_wp2_with ((go_at_call 239; refine (isVowel_any _ (by omega) (by omega) _).mono ?_; rintro e w' ⟨rfl, rfl⟩))
          all_goals go_meet
          all_goals (case rel => exact ⟨congrArg Value.bool (by rw [EC.out, f1, f2]; simp), rfl⟩)
    · go_wp2_with ((go_at_call 239; refine (isVowel_any _ (by omega) (by omega) _).mono ?_; rintro e w' ⟨rfl, rfl⟩))
      all_goals go_meet
      all_goals (case rel => exact ⟨congrArg Value.bool (by rw [EC.out]; simp [hn]), rfl⟩)
  obtain ⟨rfl, rfl⟩ := hcut
  clear EC
  go_upto_region 3 with fail
  go_cut [8] (fun sx wx => sx = .bool (Pl.closedB s) ∧ Below w.heap.size w wx)
  case first =>
    by_cases hn : 3 ≤ s.size
    · have e1 := Pl.byteAt_eq s (s.size - 1) (by omega)
      have e2 := Pl.byteAt_eq s (s.size - 2) (by omega)
      have e3 := Pl.byteAt_eq s (s.size - 3) (by omega)
      cases f3 : Pl.isVowel (Pl.byteAt s (s.size - 3))
      · cases f2 : Pl.isVowel (Pl.byteAt s (s.size - 2))
        · go_wp2_with (first | (go_at_call 239; refine (isVowel_any _ (by omega) (by omega) _).mono ?_; rintro e w' ⟨rfl, rfl⟩) | (go_at_call 240; refine (ends_w _ _ hs0).mono ?_; rintro e w1 ⟨rfl, hb1⟩))
          all_goals go_meet
          all_goals (case rel => exact ⟨congrArg Value.bool (by rw [EK.out, f2]; simp), HB.out⟩)
        · cases f1 : Pl.isVowel (Pl.byteAt s (s.size - 1))
          · cases f0 : Pl.endsAny s [⟨#[119]⟩, ⟨#[120]⟩, ⟨#[121]⟩]
            · go_wp2_with (first | (go_at_call 239; refine (isVowel_any _ (by omega) (by omega) _).mono ?_; rintro e w' ⟨rfl, rfl⟩) | (go_at_call 240; refine (ends_w _ _ hs0).mono ?_; rintro e w1 ⟨rfl, hb1⟩))
              all_goals go_meet
              all_goals (case rel => exact ⟨congrArg Value.bool (by rw [EK.out, f3, f2, f1, f0]; simp [hn]), below_step HB.out hb1⟩)
            · go_wp2_with (first | (go_at_call 239; refine (isVowel_any _ (by omega) (by omega) _).mono ?_; rintro e w' ⟨rfl, rfl⟩) | (go_at_call 240; refine (ends_w _ _ hs0).mono ?_; rintro e w1 ⟨rfl, hb1⟩))
              all_goals go_meet
              all_goals (case rel => exact ⟨congrArg Value.bool (by rw [EK.out, f0]; simp), below_step HB.out hb1⟩)
          · go_wp2_with (first | (go_at_call 239; refine (isVowel_any _ (by omega) (by omega) _).mono ?_; rintro e w' ⟨rfl, rfl⟩) | (go_at_call 240; refine (ends_w _ _ hs0).mono ?_; rintro e w1 ⟨rfl, hb1⟩))
            all_goals go_meet
            all_goals (case rel => exact ⟨congrArg Value.bool (by rw [EK.out, f1]; simp), HB.out⟩)
      · go_wp2_with (first | (go_at_call 239; refine (isVowel_any _ (by omega) (by omega) _).mono ?_; rintro e w' ⟨rfl, rfl⟩) | (go_at_call 240; refine (ends_w _ _ hs0).mono ?_; rintro e w1 ⟨rfl, hb1⟩))
        all_goals go_meet
        all_goals (case rel => exact ⟨congrArg Value.bool (by rw [EK.out, f3]; simp), HB.out⟩)
    · go_wp2_with (first | (go_at_call 239; refine (isVowel_any _ (by omega) (by omega) _).mono ?_; rintro e w' ⟨rfl, rfl⟩) | (go_at_call 240; refine (ends_w _ _ hs0).mono ?_; rintro e w1 ⟨rfl, hb1⟩))
      all_goals go_meet
      all_goals (case rel => exact ⟨congrArg Value.bool (by rw [EK.out]; simp [hn]), HB.out⟩)
  obtain ⟨rfl, HB0⟩ := hcut
  clear HB EK
  have HB := Lib.hid HB0
  clear HB0
  go_upto_region 4 with fail
  go_cut [62] (fun sx wx => sx = .bool (Pl.t1 s t) ∧ Below w.heap.size w wx)
  case first =>
    cases f1 : (t.toList == [115])
    · go_wp2_with fail
      all_goals go_meet
      all_goals (case rel => exact ⟨congrArg Value.bool (by simp [Pl.t1, f1]), HB.out⟩)
    · go_wp2_with fail
      all_goals go_meet
      all_goals (case rel => exact ⟨congrArg Value.bool (by simp [Pl.t1, f1]), HB.out⟩)
  obtain ⟨rfl, HB0⟩ := hcut
  clear HB
  have HB := Lib.hid HB0
  clear HB0
  cases h1 : Pl.t1 s t
  rotate_left
  · go_wp2
    go_ret
    exact ⟨ret_int (Pl.rule1 h1).symm, HB.out⟩
  go_upto_region 6 with fail
  go_cut [68] (fun sx wx => sx = .bool (Pl.t2 s t) ∧ Below w.heap.size w wx)
  case first =>
    cases f1 : (t.toList == [115])
    · go_wp2_with fail
      all_goals go_meet
      all_goals (case rel => exact ⟨congrArg Value.bool (by simp [Pl.t2, f1]), HB.out⟩)
    · go_wp2_with ((go_at_call 240; refine (ends_s _ _ hs0).mono ?_; rintro e w1 ⟨rfl, hb1⟩))
      all_goals go_meet
      all_goals (case rel => exact ⟨congrArg Value.bool (by simp [Pl.t2, f1]), below_step HB.out hb1⟩)
  obtain ⟨rfl, HB0⟩ := hcut
  clear HB
  have HB := Lib.hid HB0
  clear HB0
  cases h2 : Pl.t2 s t
  rotate_left
  · go_wp2
    go_ret
    exact ⟨ret_int (Pl.rule2 h1 h2).symm, HB.out⟩
  go_upto_region 8 with fail
  go_cut [76] (fun sx wx => sx = .bool (Pl.t3 s t) ∧ Below w.heap.size w wx)
  case first =>
    cases f1 : (t.toList == [105, 110, 103])
    · go_wp2_with fail
      all_goals go_meet
      all_goals (case rel => exact ⟨congrArg Value.bool (by simp [Pl.t3, f1]), HB.out⟩)
    · go_wp2_with ((go_at_call 240; refine (ends_i _ _ hs0).mono ?_; rintro e w1 ⟨rfl, hb1⟩))
      all_goals go_meet
      all_goals (case rel => exact ⟨congrArg Value.bool (by simp [Pl.t3, f1]), below_step HB.out hb1⟩)
  obtain ⟨rfl, HB0⟩ := hcut
  clear HB
  have HB := Lib.hid HB0
  clear HB0
  cases h3 : Pl.t3 s t
  rotate_left
  · go_wp2
    go_ret
    exact ⟨ret_int (Pl.rule3 h1 h2 h3).symm, HB.out⟩
  go_upto_region 10 with fail
  go_cut [7, 84] (fun sc sx wx => sc = .bool (Pl.consY s) ∧ sx = .bool (Pl.t4 s t) ∧ Below w.heap.size w wx)
  case first =>
    cases f1 : Pl.consY s
    · go_wp2_with fail
      all_goals go_meet
      all_goals (case rel => exact ⟨by rw [f1], congrArg Value.bool (by simp [Pl.t4, f1]), HB.out⟩)
    · go_wp2_with fail
      all_goals go_meet
      all_goals (case rel => exact ⟨by rw [f1], congrArg Value.bool (by simp [Pl.t4, f1]), HB.out⟩)
  obtain ⟨rfl, rfl, HB0⟩ := hcut
  clear HB
  have HB := Lib.hid HB0
  clear HB0
  cases h4 : Pl.t4 s t
  rotate_left
  · go_wp2
    go_ret
    exact ⟨ret_int (Pl.rule4 h1 h2 h3 h4).symm, HB.out⟩
  go_upto_region 12 with fail
  go_cut [91] (fun sx wx => sx = .bool (Pl.t5 s t) ∧ Below w.heap.size w wx)
  case first =>
    by_cases hn : 2 ≤ s.size
    · have dn : decide (2 ≤ s.size) = true := decide_eq_true hn
      cases f1 : Pl.endsAny s [⟨#[101]⟩]
      · go_wp2_with ((go_at_call 240; refine (ends_e _ _ hs0).mono ?_; rintro e w1 ⟨rfl, hb1⟩))
        all_goals go_meet
        all_goals (case rel => exact ⟨congrArg Value.bool (by simp [Pl.t5, f1]), below_step HB.out hb1⟩)
      · cases f2 : Pl.endsAny s [⟨#[101, 101]⟩, ⟨#[111, 101]⟩, ⟨#[121, 101]⟩]
        · go_wp2_with (first | (go_at_call 240; have hx2 := hb1; refine (ends_o _ _ hs0).mono ?_; rintro e w2 ⟨rfl, hb2⟩) | (go_at_call 240; refine (ends_e _ _ hs0).mono ?_; rintro e w1 ⟨rfl, hb1⟩))
          all_goals go_meet
          all_goals (case rel => exact ⟨congrArg Value.bool (by simp [Pl.t5, f1, f2, hn]), below_step (below_step HB.out hb1) hb2⟩)
        · go_wp2_with (first | (go_at_call 240; have hx2 := hb1; refine (ends_o _ _ hs0).mono ?_; rintro e w2 ⟨rfl, hb2⟩) | (go_at_call 240; refine (ends_e _ _ hs0).mono ?_; rintro e w1 ⟨rfl, hb1⟩))
          all_goals go_meet
          all_goals (case rel => exact ⟨congrArg Value.bool (by simp [Pl.t5, f1, f2, hn]), below_step (below_step HB.out hb1) hb2⟩)
    · go_wp2_with fail
      all_goals go_meet
      all_goals (case rel => exact ⟨congrArg Value.bool (by simp [Pl.t5, hn]), HB.out⟩)
  obtain ⟨rfl, HB0⟩ := hcut
  clear HB
  have HB := Lib.hid HB0
  clear HB0
  cases h5 : Pl.t5 s t
  rotate_left
  · go_wp2
    go_ret
    exact ⟨ret_int (Pl.rule5 h1 h2 h3 h4 h5).symm, HB.out⟩
  go_upto_region 14 with fail
  go_cut [8, 108] (fun sc sx wx => sc = .bool (Pl.closedB s) ∧ sx = .bool (Pl.t6 s t) ∧ Below w.heap.size w wx)
  case first =>
    cases f1 : (Pl.vowelGroups s == 1)
    · go_wp2_with ((go_at_call 241; refine (vowelGroups_any _ _ hs0).mono ?_; rintro e w' ⟨rfl, rfl⟩))
      all_goals go_meet
      all_goals (case rel => exact ⟨rfl, congrArg Value.bool (by simp [Pl.t6, f1]), HB.out⟩)
    · cases f2 : Pl.closedB s
      · go_wp2_with ((go_at_call 241; refine (vowelGroups_any _ _ hs0).mono ?_; rintro e w' ⟨rfl, rfl⟩))
        all_goals go_meet
        all_goals (case rel => exact ⟨by rw [f2], congrArg Value.bool (by simp [Pl.t6, f1, f2]), HB.out⟩)
      · go_wp2_with ((go_at_call 241; refine (vowelGroups_any _ _ hs0).mono ?_; rintro e w' ⟨rfl, rfl⟩))
        all_goals go_meet
        all_goals (case rel => exact ⟨by rw [f2], congrArg Value.bool (by simp [Pl.t6, f1, f2]), HB.out⟩)
  obtain ⟨rfl, rfl, HB0⟩ := hcut
  clear HB
  have HB := Lib.hid HB0
  clear HB0
  cases h6 : Pl.t6 s t
  rotate_left
  · go_wp2
    go_ret
    exact ⟨ret_int (Pl.rule6 h1 h2 h3 h4 h5 h6).symm, HB.out⟩
  · go_wp2
    go_ret
    exact ⟨ret_int (Pl.rule0 h1 h2 h3 h4 h5 h6).symm, HB.out⟩

end Go.Proofs.YtdidgaibgkdjoaaGreatDoor

namespace Go.Proofs.YtdidgaibgkdjoaaGreatDoor
open Go.RowKit

end Go.Proofs.YtdidgaibgkdjoaaGreatDoor

namespace Go.Proofs.YtdidgaibgkdjoaaGreatDoor
open Go.RowKit

set_option maxRecDepth 20000 in
set_option maxHeartbeats 1600000 in
theorem l9Join_any (s t : ByteArray) (w : World) (hs : s.size ≤ maxLen) (ht : t.size ≤ maxLen) (h1 : Pl.isWord s = true) (h2 : Pl.isWord t = true) :
    Calls Tryz.prog 180 #[.string s, .string t] w fun x w' => x = .returned (.string (Pl.join s t)) ∧ w = w' := by
  have z1 := Pl.isWord_size h1
  have z2 := Pl.isWord_size h2
  have HL := Lib.hid (l9Rule_any s t w hs ht z2.1)
  clear h1 h2 hs ht
  rcases Pl.rule_cases s t with hr | hr | hr | hr | hr | hr | hr
  · have hj := Lib.hid (Pl.join0 hr)
    have hq := hr
    (try have h3 := Pl.rule3_size hr)
    rw [hr] at HL
    clear hr
    go_enter Tryz.func180, Tryz.ntmps180
    go_wp2_with (go_at_call 200; refine HL.out.mono ?_; rintro e w' ⟨rfl, rfl⟩)
    all_goals go_ret
    all_goals exact ⟨ret_str hj.out.symm, rfl⟩
  · have hj := Lib.hid (Pl.join1 hr)
    have hq := hr
    (try have h3 := Pl.rule3_size hr)
    rw [hr] at HL
    clear hr
    go_enter Tryz.func180, Tryz.ntmps180
    go_wp2_with (go_at_call 200; refine HL.out.mono ?_; rintro e w' ⟨rfl, rfl⟩)
    all_goals go_ret
    all_goals exact ⟨ret_str hj.out.symm, rfl⟩
  · have hj := Lib.hid (Pl.join2 hr)
    have hq := hr
    (try have h3 := Pl.rule3_size hr)
    rw [hr] at HL
    clear hr
    go_enter Tryz.func180, Tryz.ntmps180
    go_wp2_with (go_at_call 200; refine HL.out.mono ?_; rintro e w' ⟨rfl, rfl⟩)
    all_goals go_ret
    all_goals exact ⟨ret_str hj.out.symm, rfl⟩
  · have hj := Lib.hid (Pl.join3 hr)
    have hq := hr
    (try have h3 := Pl.rule3_size hr)
    rw [hr] at HL
    clear hr
    go_enter Tryz.func180, Tryz.ntmps180
    go_wp2_with (go_at_call 200; refine HL.out.mono ?_; rintro e w' ⟨rfl, rfl⟩)
    all_goals go_ret
    all_goals exact ⟨ret_str hj.out.symm, rfl⟩
  · have hj := Lib.hid (Pl.join4 hr)
    have hq := hr
    (try have h3 := Pl.rule3_size hr)
    rw [hr] at HL
    clear hr
    go_enter Tryz.func180, Tryz.ntmps180
    go_wp2_with (go_at_call 200; refine HL.out.mono ?_; rintro e w' ⟨rfl, rfl⟩)
    all_goals go_ret
    all_goals exact ⟨ret_str hj.out.symm, rfl⟩
  · have hj := Lib.hid (Pl.join5 hr)
    have hq := hr
    (try have h3 := Pl.rule3_size hr)
    rw [hr] at HL
    clear hr
    go_enter Tryz.func180, Tryz.ntmps180
    go_wp2_with (go_at_call 200; refine HL.out.mono ?_; rintro e w' ⟨rfl, rfl⟩)
    all_goals go_ret
    all_goals exact ⟨ret_str hj.out.symm, rfl⟩
  · have hj := Lib.hid (Pl.join6 hr)
    have hq := hr
    (try have h3 := Pl.rule3_size hr)
    rw [hr] at HL
    clear hr
    go_enter Tryz.func180, Tryz.ntmps180
    go_wp2_with (go_at_call 200; refine HL.out.mono ?_; rintro e w' ⟨rfl, rfl⟩)
    all_goals go_ret
    all_goals exact ⟨ret_str hj.out.symm, rfl⟩

set_option maxRecDepth 20000 in
set_option maxHeartbeats 1600000 in
theorem specJoinSuffix_any (s t : ByteArray) (w : World) (hs : s.size ≤ maxLen) (ht : t.size ≤ maxLen) :
    Calls Tryz.prog 161 #[.string s, .string t] w fun x w' => x = .returned (.tuple #[.string (Pl.joinOut s t), .bool (Pl.joinOk s t)]) ∧ w = w' := by
  cases h1 : Pl.isWord s
  · have E := Lib.hid (Pl.join_bad (s := s) (t := t) (by rw [h1]; rfl))
    go_enter Tryz.func161, Tryz.ntmps161
    go_wp2_with (go_at_call 179; refine (l9Word_any _ _ ?_).mono ?_; (first | exact hs | exact ht); rintro e w' ⟨rfl, rfl⟩)
    all_goals go_ret2
    all_goals exact ⟨ret_strb E.out.1.symm E.out.2.symm, rfl⟩
  · cases h2 : Pl.isWord t
    · have E := Lib.hid (Pl.join_bad (s := s) (t := t) (by rw [h2, Bool.and_false]))
      go_enter Tryz.func161, Tryz.ntmps161
      go_wp2_with (go_at_call 179; refine (l9Word_any _ _ ?_).mono ?_; (first | exact hs | exact ht); rintro e w' ⟨rfl, rfl⟩)
      all_goals go_ret2
      all_goals exact ⟨ret_strb E.out.1.symm E.out.2.symm, rfl⟩
    · have HJ := Lib.hid (l9Join_any s t w hs ht h1 h2)
      generalize hx : Pl.join s t = x at HJ
      by_cases hz : x.size ≤ 24
      · have E := Lib.hid (Pl.join_yes h1 h2 hx hz)
        clear hx
        go_enter Tryz.func161, Tryz.ntmps161
        go_wp2_with (first | (go_at_call 179; refine (l9Word_any _ _ ?_).mono ?_; (first | exact hs | exact ht); rintro e w' ⟨rfl, rfl⟩) | (go_at_call 180; refine HJ.out.mono ?_; rintro e w' ⟨rfl, rfl⟩))
        all_goals go_ret2
        all_goals exact ⟨ret_strb E.out.1.symm E.out.2.symm, rfl⟩
      · have E := Lib.hid (Pl.join_no hx hz)
        clear hx
        go_enter Tryz.func161, Tryz.ntmps161
        go_wp2_with (first | (go_at_call 179; refine (l9Word_any _ _ ?_).mono ?_; (first | exact hs | exact ht); rintro e w' ⟨rfl, rfl⟩) | (go_at_call 180; refine HJ.out.mono ?_; rintro e w' ⟨rfl, rfl⟩))
        all_goals go_ret2
        all_goals exact ⟨ret_strb E.out.1.symm E.out.2.symm, rfl⟩

set_option maxRecDepth 20000 in
set_option maxHeartbeats 3200000 in
theorem JoinSuffix_any (s t : ByteArray) (w : World) (hs : s.size ≤ maxLen) (ht : t.size ≤ maxLen) :
    Calls Tryz.prog 235 #[.string s, .string t] w fun x w' => x = .returned (.tuple #[.string (Pl.joinOut s t), .bool (Pl.joinOk s t)]) ∧ Below w.heap.size w w' := by
  cases h1 : Pl.isWord s
  · have E := Lib.hid (Pl.join_bad (s := s) (t := t) (by rw [h1]; rfl))
    go_enter Tryz.func235, Tryz.ntmps235
    go_wp2_with (go_at_call 237; refine (IsWord_any _ _ ?_).mono ?_; (first | exact hs | exact ht); rintro e w' ⟨rfl, rfl⟩)
    all_goals go_ret2
    all_goals exact ⟨ret_strb E.out.1.symm E.out.2.symm, Below.refl _ _⟩
  cases h2 : Pl.isWord t
  · have E := Lib.hid (Pl.join_bad (s := s) (t := t) (by rw [h2, Bool.and_false]))
    go_enter Tryz.func235, Tryz.ntmps235
    go_wp2_with (go_at_call 237; refine (IsWord_any _ _ ?_).mono ?_; (first | exact hs | exact ht); rintro e w' ⟨rfl, rfl⟩)
    all_goals go_ret2
    all_goals exact ⟨ret_strb E.out.1.symm E.out.2.symm, Below.refl _ _⟩
  have z1 := Pl.isWord_size h1
  have z2 := Pl.isWord_size h2
  have HR := Lib.hid (rule_any s t w hs ht z2.1)
  rcases Pl.rule_cases s t with hr | hr | hr | hr | hr | hr | hr
  · have hj := Pl.join0 hr
    (try have h3 := Pl.rule3_size hr)
    rw [hr] at HR
    clear hr
    by_cases hz : (s ++ t).size ≤ 24
    · have E := Lib.hid (Pl.join_yes h1 h2 hj hz)
      have hz2 := hz
      simp only [ByteArray.size_append] at hz2
      (try simp only [ByteArray.size_extract] at hz2)
      clear hj
      go_enter Tryz.func235, Tryz.ntmps235
      go_wp2_with (first | (go_at_call 237; refine (IsWord_any _ _ ?_).mono ?_; (first | exact hs | exact ht); rintro e w' ⟨rfl, rfl⟩) | (go_at_call 238; refine HR.out.mono ?_; rintro e w1 ⟨rfl, hb1⟩))
      all_goals go_ret2
      all_goals first | exact ⟨ret_strb E.out.1.symm E.out.2.symm, hb1⟩ | (exfalso; have k1 : (⟨#[105, 101, 115]⟩ : ByteArray).size = 3 := rfl; have k2 : (⟨#[101, 115]⟩ : ByteArray).size = 2 := rfl; have k3 : (⟨#[121, 105, 110, 103]⟩ : ByteArray).size = 4 := rfl; have k4 : (⟨#[105]⟩ : ByteArray).size = 1 := rfl; omega)
    · have E := Lib.hid (Pl.join_no hj hz)
      have hz2 := hz
      simp only [ByteArray.size_append] at hz2
      (try simp only [ByteArray.size_extract] at hz2)
      clear hj
      go_enter Tryz.func235, Tryz.ntmps235
      go_wp2_with (first | (go_at_call 237; refine (IsWord_any _ _ ?_).mono ?_; (first | exact hs | exact ht); rintro e w' ⟨rfl, rfl⟩) | (go_at_call 238; refine HR.out.mono ?_; rintro e w1 ⟨rfl, hb1⟩))
      all_goals go_ret2
      all_goals first | exact ⟨ret_strb E.out.1.symm E.out.2.symm, hb1⟩ | (exfalso; have k1 : (⟨#[105, 101, 115]⟩ : ByteArray).size = 3 := rfl; have k2 : (⟨#[101, 115]⟩ : ByteArray).size = 2 := rfl; have k3 : (⟨#[121, 105, 110, 103]⟩ : ByteArray).size = 4 := rfl; have k4 : (⟨#[105]⟩ : ByteArray).size = 1 := rfl; omega)
  · have hj := Pl.join1 hr
    (try have h3 := Pl.rule3_size hr)
    rw [hr] at HR
    clear hr
    by_cases hz : (s.extract 0 (s.size - 1) ++ ⟨#[105, 101, 115]⟩).size ≤ 24
    · have E := Lib.hid (Pl.join_yes h1 h2 hj hz)
      have hz2 := hz
      simp only [ByteArray.size_append] at hz2
      (try simp only [ByteArray.size_extract] at hz2)
      clear hj
      go_enter Tryz.func235, Tryz.ntmps235
      go_wp2_with (first | (go_at_call 237; refine (IsWord_any _ _ ?_).mono ?_; (first | exact hs | exact ht); rintro e w' ⟨rfl, rfl⟩) | (go_at_call 238; refine HR.out.mono ?_; rintro e w1 ⟨rfl, hb1⟩))
      all_goals go_ret2
      all_goals first | exact ⟨ret_strb E.out.1.symm E.out.2.symm, hb1⟩ | (exfalso; have k1 : (⟨#[105, 101, 115]⟩ : ByteArray).size = 3 := rfl; have k2 : (⟨#[101, 115]⟩ : ByteArray).size = 2 := rfl; have k3 : (⟨#[121, 105, 110, 103]⟩ : ByteArray).size = 4 := rfl; have k4 : (⟨#[105]⟩ : ByteArray).size = 1 := rfl; omega)
    · have E := Lib.hid (Pl.join_no hj hz)
      have hz2 := hz
      simp only [ByteArray.size_append] at hz2
      (try simp only [ByteArray.size_extract] at hz2)
      clear hj
      go_enter Tryz.func235, Tryz.ntmps235
      go_wp2_with (first | (go_at_call 237; refine (IsWord_any _ _ ?_).mono ?_; (first | exact hs | exact ht); rintro e w' ⟨rfl, rfl⟩) | (go_at_call 238; refine HR.out.mono ?_; rintro e w1 ⟨rfl, hb1⟩))
      all_goals go_ret2
      all_goals first | exact ⟨ret_strb E.out.1.symm E.out.2.symm, hb1⟩ | (exfalso; have k1 : (⟨#[105, 101, 115]⟩ : ByteArray).size = 3 := rfl; have k2 : (⟨#[101, 115]⟩ : ByteArray).size = 2 := rfl; have k3 : (⟨#[121, 105, 110, 103]⟩ : ByteArray).size = 4 := rfl; have k4 : (⟨#[105]⟩ : ByteArray).size = 1 := rfl; omega)
  · have hj := Pl.join2 hr
    (try have h3 := Pl.rule3_size hr)
    rw [hr] at HR
    clear hr
    by_cases hz : (s ++ ⟨#[101, 115]⟩).size ≤ 24
    · have E := Lib.hid (Pl.join_yes h1 h2 hj hz)
      have hz2 := hz
      simp only [ByteArray.size_append] at hz2
      (try simp only [ByteArray.size_extract] at hz2)
      clear hj
      go_enter Tryz.func235, Tryz.ntmps235
      go_wp2_with (first | (go_at_call 237; refine (IsWord_any _ _ ?_).mono ?_; (first | exact hs | exact ht); rintro e w' ⟨rfl, rfl⟩) | (go_at_call 238; refine HR.out.mono ?_; rintro e w1 ⟨rfl, hb1⟩))
      all_goals go_ret2
      all_goals first | exact ⟨ret_strb E.out.1.symm E.out.2.symm, hb1⟩ | (exfalso; have k1 : (⟨#[105, 101, 115]⟩ : ByteArray).size = 3 := rfl; have k2 : (⟨#[101, 115]⟩ : ByteArray).size = 2 := rfl; have k3 : (⟨#[121, 105, 110, 103]⟩ : ByteArray).size = 4 := rfl; have k4 : (⟨#[105]⟩ : ByteArray).size = 1 := rfl; omega)
    · have E := Lib.hid (Pl.join_no hj hz)
      have hz2 := hz
      simp only [ByteArray.size_append] at hz2
      (try simp only [ByteArray.size_extract] at hz2)
      clear hj
      go_enter Tryz.func235, Tryz.ntmps235
      go_wp2_with (first | (go_at_call 237; refine (IsWord_any _ _ ?_).mono ?_; (first | exact hs | exact ht); rintro e w' ⟨rfl, rfl⟩) | (go_at_call 238; refine HR.out.mono ?_; rintro e w1 ⟨rfl, hb1⟩))
      all_goals go_ret2
      all_goals first | exact ⟨ret_strb E.out.1.symm E.out.2.symm, hb1⟩ | (exfalso; have k1 : (⟨#[105, 101, 115]⟩ : ByteArray).size = 3 := rfl; have k2 : (⟨#[101, 115]⟩ : ByteArray).size = 2 := rfl; have k3 : (⟨#[121, 105, 110, 103]⟩ : ByteArray).size = 4 := rfl; have k4 : (⟨#[105]⟩ : ByteArray).size = 1 := rfl; omega)
  · have hj := Pl.join3 hr
    (try have h3 := Pl.rule3_size hr)
    rw [hr] at HR
    clear hr
    by_cases hz : (s.extract 0 (s.size - 2) ++ ⟨#[121, 105, 110, 103]⟩).size ≤ 24
    · have E := Lib.hid (Pl.join_yes h1 h2 hj hz)
      have hz2 := hz
      simp only [ByteArray.size_append] at hz2
      (try simp only [ByteArray.size_extract] at hz2)
      clear hj
      go_enter Tryz.func235, Tryz.ntmps235
      go_wp2_with (first | (go_at_call 237; refine (IsWord_any _ _ ?_).mono ?_; (first | exact hs | exact ht); rintro e w' ⟨rfl, rfl⟩) | (go_at_call 238; refine HR.out.mono ?_; rintro e w1 ⟨rfl, hb1⟩))
      all_goals go_ret2
      all_goals first | exact ⟨ret_strb E.out.1.symm E.out.2.symm, hb1⟩ | (exfalso; have k1 : (⟨#[105, 101, 115]⟩ : ByteArray).size = 3 := rfl; have k2 : (⟨#[101, 115]⟩ : ByteArray).size = 2 := rfl; have k3 : (⟨#[121, 105, 110, 103]⟩ : ByteArray).size = 4 := rfl; have k4 : (⟨#[105]⟩ : ByteArray).size = 1 := rfl; omega)
    · have E := Lib.hid (Pl.join_no hj hz)
      have hz2 := hz
      simp only [ByteArray.size_append] at hz2
      (try simp only [ByteArray.size_extract] at hz2)
      clear hj
      go_enter Tryz.func235, Tryz.ntmps235
      go_wp2_with (first | (go_at_call 237; refine (IsWord_any _ _ ?_).mono ?_; (first | exact hs | exact ht); rintro e w' ⟨rfl, rfl⟩) | (go_at_call 238; refine HR.out.mono ?_; rintro e w1 ⟨rfl, hb1⟩))
      all_goals go_ret2
      all_goals first | exact ⟨ret_strb E.out.1.symm E.out.2.symm, hb1⟩ | (exfalso; have k1 : (⟨#[105, 101, 115]⟩ : ByteArray).size = 3 := rfl; have k2 : (⟨#[101, 115]⟩ : ByteArray).size = 2 := rfl; have k3 : (⟨#[121, 105, 110, 103]⟩ : ByteArray).size = 4 := rfl; have k4 : (⟨#[105]⟩ : ByteArray).size = 1 := rfl; omega)
  · have hj := Pl.join4 hr
    (try have h3 := Pl.rule3_size hr)
    rw [hr] at HR
    clear hr
    by_cases hz : (s.extract 0 (s.size - 1) ++ ⟨#[105]⟩ ++ t).size ≤ 24
    · have E := Lib.hid (Pl.join_yes h1 h2 hj hz)
      have hz2 := hz
      simp only [ByteArray.size_append] at hz2
      (try simp only [ByteArray.size_extract] at hz2)
      clear hj
      go_enter Tryz.func235, Tryz.ntmps235
      go_wp2_with (first | (go_at_call 237; refine (IsWord_any _ _ ?_).mono ?_; (first | exact hs | exact ht); rintro e w' ⟨rfl, rfl⟩) | (go_at_call 238; refine HR.out.mono ?_; rintro e w1 ⟨rfl, hb1⟩))
      all_goals go_ret2
      all_goals first | exact ⟨ret_strb E.out.1.symm E.out.2.symm, hb1⟩ | (exfalso; have k1 : (⟨#[105, 101, 115]⟩ : ByteArray).size = 3 := rfl; have k2 : (⟨#[101, 115]⟩ : ByteArray).size = 2 := rfl; have k3 : (⟨#[121, 105, 110, 103]⟩ : ByteArray).size = 4 := rfl; have k4 : (⟨#[105]⟩ : ByteArray).size = 1 := rfl; omega)
    · have E := Lib.hid (Pl.join_no hj hz)
      have hz2 := hz
      simp only [ByteArray.size_append] at hz2
      (try simp only [ByteArray.size_extract] at hz2)
      clear hj
      go_enter Tryz.func235, Tryz.ntmps235
      go_wp2_with (first | (go_at_call 237; refine (IsWord_any _ _ ?_).mono ?_; (first | exact hs | exact ht); rintro e w' ⟨rfl, rfl⟩) | (go_at_call 238; refine HR.out.mono ?_; rintro e w1 ⟨rfl, hb1⟩))
      all_goals go_ret2
      all_goals first | exact ⟨ret_strb E.out.1.symm E.out.2.symm, hb1⟩ | (exfalso; have k1 : (⟨#[105, 101, 115]⟩ : ByteArray).size = 3 := rfl; have k2 : (⟨#[101, 115]⟩ : ByteArray).size = 2 := rfl; have k3 : (⟨#[121, 105, 110, 103]⟩ : ByteArray).size = 4 := rfl; have k4 : (⟨#[105]⟩ : ByteArray).size = 1 := rfl; omega)
  · have hj := Pl.join5 hr
    (try have h3 := Pl.rule3_size hr)
    rw [hr] at HR
    clear hr
    by_cases hz : (s.extract 0 (s.size - 1) ++ t).size ≤ 24
    · have E := Lib.hid (Pl.join_yes h1 h2 hj hz)
      have hz2 := hz
      simp only [ByteArray.size_append] at hz2
      (try simp only [ByteArray.size_extract] at hz2)
      clear hj
      go_enter Tryz.func235, Tryz.ntmps235
      go_wp2_with (first | (go_at_call 237; refine (IsWord_any _ _ ?_).mono ?_; (first | exact hs | exact ht); rintro e w' ⟨rfl, rfl⟩) | (go_at_call 238; refine HR.out.mono ?_; rintro e w1 ⟨rfl, hb1⟩))
      all_goals go_ret2
      all_goals first | exact ⟨ret_strb E.out.1.symm E.out.2.symm, hb1⟩ | (exfalso; have k1 : (⟨#[105, 101, 115]⟩ : ByteArray).size = 3 := rfl; have k2 : (⟨#[101, 115]⟩ : ByteArray).size = 2 := rfl; have k3 : (⟨#[121, 105, 110, 103]⟩ : ByteArray).size = 4 := rfl; have k4 : (⟨#[105]⟩ : ByteArray).size = 1 := rfl; omega)
    · have E := Lib.hid (Pl.join_no hj hz)
      have hz2 := hz
      simp only [ByteArray.size_append] at hz2
      (try simp only [ByteArray.size_extract] at hz2)
      clear hj
      go_enter Tryz.func235, Tryz.ntmps235
      go_wp2_with (first | (go_at_call 237; refine (IsWord_any _ _ ?_).mono ?_; (first | exact hs | exact ht); rintro e w' ⟨rfl, rfl⟩) | (go_at_call 238; refine HR.out.mono ?_; rintro e w1 ⟨rfl, hb1⟩))
      all_goals go_ret2
      all_goals first | exact ⟨ret_strb E.out.1.symm E.out.2.symm, hb1⟩ | (exfalso; have k1 : (⟨#[105, 101, 115]⟩ : ByteArray).size = 3 := rfl; have k2 : (⟨#[101, 115]⟩ : ByteArray).size = 2 := rfl; have k3 : (⟨#[121, 105, 110, 103]⟩ : ByteArray).size = 4 := rfl; have k4 : (⟨#[105]⟩ : ByteArray).size = 1 := rfl; omega)
  · have hj := Pl.join6 hr
    (try have h3 := Pl.rule3_size hr)
    rw [hr] at HR
    clear hr
    by_cases hz : (s ++ s.extract (s.size - 1) s.size ++ t).size ≤ 24
    · have E := Lib.hid (Pl.join_yes h1 h2 hj hz)
      have hz2 := hz
      simp only [ByteArray.size_append] at hz2
      (try simp only [ByteArray.size_extract] at hz2)
      clear hj
      go_enter Tryz.func235, Tryz.ntmps235
      go_wp2_with (first | (go_at_call 237; refine (IsWord_any _ _ ?_).mono ?_; (first | exact hs | exact ht); rintro e w' ⟨rfl, rfl⟩) | (go_at_call 238; refine HR.out.mono ?_; rintro e w1 ⟨rfl, hb1⟩))
      all_goals go_ret2
      all_goals first | exact ⟨ret_strb E.out.1.symm E.out.2.symm, hb1⟩ | (exfalso; have k1 : (⟨#[105, 101, 115]⟩ : ByteArray).size = 3 := rfl; have k2 : (⟨#[101, 115]⟩ : ByteArray).size = 2 := rfl; have k3 : (⟨#[121, 105, 110, 103]⟩ : ByteArray).size = 4 := rfl; have k4 : (⟨#[105]⟩ : ByteArray).size = 1 := rfl; omega)
    · have E := Lib.hid (Pl.join_no hj hz)
      have hz2 := hz
      simp only [ByteArray.size_append] at hz2
      (try simp only [ByteArray.size_extract] at hz2)
      clear hj
      go_enter Tryz.func235, Tryz.ntmps235
      go_wp2_with (first | (go_at_call 237; refine (IsWord_any _ _ ?_).mono ?_; (first | exact hs | exact ht); rintro e w' ⟨rfl, rfl⟩) | (go_at_call 238; refine HR.out.mono ?_; rintro e w1 ⟨rfl, hb1⟩))
      all_goals go_ret2
      all_goals first | exact ⟨ret_strb E.out.1.symm E.out.2.symm, hb1⟩ | (exfalso; have k1 : (⟨#[105, 101, 115]⟩ : ByteArray).size = 3 := rfl; have k2 : (⟨#[101, 115]⟩ : ByteArray).size = 2 := rfl; have k3 : (⟨#[121, 105, 110, 103]⟩ : ByteArray).size = 4 := rfl; have k4 : (⟨#[105]⟩ : ByteArray).size = 1 := rfl; omega)

end Go.Proofs.YtdidgaibgkdjoaaGreatDoor

namespace Go.Proofs.YtdidgaibgkdjoaaGreatDoor
open Go.RowKit

set_option maxHeartbeats 400000 in
theorem IsValidState_any (t : ByteArray) (j g : Bool) (c k : Int) (w : World) (hs : t.size ≤ maxLen) :
    Calls Tryz.prog 187 #[.agg #[.string t, .bool j, .bool g, .int .i64 c, .int .i64 k]] w fun e w' => e = .returned (.bool (Pl.validState t c k)) ∧ Below w.heap.size w w' := by
  have hs' := hs
  unfold maxLen at hs
  go_enter Tryz.func187, Tryz.ntmps187
  go_wp2_with (first | (go_at_call 113; refine (in_any _ _ _ _).mono ?_; rintro e w' ⟨rfl, rfl⟩) | (go_at_call 207; refine (isPrintable_any _ _ hs').mono ?_; rintro e w' ⟨rfl, rfl⟩))
  all_goals go_ret
  all_goals exact ⟨ret_bool (by simp_all [Pl.validState]; try omega), (by repeat (first | with_reducible exact Below.refl _ _ | with_reducible assumption | with_reducible refine Below.alloc ?_ ?_ _ | with_reducible refine Below.setCell ?_ ?_ _ | with_reducible refine Below.drew ?_ | with_reducible refine below_drewN ?_ _ | with_reducible refine Below.trans ?_ (Below.mono (by assumption) ?_) | omega | ((repeat (first | rw [World.size_alloc] | rw [size_setCell] | rw [size_drewN] | rw [size_drew])); omega) | exact Nat.le_refl _ | (dsimp only; omega) | (simp [World.setCell]; omega)))⟩

set_option maxHeartbeats 400000 in
theorem l12Good_any (t : ByteArray) (j g : Bool) (c k : Int) (w : World) (hs : t.size ≤ maxLen) :
    Calls Tryz.prog 128 #[.agg #[.string t, .bool j, .bool g, .int .i64 c, .int .i64 k]] w fun e w' => e = .returned (.bool (Pl.validState t c k)) ∧ Below w.heap.size w w' := by
  have hs' := hs
  unfold maxLen at hs
  go_enter Tryz.func128, Tryz.ntmps128
  go_wp2_with (first | (go_at_call 117; refine (l1In_any _ _ _ _).mono ?_; rintro e w' ⟨rfl, rfl⟩) | (go_at_call 163; refine (l12Plain_any _ _ hs').mono ?_; rintro e w' ⟨rfl, rfl⟩))
  all_goals go_ret
  all_goals exact ⟨ret_bool (by simp_all [Pl.validState]; try omega), (by repeat (first | with_reducible exact Below.refl _ _ | with_reducible assumption | with_reducible refine Below.alloc ?_ ?_ _ | with_reducible refine Below.setCell ?_ ?_ _ | with_reducible refine Below.drew ?_ | with_reducible refine below_drewN ?_ _ | with_reducible refine Below.trans ?_ (Below.mono (by assumption) ?_) | omega | ((repeat (first | rw [World.size_alloc] | rw [size_setCell] | rw [size_drewN] | rw [size_drew])); omega) | exact Nat.le_refl _ | (dsimp only; omega) | (simp [World.setCell]; omega)))⟩

set_option maxHeartbeats 400000 in
theorem l12New_any (t : ByteArray) (w : World) :
    Calls Tryz.prog 124 #[.string t] w fun e w' => e = .returned (.agg #[.string t, .bool t.toList.isEmpty, .bool false, .int .i64 0, .int .i64 t.size]) ∧ Below w.heap.size w w' := by
  go_enter Tryz.func124, Tryz.ntmps124
  go_wp2
  exact bodyPost_ret (v := .agg #[.string t, .bool t.toList.isEmpty, .bool false, .int .i64 0, .int .i64 t.size]) (by simp [results, Tryz.results124, go_sem, *]) rfl ⟨rfl, (by repeat (first | with_reducible exact Below.refl _ _ | with_reducible assumption | with_reducible refine Below.alloc ?_ ?_ _ | with_reducible refine Below.setCell ?_ ?_ _ | with_reducible refine Below.drew ?_ | with_reducible refine below_drewN ?_ _ | with_reducible refine Below.trans ?_ (Below.mono (by assumption) ?_) | omega | ((repeat (first | rw [World.size_alloc] | rw [size_setCell] | rw [size_drewN] | rw [size_drew])); omega) | exact Nat.le_refl _ | (dsimp only; omega) | (simp [World.setCell]; omega)))⟩

end Go.Proofs.YtdidgaibgkdjoaaGreatDoor

namespace Go.Proofs.YtdidgaibgkdjoaaGreatDoor
open Go.RowKit

theorem Pl.allB_of_bad (p : Int → Bool) (s : ByteArray) (k : Nat) (h : k < s.size) (hb : p (s[k].toNat : Int) = false) : (s.data.toList.all fun c => p (c.toNat : Int)) = false := by
  rw [List.all_eq_false]
  refine ⟨s[k], ?_, by rw [hb]; simp⟩
  have : s[k] = s.data.toList[k]'(by simpa using h) := rfl
  rw [this]; exact List.getElem_mem _
theorem Pl.allB_take_ok (p : Int → Bool) (s : ByteArray) (k : Nat) (h : k < s.size) (ha : ((s.data.toList.take k).all fun c => p (c.toNat : Int)) = true) (hb : p (s[k].toNat : Int) = true) : ((s.data.toList.take (k + 1)).all fun c => p (c.toNat : Int)) = true := by
  have e : s.data.toList.take (k + 1) = s.data.toList.take k ++ [s[k]] := by
    rw [List.take_succ_eq_append_getElem (by simpa using h)]; rfl
  rw [e, List.all_append, ha]; simp [hb]
theorem Pl.allB_take_all (p : Int → Bool) (s : ByteArray) (k : Nat) (h : s.size ≤ k) (ha : ((s.data.toList.take k).all fun c => p (c.toNat : Int)) = true) : (s.data.toList.all fun c => p (c.toNat : Int)) = true := by
  rwa [List.take_of_length_le (by simpa using h)] at ha

theorem Pl.bad_index_byte (b : UInt8) : decide (0 ≤ Lib.indexByte [123, 125, 94, 38, 35, 62] b) = (b == 123 || b == 125 || b == 94 || b == 38 || b == 35 || b == 62) := by
  have key : ∀ n, n < 256 → decide (0 ≤ Lib.indexByte [123, 125, 94, 38, 35, 62] (UInt8.ofNat n)) = (UInt8.ofNat n == 123 || UInt8.ofNat n == 125 || UInt8.ofNat n == 94 || UInt8.ofNat n == 38 || UInt8.ofNat n == 35 || UInt8.ofNat n == 62) := by decide +kernel
  have h := key b.toNat b.toNat_lt
  rwa [UInt8.ofNat_toNat] at h
theorem Pl.bad_index (c : Int) (h0 : 0 ≤ c) (h1 : c < 256) : Pl.badB c = decide (0 ≤ Lib.indexByte [123, 125, 94, 38, 35, 62] c.toNat.toUInt8) := by
  obtain ⟨n, rfl⟩ := Int.eq_ofNat_of_zero_le h0
  have hn : n < 256 := by omega
  have ht : (n.toUInt8).toNat = n := by simp; omega
  rw [Int.toNat_natCast, Pl.bad_index_byte]
  have e : ∀ k : UInt8, (n.toUInt8 == k) = decide ((n : Int) = (k.toNat : Int)) := fun k => by
    rw [Bool.eq_iff_iff, beq_iff_eq, decide_eq_true_iff]
    constructor
    · intro h; rw [← h, ht]
    · intro h; exact UInt8.toNat.inj (by omega)
  simp [Pl.badB, e, Bool.beq_eq_decide_eq]
theorem Pl.bad_index' (b : UInt8) : Pl.badB (b.toNat : Int) = decide (0 ≤ Lib.indexByte [123, 125, 94, 38, 35, 62] b) := by
  have h := Pl.bad_index (b.toNat : Int) (by omega) (by have := b.toNat_lt; omega)
  simpa using h
theorem Pl.good_no {c : Int} (h : c < 33 ∨ 126 < c ∨ Pl.badB c = true) : Pl.goodB c = false := by
  unfold Pl.goodB
  rcases h with h | h | h
  · rw [decide_eq_false (by omega)]; rfl
  · rw [decide_eq_false (p := c ≤ 126) (by omega)]; simp
  · rw [h]; simp
theorem Pl.good_yes {c : Int} (h1 : 33 ≤ c) (h2 : c ≤ 126) (h : Pl.badB c = false) : Pl.goodB c = true := by
  unfold Pl.goodB
  rw [h, decide_eq_true h1, decide_eq_true h2]; rfl
theorem Pl.wordT_no {s : ByteArray} (k : Nat) (h : k < s.size) (hb : Pl.goodB (s[k].toNat : Int) = false) : Pl.wordT s = false := by
  unfold Pl.wordT Pl.allGood; rw [Pl.allB_of_bad Pl.goodB s k h hb]; rfl
theorem Pl.wordT_in {s : ByteArray} (h : Pl.allGood s.data.toList = true) : Pl.wordT s = Pl.inB s.size 1 20 := by
  unfold Pl.wordT; rw [h]; rfl

set_option maxRecDepth 20000 in
set_option maxHeartbeats 800000 in
theorem isWordText_any (s : ByteArray) (w : World) (hs : s.size ≤ maxLen) :
    Calls Tryz.prog 212 #[.string s] w fun e w' => e = .returned (.bool (Pl.wordT s)) ∧ w = w' := by
  unfold maxLen at hs
  go_enter Tryz.func212, Tryz.ntmps212
  go_wp2
  go_loop [6] (fun i => ∃ k : Nat, k ≤ s.size ∧ i = .int .i64 k ∧ Hid (Pl.allGood (s.data.toList.take k) = true)) (fun i => s.size - (intOf i).toNat)
  case atStart => exact ⟨0, Nat.zero_le _, rfl, Lib.hid rfl⟩
  case round =>
    obtain ⟨k, hk, rfl, HA⟩ := hrel
    by_cases hlt : k < s.size
    · have hbd : (s[k].toNat : Int) < 256 := by have := s[k].toNat_lt; omega
      have HI := Lib.hid (Pl.bad_index' s[k])
      by_cases h1 : s[k].toNat < 33 ∨ 126 < s[k].toNat
      · have HV := Lib.hid (Pl.wordT_no k hlt (Pl.good_no (by omega)))
        clear HI HA
        by_cases h2 : s[k].toNat < 33
        · clear h1
          go_wp2
          go_ret
          exact ⟨ret_bool HV.out.symm, rfl⟩
        · have h3 : 126 < s[k].toNat := by omega
          clear h1
          go_wp2
          go_ret
          exact ⟨ret_bool HV.out.symm, rfl⟩
      · have h2 : 33 ≤ s[k].toNat ∧ s[k].toNat ≤ 126 := by omega
        clear h1
        cases hb : Pl.badB s[k].toNat
        · have HG := Lib.hid (Pl.good_yes (by omega) (by omega) hb)
          rw [hb] at HI
          go_wp2_with (go_at_call 230; refine (Tryz.strings_IndexByte _ _ _).mono ?_; rintro e w' ⟨rfl, rfl⟩; have hx := of_decide_eq_false HI.out.symm)
          go_round
          case rel => exact ⟨k + 1, by omega, by go_num, Lib.hid (Pl.allB_take_ok Pl.goodB s k hlt HA.out HG.out)⟩
          case measure => simp [intOf]; omega
        · have HV := Lib.hid (Pl.wordT_no k hlt (Pl.good_no (.inr (.inr hb))))
          rw [hb] at HI
          go_wp2_with (go_at_call 230; refine (Tryz.strings_IndexByte _ _ _).mono ?_; rintro e w' ⟨rfl, rfl⟩; have hx := of_decide_eq_true HI.out.symm)
          all_goals go_ret
          all_goals exact ⟨ret_bool HV.out.symm, rfl⟩
    · have HT := Lib.hid (Pl.wordT_in (Pl.allB_take_all Pl.goodB s k (by omega) HA.out))
      go_wp2_with ((go_at_call 113; refine (in_any _ _ _ _).mono ?_; rintro e w' ⟨rfl, rfl⟩))
      go_ret
      exact ⟨ret_bool HT.out.symm, rfl⟩

theorem bF' {x y : Int} (h : (x == y) = false) : ¬ x = y := by simpa using h

set_option maxRecDepth 20000 in
set_option maxHeartbeats 800000 in
theorem l5Word_any (s : ByteArray) (w : World) (hs : s.size ≤ maxLen) :
    Calls Tryz.prog 159 #[.string s] w fun e w' => e = .returned (.bool (Pl.wordT s)) ∧ w = w' := by
  unfold maxLen at hs
  go_enter Tryz.func159, Tryz.ntmps159
  go_wp2
  go_loop [3] (fun i => ∃ k : Nat, k ≤ s.size ∧ i = .int .i64 k ∧ Hid (Pl.allGood (s.data.toList.take k) = true)) (fun i => s.size - (intOf i).toNat)
  case atStart => exact ⟨0, Nat.zero_le _, rfl, Lib.hid rfl⟩
  case round =>
    obtain ⟨k, hk, rfl, HA⟩ := hrel
    by_cases hlt : k < s.size
    · have hbd : (s[k].toNat : Int) < 256 := by have := s[k].toNat_lt; omega
      by_cases h1 : s[k].toNat < 33 ∨ 126 < s[k].toNat
      · have HV := Lib.hid (Pl.wordT_no k hlt (Pl.good_no (by omega)))
        have hi : Pl.inB s[k].toNat 33 126 = false := by simp [Pl.inB]; omega
        go_wp2_with ((go_at_call 117; refine (l1In_any _ _ _ _).mono ?_; rintro e w' ⟨rfl, rfl⟩))
        all_goals go_ret
        all_goals exact ⟨ret_bool HV.out.symm, rfl⟩
      · have h2 : 33 ≤ s[k].toNat ∧ s[k].toNat ≤ 126 := by omega
        clear h1
        have hi : Pl.inB s[k].toNat 33 126 = true := by simp [Pl.inB]; omega
        cases hb : Pl.badB s[k].toNat
        · have HG := Lib.hid (Pl.good_yes (by omega) (by omega) hb)
          simp only [Pl.badB, Bool.or_eq_false_iff] at hb
          obtain ⟨⟨⟨⟨⟨b1, b2⟩, b3⟩, b4⟩, b5⟩, b6⟩ := hb
          have c1 := bF' b1; have c2 := bF' b2; have c3 := bF' b3; have c4 := bF' b4; have c5 := bF' b5; have c6 := bF' b6
          go_wp2_with ((go_at_call 117; refine (l1In_any _ _ _ _).mono ?_; rintro e w' ⟨rfl, rfl⟩))
          go_round
          case rel => exact ⟨k + 1, by omega, by go_num, Lib.hid (Pl.allB_take_ok Pl.goodB s k hlt HA.out HG.out)⟩
          case measure => simp [intOf]; omega
        · have HV := Lib.hid (Pl.wordT_no k hlt (Pl.good_no (.inr (.inr hb))))
          simp only [Pl.badB, Bool.or_eq_true, beq_iff_eq] at hb
          rcases hb with ((((hb | hb) | hb) | hb) | hb) | hb
          all_goals go_wp2_with ((go_at_call 117; refine (l1In_any _ _ _ _).mono ?_; rintro e w' ⟨rfl, rfl⟩))
          all_goals go_ret
          all_goals exact ⟨ret_bool HV.out.symm, rfl⟩
    · have HT := Lib.hid (Pl.wordT_in (Pl.allB_take_all Pl.goodB s k (by omega) HA.out))
      go_wp2_with ((go_at_call 117; refine (l1In_any _ _ _ _).mono ?_; rintro e w' ⟨rfl, rfl⟩))
      go_ret
      exact ⟨ret_bool HT.out.symm, rfl⟩

theorem Pl.enc_one (n : Nat) (h : n < 128) : Utf8.encode (n : Int) = ⟨#[UInt8.ofNat n]⟩ := by
  have hv : Utf8.valid (n : Int) = true := by simp [Utf8.valid]; omega
  unfold Utf8.encode
  simp only [hv, if_true, Int.toNat_natCast]
  rw [if_pos (by omega)]

theorem Pl.wrap8 {x : Int} (h0 : 0 ≤ x) (h1 : x < 256) : IntKind.u8.wrap x = x := by simp [IntKind.wrap, IntKind.bits, IntKind.signed]; omega
theorem Pl.wrap32 {x : Int} (h0 : 0 ≤ x) (h1 : x < 256) : IntKind.i32.wrap x = x := by simp [IntKind.wrap, IntKind.bits, IntKind.signed]; omega
theorem Pl.upper_enc (c : UInt8) (h1 : 97 ≤ c.toNat) (h2 : c.toNat ≤ 122) : Utf8.encode (IntKind.i32.wrap (IntKind.u8.wrap (IntKind.u8.wrap ((c.toNat : Int) - 97) + 65))) = ⟨#[c - 32]⟩ := by
  rw [Pl.wrap8 (x := (c.toNat : Int) - 97) (by omega) (by omega), Pl.wrap8 (by omega) (by omega), Pl.wrap32 (by omega) (by omega), show ((c.toNat : Int) - 97 + 65) = ((c.toNat - 32 : Nat) : Int) by omega, Pl.enc_one _ (by omega)]
  congr 3
  apply UInt8.toNat_inj.1
  have : (c - 32).toNat = c.toNat - 32 := by
    rw [UInt8.toNat_sub_of_le]; rfl
    show (32 : UInt8).toNat ≤ c.toNat
    have : (32 : UInt8).toNat = 32 := rfl
    omega
  rw [this]
  show (c.toNat - 32) % 2 ^ 8 = c.toNat - 32
  omega
theorem Pl.lower_enc (c : UInt8) (h1 : 65 ≤ c.toNat) (h2 : c.toNat ≤ 90) : Utf8.encode (IntKind.i32.wrap (IntKind.u8.wrap (IntKind.u8.wrap ((c.toNat : Int) - 65) + 97))) = ⟨#[c + 32]⟩ := by
  rw [Pl.wrap8 (x := (c.toNat : Int) - 65) (by omega) (by omega), Pl.wrap8 (by omega) (by omega), Pl.wrap32 (by omega) (by omega), show ((c.toNat : Int) - 65 + 97) = ((c.toNat + 32 : Nat) : Int) by omega, Pl.enc_one _ (by omega)]
  congr 3

set_option maxHeartbeats 800000 in
theorem upper_any (x : ByteArray) (w : World) (hs : x.size ≤ maxLen) :
    Calls Tryz.prog 227 #[.string x] w fun e w' => e = .returned (.string (Pl.up x)) ∧ Drew w w' := by
  unfold maxLen at hs
  by_cases h0 : x.size = 0
  · obtain rfl := Pl.size_none h0
    have E : Hid (Pl.up ⟨#[]⟩ = ⟨#[]⟩) := Lib.hid rfl
    go_enter Tryz.func227, Tryz.ntmps227
    go_wp2
    go_ret
    exact ⟨ret_str E.out.symm, Drew.refl _⟩
  · have n2 : 0 < x.size := by omega
    have n1 : x.toList.isEmpty = false := Pl.some_list n2
    have n3 : ¬ x.toList = [] := fun e => by rw [e] at n1; cases n1
    have hu := x[0].toNat_lt
    by_cases h1 : x[0].toNat < 97
    · have E := Lib.hid (Pl.up_no n2 (by omega))
      go_enter Tryz.func227, Tryz.ntmps227
      go_wp2
      go_ret
      exact ⟨ret_str E.out.symm, Drew.refl _⟩
    by_cases h2 : 122 < x[0].toNat
    · have E := Lib.hid (Pl.up_no n2 (by omega))
      go_enter Tryz.func227, Tryz.ntmps227
      go_wp2
      go_ret
      exact ⟨ret_str E.out.symm, Drew.refl _⟩
    have E := Lib.hid (Pl.up_yes n2 (by omega) (by omega))
    have n4 : (1 : Int) ≤ (x.size : Int) := by omega
    have hen := Pl.upper_enc x[0] (by omega) (by omega)
    have hadd := fun W : World => run_string_add_sum (P := Tryz.prog) W ⟨#[x[0] - 32]⟩ (x.extract 1 x.size) (by rw [ByteArray.size_extract]; show 1 + _ ≤ _; omega)
    go_enter Tryz.func227, Tryz.ntmps227
    go_wp2
    go_quiet (fail)
    go_wp2
    go_ret
    exact ⟨ret_str E.out.symm, _, rfl⟩

set_option maxHeartbeats 800000 in
theorem lower_any (x : ByteArray) (w : World) (hs : x.size ≤ maxLen) :
    Calls Tryz.prog 234 #[.string x] w fun e w' => e = .returned (.string (Pl.low x)) ∧ Drew w w' := by
  unfold maxLen at hs
  by_cases h0 : x.size = 0
  · obtain rfl := Pl.size_none h0
    have E : Hid (Pl.low ⟨#[]⟩ = ⟨#[]⟩) := Lib.hid rfl
    go_enter Tryz.func234, Tryz.ntmps234
    go_wp2
    go_ret
    exact ⟨ret_str E.out.symm, Drew.refl _⟩
  · have n2 : 0 < x.size := by omega
    have n1 : x.toList.isEmpty = false := Pl.some_list n2
    have n3 : ¬ x.toList = [] := fun e => by rw [e] at n1; cases n1
    have hu := x[0].toNat_lt
    by_cases h1 : x[0].toNat < 65
    · have E := Lib.hid (Pl.low_no n2 (by omega))
      go_enter Tryz.func234, Tryz.ntmps234
      go_wp2
      go_ret
      exact ⟨ret_str E.out.symm, Drew.refl _⟩
    by_cases h2 : 90 < x[0].toNat
    · have E := Lib.hid (Pl.low_no n2 (by omega))
      go_enter Tryz.func234, Tryz.ntmps234
      go_wp2
      go_ret
      exact ⟨ret_str E.out.symm, Drew.refl _⟩
    have E := Lib.hid (Pl.low_yes n2 (by omega) (by omega))
    have n4 : (1 : Int) ≤ (x.size : Int) := by omega
    have hen := Pl.lower_enc x[0] (by omega) (by omega)
    have hadd := fun W : World => run_string_add_sum (P := Tryz.prog) W ⟨#[x[0] + 32]⟩ (x.extract 1 x.size) (by rw [ByteArray.size_extract]; show 1 + _ ≤ _; omega)
    go_enter Tryz.func234, Tryz.ntmps234
    go_wp2
    go_quiet (fail)
    go_wp2
    go_ret
    exact ⟨ret_str E.out.symm, _, rfl⟩

theorem Pl.one_byte {x : ByteArray} (h : x.size = 1) : ∃ b : UInt8, x = ⟨#[b]⟩ := by
  cases x with | mk d => cases d with | mk l => match l, h with
    | [b], _ => exact ⟨b, rfl⟩
theorem Pl.stop_index (b : UInt8) : Pl.isStop ⟨#[b]⟩ = decide (0 ≤ Lib.indexByte [46, 33, 63] b) := by
  have key : ∀ n, n < 256 → decide (0 ≤ Lib.indexByte [46, 33, 63] (UInt8.ofNat n)) = (UInt8.ofNat n == 46 || UInt8.ofNat n == 33 || UInt8.ofNat n == 63) := by decide +kernel
  have h := key b.toNat b.toNat_lt
  rw [UInt8.ofNat_toNat] at h
  rw [h]
  simp [Pl.isStop, ba_toList]
theorem Pl.pause_index (b : UInt8) : Pl.isPause ⟨#[b]⟩ = decide (0 ≤ Lib.indexByte [44, 59, 58] b) := by
  have key : ∀ n, n < 256 → decide (0 ≤ Lib.indexByte [44, 59, 58] (UInt8.ofNat n)) = (UInt8.ofNat n == 44 || UInt8.ofNat n == 59 || UInt8.ofNat n == 58) := by decide +kernel
  have h := key b.toNat b.toNat_lt
  rw [UInt8.ofNat_toNat] at h
  rw [h]
  simp [Pl.isPause, ba_toList]
theorem Pl.stop_one {x : ByteArray} (h : ¬ x.size = 1) : Pl.isStop x = false := by
  cases he : Pl.isStop x
  · rfl
  · exact absurd (Pl.stop_prt he).2 h
theorem Pl.pause_one {x : ByteArray} (h : ¬ x.size = 1) : Pl.isPause x = false := by
  cases he : Pl.isPause x
  · rfl
  · exact absurd (Pl.pause_prt he).2 h
theorem Pl.atomOk1 {a : Int} {x : ByteArray} (h : a = 1 ∨ a = 2 ∨ a = 3 ∨ a = 4 ∨ a = 5) : Pl.atomOk a x = Pl.wordT x := by unfold Pl.atomOk; rw [if_pos h]
theorem Pl.atomOk6 (x : ByteArray) : Pl.atomOk 6 x = Pl.isStop x := rfl
theorem Pl.atomOk7 (x : ByteArray) : Pl.atomOk 7 x = Pl.isPause x := rfl
theorem Pl.atomOkE {a : Int} {x : ByteArray} (h : ¬ (a = 1 ∨ a = 2 ∨ a = 3 ∨ a = 4 ∨ a = 5)) (h6 : ¬ a = 6) (h7 : ¬ a = 7) : Pl.atomOk a x = (Pl.inB a 8 10 && x.toList.isEmpty) := by unfold Pl.atomOk; rw [if_neg h, if_neg h6, if_neg h7]

set_option maxRecDepth 20000 in
set_option maxHeartbeats 1600000 in
theorem IsValidAtom_any (a : Int) (x : ByteArray) (w : World) (hs : x.size ≤ maxLen) :
    Calls Tryz.prog 197 #[.agg #[.int .i64 a, .string x]] w fun e w' => e = .returned (.bool (Pl.atomOk a x)) ∧ Below w.heap.size w w' := by
  have hs' := hs
  unfold maxLen at hs
  by_cases h1 : a = 1 ∨ a = 2 ∨ a = 3 ∨ a = 4 ∨ a = 5
  · have E := Lib.hid (Pl.atomOk1 (x := x) h1)
    rcases h1 with rfl | rfl | rfl | rfl | rfl
    all_goals
      go_enter Tryz.func197, Tryz.ntmps197
      go_wp2_with ((go_at_call 212; refine (isWordText_any _ _ hs').mono ?_; rintro e w' ⟨rfl, rfl⟩))
      go_ret
      exact ⟨ret_bool E.out.symm, (by repeat (first | with_reducible exact Below.refl _ _ | with_reducible assumption | with_reducible refine Below.alloc ?_ ?_ _ | with_reducible refine Below.setCell ?_ ?_ _ | with_reducible refine Below.drew ?_ | with_reducible refine below_drewN ?_ _ | with_reducible refine Below.trans ?_ (Below.mono (by assumption) ?_) | omega | ((repeat (first | rw [World.size_alloc] | rw [size_setCell] | rw [size_drewN] | rw [size_drew])); omega) | exact Nat.le_refl _ | (dsimp only; omega) | (simp [World.setCell]; omega)))⟩
  by_cases h6 : a = 6
  · subst h6
    by_cases hz : x.size = 1
    · obtain ⟨b, rfl⟩ := Pl.one_byte hz
      have E := Lib.hid (Pl.stop_index b)
      clear h1 hz hs
      go_enter Tryz.func197, Tryz.ntmps197
      go_wp2_with (go_at_call 213; refine (Tryz.strings_Contains_one _ b _).mono ?_; rintro e w' ⟨rfl, rfl⟩)
      go_ret
      exact ⟨ret_bool E.out.symm, (by repeat (first | with_reducible exact Below.refl _ _ | with_reducible assumption | with_reducible refine Below.alloc ?_ ?_ _ | with_reducible refine Below.setCell ?_ ?_ _ | with_reducible refine Below.drew ?_ | with_reducible refine below_drewN ?_ _ | with_reducible refine Below.trans ?_ (Below.mono (by assumption) ?_) | omega | ((repeat (first | rw [World.size_alloc] | rw [size_setCell] | rw [size_drewN] | rw [size_drew])); omega) | exact Nat.le_refl _ | (dsimp only; omega) | (simp [World.setCell]; omega)))⟩
    · have E := Lib.hid (Pl.stop_one hz)
      clear h1
      go_enter Tryz.func197, Tryz.ntmps197
      go_wp2
      go_ret
      exact ⟨ret_bool E.out.symm, (by repeat (first | with_reducible exact Below.refl _ _ | with_reducible assumption | with_reducible refine Below.alloc ?_ ?_ _ | with_reducible refine Below.setCell ?_ ?_ _ | with_reducible refine Below.drew ?_ | with_reducible refine below_drewN ?_ _ | with_reducible refine Below.trans ?_ (Below.mono (by assumption) ?_) | omega | ((repeat (first | rw [World.size_alloc] | rw [size_setCell] | rw [size_drewN] | rw [size_drew])); omega) | exact Nat.le_refl _ | (dsimp only; omega) | (simp [World.setCell]; omega)))⟩
  by_cases h7 : a = 7
  · subst h7
    by_cases hz : x.size = 1
    · obtain ⟨b, rfl⟩ := Pl.one_byte hz
      have E := Lib.hid (Pl.pause_index b)
      clear h1 hz hs
      go_enter Tryz.func197, Tryz.ntmps197
      go_wp2_with (go_at_call 213; refine (Tryz.strings_Contains_one _ b _).mono ?_; rintro e w' ⟨rfl, rfl⟩)
      go_ret
      exact ⟨ret_bool E.out.symm, (by repeat (first | with_reducible exact Below.refl _ _ | with_reducible assumption | with_reducible refine Below.alloc ?_ ?_ _ | with_reducible refine Below.setCell ?_ ?_ _ | with_reducible refine Below.drew ?_ | with_reducible refine below_drewN ?_ _ | with_reducible refine Below.trans ?_ (Below.mono (by assumption) ?_) | omega | ((repeat (first | rw [World.size_alloc] | rw [size_setCell] | rw [size_drewN] | rw [size_drew])); omega) | exact Nat.le_refl _ | (dsimp only; omega) | (simp [World.setCell]; omega)))⟩
    · have E := Lib.hid (Pl.pause_one hz)
      clear h1
      go_enter Tryz.func197, Tryz.ntmps197
      go_wp2
      go_ret
      exact ⟨ret_bool E.out.symm, (by repeat (first | with_reducible exact Below.refl _ _ | with_reducible assumption | with_reducible refine Below.alloc ?_ ?_ _ | with_reducible refine Below.setCell ?_ ?_ _ | with_reducible refine Below.drew ?_ | with_reducible refine below_drewN ?_ _ | with_reducible refine Below.trans ?_ (Below.mono (by assumption) ?_) | omega | ((repeat (first | rw [World.size_alloc] | rw [size_setCell] | rw [size_drewN] | rw [size_drew])); omega) | exact Nat.le_refl _ | (dsimp only; omega) | (simp [World.setCell]; omega)))⟩
  have E := Lib.hid (Pl.atomOkE (x := x) h1 h6 h7)
  have h1' : ¬ a = 1 ∧ ¬ a = 2 ∧ ¬ a = 3 ∧ ¬ a = 4 ∧ ¬ a = 5 := by omega
  obtain ⟨n1, n2, n3, n4, n5⟩ := h1'
  clear h1
  cases hi : Pl.inB a 8 10
  · rw [hi, Bool.false_and] at E
    go_enter Tryz.func197, Tryz.ntmps197
    go_wp2_with ((go_at_call 113; refine (in_any _ _ _ _).mono ?_; rintro e w' ⟨rfl, rfl⟩))
    go_ret
    exact ⟨ret_bool E.out.symm, (by repeat (first | with_reducible exact Below.refl _ _ | with_reducible assumption | with_reducible refine Below.alloc ?_ ?_ _ | with_reducible refine Below.setCell ?_ ?_ _ | with_reducible refine Below.drew ?_ | with_reducible refine below_drewN ?_ _ | with_reducible refine Below.trans ?_ (Below.mono (by assumption) ?_) | omega | ((repeat (first | rw [World.size_alloc] | rw [size_setCell] | rw [size_drewN] | rw [size_drew])); omega) | exact Nat.le_refl _ | (dsimp only; omega) | (simp [World.setCell]; omega)))⟩
  · rw [hi, Bool.true_and] at E
    go_enter Tryz.func197, Tryz.ntmps197
    go_wp2_with ((go_at_call 113; refine (in_any _ _ _ _).mono ?_; rintro e w' ⟨rfl, rfl⟩))
    go_ret
    exact ⟨ret_bool E.out.symm, (by repeat (first | with_reducible exact Below.refl _ _ | with_reducible assumption | with_reducible refine Below.alloc ?_ ?_ _ | with_reducible refine Below.setCell ?_ ?_ _ | with_reducible refine Below.drew ?_ | with_reducible refine below_drewN ?_ _ | with_reducible refine Below.trans ?_ (Below.mono (by assumption) ?_) | omega | ((repeat (first | rw [World.size_alloc] | rw [size_setCell] | rw [size_drewN] | rw [size_drew])); omega) | exact Nat.le_refl _ | (dsimp only; omega) | (simp [World.setCell]; omega)))⟩

theorem Pl.stop_tests (x : ByteArray) : Pl.isStop x = (x.toList == [46] || x.toList == [33] || x.toList == [63]) := rfl
theorem Pl.pause_tests (x : ByteArray) : Pl.isPause x = (x.toList == [44] || x.toList == [59] || x.toList == [58]) := rfl
theorem Pl.inB_no {a : Int} (h1 : ¬ a = 8) (h2 : ¬ a = 9) (h3 : ¬ a = 10) : Pl.inB a 8 10 = false := by
  simp [Pl.inB]; omega

set_option maxRecDepth 20000 in
set_option maxHeartbeats 1600000 in
theorem l5Good_any (a : Int) (x : ByteArray) (w : World) (hs : x.size ≤ maxLen) :
    Calls Tryz.prog 126 #[.agg #[.int .i64 a, .string x]] w fun e w' => e = .returned (.bool (Pl.atomOk a x)) ∧ Below w.heap.size w w' := by
  have hs' := hs
  unfold maxLen at hs
  by_cases h1 : a = 1 ∨ a = 2 ∨ a = 3 ∨ a = 4 ∨ a = 5
  · have E := Lib.hid (Pl.atomOk1 (x := x) h1)
    rcases h1 with rfl | rfl | rfl | rfl | rfl
    all_goals
      go_enter Tryz.func126, Tryz.ntmps126
      go_wp2_with ((go_at_call 159; refine (l5Word_any _ _ hs').mono ?_; rintro e w' ⟨rfl, rfl⟩))
      go_ret
      exact ⟨ret_bool E.out.symm, (by repeat (first | with_reducible exact Below.refl _ _ | with_reducible assumption | with_reducible refine Below.alloc ?_ ?_ _ | with_reducible refine Below.setCell ?_ ?_ _ | with_reducible refine Below.drew ?_ | with_reducible refine below_drewN ?_ _ | with_reducible refine Below.trans ?_ (Below.mono (by assumption) ?_) | omega | ((repeat (first | rw [World.size_alloc] | rw [size_setCell] | rw [size_drewN] | rw [size_drew])); omega) | exact Nat.le_refl _ | (dsimp only; omega) | (simp [World.setCell]; omega)))⟩
  by_cases h6 : a = 6
  · subst h6
    have E := Lib.hid (Pl.stop_tests x)
    clear h1
    go_enter Tryz.func126, Tryz.ntmps126
    go_wp2
    all_goals go_ret
    all_goals exact ⟨ret_bool (by rw [Pl.atomOk6, E.out]; first | done | simp_all), (by repeat (first | with_reducible exact Below.refl _ _ | with_reducible assumption | with_reducible refine Below.alloc ?_ ?_ _ | with_reducible refine Below.setCell ?_ ?_ _ | with_reducible refine Below.drew ?_ | with_reducible refine below_drewN ?_ _ | with_reducible refine Below.trans ?_ (Below.mono (by assumption) ?_) | omega | ((repeat (first | rw [World.size_alloc] | rw [size_setCell] | rw [size_drewN] | rw [size_drew])); omega) | exact Nat.le_refl _ | (dsimp only; omega) | (simp [World.setCell]; omega)))⟩
  by_cases h7 : a = 7
  · subst h7
    have E := Lib.hid (Pl.pause_tests x)
    clear h1
    go_enter Tryz.func126, Tryz.ntmps126
    go_wp2
    all_goals go_ret
    all_goals exact ⟨ret_bool (by rw [Pl.atomOk7, E.out]; first | done | simp_all), (by repeat (first | with_reducible exact Below.refl _ _ | with_reducible assumption | with_reducible refine Below.alloc ?_ ?_ _ | with_reducible refine Below.setCell ?_ ?_ _ | with_reducible refine Below.drew ?_ | with_reducible refine below_drewN ?_ _ | with_reducible refine Below.trans ?_ (Below.mono (by assumption) ?_) | omega | ((repeat (first | rw [World.size_alloc] | rw [size_setCell] | rw [size_drewN] | rw [size_drew])); omega) | exact Nat.le_refl _ | (dsimp only; omega) | (simp [World.setCell]; omega)))⟩
  have E := Lib.hid (Pl.atomOkE (x := x) h1 h6 h7)
  have h1' : ¬ a = 1 ∧ ¬ a = 2 ∧ ¬ a = 3 ∧ ¬ a = 4 ∧ ¬ a = 5 := by omega
  obtain ⟨n1, n2, n3, n4, n5⟩ := h1'
  clear h1
  by_cases h8 : a = 8 ∨ a = 9 ∨ a = 10
  · rw [show Pl.inB a 8 10 = true by simp [Pl.inB]; omega, Bool.true_and] at E
    rcases h8 with rfl | rfl | rfl
    all_goals
      clear n1 n2 n3 n4 n5
      go_enter Tryz.func126, Tryz.ntmps126
      go_wp2
      go_ret
      exact ⟨ret_bool E.out.symm, (by repeat (first | with_reducible exact Below.refl _ _ | with_reducible assumption | with_reducible refine Below.alloc ?_ ?_ _ | with_reducible refine Below.setCell ?_ ?_ _ | with_reducible refine Below.drew ?_ | with_reducible refine below_drewN ?_ _ | with_reducible refine Below.trans ?_ (Below.mono (by assumption) ?_) | omega | ((repeat (first | rw [World.size_alloc] | rw [size_setCell] | rw [size_drewN] | rw [size_drew])); omega) | exact Nat.le_refl _ | (dsimp only; omega) | (simp [World.setCell]; omega)))⟩
  · have h8' : ¬ a = 8 ∧ ¬ a = 9 ∧ ¬ a = 10 := by omega
    obtain ⟨n8, n9, n10⟩ := h8'
    rw [Pl.inB_no n8 n9 n10, Bool.false_and] at E
    clear h8
    go_enter Tryz.func126, Tryz.ntmps126
    go_wp2
    go_ret
    exact ⟨ret_bool E.out.symm, (by repeat (first | with_reducible exact Below.refl _ _ | with_reducible assumption | with_reducible refine Below.alloc ?_ ?_ _ | with_reducible refine Below.setCell ?_ ?_ _ | with_reducible refine Below.drew ?_ | with_reducible refine below_drewN ?_ _ | with_reducible refine Below.trans ?_ (Below.mono (by assumption) ?_) | omega | ((repeat (first | rw [World.size_alloc] | rw [size_setCell] | rw [size_drewN] | rw [size_drew])); omega) | exact Nat.le_refl _ | (dsimp only; omega) | (simp [World.setCell]; omega)))⟩

theorem Pl.caseB_up {c : UInt8} (h1 : 97 ≤ c.toNat) (h2 : c.toNat ≤ 122) : UInt8.ofNat (IntKind.u8.wrap ((c.toNat : Int) - 32)).toNat = c - 32 := by
  rw [Pl.wrap8 (by omega) (by omega)]
  apply UInt8.toNat_inj.1
  have : (c - 32).toNat = c.toNat - 32 := by
    rw [UInt8.toNat_sub_of_le]; rfl
    show (32 : UInt8).toNat ≤ c.toNat
    have : (32 : UInt8).toNat = 32 := rfl
    omega
  rw [this]
  show ((c.toNat : Int) - 32).toNat % 2 ^ 8 = c.toNat - 32
  omega
theorem Pl.caseB_low {c : UInt8} (h1 : 65 ≤ c.toNat) (h2 : c.toNat ≤ 90) : UInt8.ofNat (IntKind.u8.wrap ((c.toNat : Int) + 32)).toNat = c + 32 := by
  rw [Pl.wrap8 (by omega) (by omega)]
  apply UInt8.toNat_inj.1
  have : (c + 32).toNat = c.toNat + 32 := by
    rw [UInt8.toNat_add]
    have : (32 : UInt8).toNat = 32 := rfl
    omega
  rw [this]
  show ((c.toNat : Int) + 32).toNat % 2 ^ 8 = c.toNat + 32
  omega

theorem conv_one (w : World) (d : UInt8) (T : TypeId) :
    (convert 22 9 (.slice (some ⟨w.heap.size, 0, none⟩) 1 1)).run Tryz.prog ((w.alloc (.cells #[.int .u8 (d.toNat : Int)] T)).drew) = .ok (.string ⟨#[d]⟩) ((w.alloc (.cells #[.int .u8 (d.toNat : Int)] T)).drew) := by
  have h := run_convert_bytes_back (P := Tryz.prog) ((w.alloc (.cells #[.int .u8 (d.toNat : Int)] T)).drew) 22 9 5 ⟨w.heap.size, 0, none⟩ 1 [d] Tryz.underlying22 Tryz.underlying5 Tryz.underlying9 (fun j hj => by
    have hj0 : j = 0 := by simp at hj; exact hj
    subst hj0
    show (w.alloc (.cells #[.int .u8 (d.toNat : Int)] T)).cell? ⟨w.heap.size, 0 + 0, none⟩ = _
    rw [World.cell?_alloc_mark]; rfl)
  exact h

theorem Pl.case_num (how : Int) (x : ByteArray) (h : 0 < x.size) : Pl.caseB how x = ⟨#[if how = 1 then Pl.upB x[0] else if how = 2 then Pl.lowB x[0] else x[0]]⟩ ++ x.extract 1 x.size := by
  unfold Pl.caseB
  split
  · exact Pl.onHead_split Pl.upB x h
  · split
    · exact Pl.onHead_split Pl.lowB x h
    · exact Pl.same_split h
theorem Pl.wrap_up {c : UInt8} (h1 : 97 ≤ c.toNat) (h2 : c.toNat ≤ 122) : IntKind.u8.wrap ((c.toNat : Int) - 32) = ((c - 32).toNat : Int) := by
  have : (c - 32).toNat = c.toNat - 32 := by
    rw [UInt8.toNat_sub_of_le]; rfl
    show (32 : UInt8).toNat ≤ c.toNat
    have : (32 : UInt8).toNat = 32 := rfl
    omega
  rw [this, Pl.wrap8 (by omega) (by omega)]; omega
theorem Pl.wrap_low {c : UInt8} (h1 : 65 ≤ c.toNat) (h2 : c.toNat ≤ 90) : IntKind.u8.wrap ((c.toNat : Int) + 32) = ((c + 32).toNat : Int) := by
  have : (c + 32).toNat = c.toNat + 32 := by
    rw [UInt8.toNat_add]
    have : (32 : UInt8).toNat = 32 := rfl
    omega
  rw [this, Pl.wrap8 (by omega) (by omega)]; omega

set_option maxRecDepth 20000 in
set_option maxHeartbeats 1600000 in
theorem l12Case_any (x : ByteArray) (how : Int) (w : World) (hs : x.size ≤ 1048576) :
    Calls Tryz.prog 162 #[.string x, .int .i64 how] w fun e w' => e = .returned (.string (Pl.caseB how x)) ∧ Below w.heap.size w w' := by
  by_cases h0 : x.size = 0
  · obtain rfl := Pl.size_none h0
    have E : Hid (Pl.caseB how ⟨#[]⟩ = ⟨#[]⟩) := Lib.hid (Pl.size_none (by rw [Pl.caseB_size]; rfl))
    go_enter Tryz.func162, Tryz.ntmps162
    go_wp2
    go_ret
    exact ⟨ret_str E.out.symm, (by repeat (first | with_reducible exact Below.refl _ _ | with_reducible assumption | with_reducible refine Below.alloc ?_ ?_ _ | with_reducible refine Below.setCell ?_ ?_ _ | with_reducible refine Below.drew ?_ | with_reducible refine below_drewN ?_ _ | with_reducible refine Below.trans ?_ (Below.mono (by assumption) ?_) | omega | ((repeat (first | rw [World.size_alloc] | rw [size_setCell] | rw [size_drewN] | rw [size_drew])); omega) | exact Nat.le_refl _ | (dsimp only; omega) | (simp [World.setCell]; omega)))⟩
  · have n2 : 0 < x.size := by omega
    have n1 : x.toList.isEmpty = false := Pl.some_list n2
    have n3 : ¬ x.toList = [] := fun e => by rw [e] at n1; cases n1
    have n4 : (1 : Int) ≤ (x.size : Int) := by omega
    have hu := x[0].toNat_lt
    have h256 : (x[0].toNat : Int) < 256 := by omega
    by_cases h1 : how = 1
    · by_cases h2 : x[0].toNat < 97
      · have E : Hid (Pl.caseB how x = ⟨#[x[0]]⟩ ++ x.extract 1 x.size) := Lib.hid ((Pl.case_num how x n2).trans (by rw [if_pos h1, Pl.upB, if_neg (by omega)]))
        have hadd := fun W : World => run_string_add_sum (P := Tryz.prog) W ⟨#[x[0]]⟩ (x.extract 1 x.size) (by rw [ByteArray.size_extract]; show 1 + _ ≤ _; omega)
        have hcv := conv_one w (x[0]) 5
        skip
        go_enter Tryz.func162, Tryz.ntmps162
        go_wp2
        go_region
        go_wp2
        go_ret
        exact ⟨ret_str E.out.symm, (by repeat (first | with_reducible exact Below.refl _ _ | with_reducible assumption | with_reducible refine Below.alloc ?_ ?_ _ | with_reducible refine Below.setCell ?_ ?_ _ | with_reducible refine Below.drew ?_ | with_reducible refine below_drewN ?_ _ | with_reducible refine Below.trans ?_ (Below.mono (by assumption) ?_) | omega | ((repeat (first | rw [World.size_alloc] | rw [size_setCell] | rw [size_drewN] | rw [size_drew])); omega) | exact Nat.le_refl _ | (dsimp only; omega) | (simp [World.setCell]; omega)))⟩
      by_cases h3 : 122 < x[0].toNat
      · have E : Hid (Pl.caseB how x = ⟨#[x[0]]⟩ ++ x.extract 1 x.size) := Lib.hid ((Pl.case_num how x n2).trans (by rw [if_pos h1, Pl.upB, if_neg (by omega)]))
        have hadd := fun W : World => run_string_add_sum (P := Tryz.prog) W ⟨#[x[0]]⟩ (x.extract 1 x.size) (by rw [ByteArray.size_extract]; show 1 + _ ≤ _; omega)
        have hcv := conv_one w (x[0]) 5
        skip
        go_enter Tryz.func162, Tryz.ntmps162
        go_wp2
        go_region
        go_wp2
        go_ret
        exact ⟨ret_str E.out.symm, (by repeat (first | with_reducible exact Below.refl _ _ | with_reducible assumption | with_reducible refine Below.alloc ?_ ?_ _ | with_reducible refine Below.setCell ?_ ?_ _ | with_reducible refine Below.drew ?_ | with_reducible refine below_drewN ?_ _ | with_reducible refine Below.trans ?_ (Below.mono (by assumption) ?_) | omega | ((repeat (first | rw [World.size_alloc] | rw [size_setCell] | rw [size_drewN] | rw [size_drew])); omega) | exact Nat.le_refl _ | (dsimp only; omega) | (simp [World.setCell]; omega)))⟩
      have hw := Pl.wrap_up (c := x[0]) (by omega) (by omega)
      have E : Hid (Pl.caseB how x = ⟨#[x[0] - 32]⟩ ++ x.extract 1 x.size) := Lib.hid ((Pl.case_num how x n2).trans (by rw [if_pos h1, Pl.upB, if_pos (by omega)]))
      have hadd := fun W : World => run_string_add_sum (P := Tryz.prog) W ⟨#[x[0] - 32]⟩ (x.extract 1 x.size) (by rw [ByteArray.size_extract]; show 1 + _ ≤ _; omega)
      have hcv := conv_one w (x[0] - 32) 5
      skip
      go_enter Tryz.func162, Tryz.ntmps162
      go_wp2
      go_region
      go_wp2
      go_ret
      exact ⟨ret_str E.out.symm, (by repeat (first | with_reducible exact Below.refl _ _ | with_reducible assumption | with_reducible refine Below.alloc ?_ ?_ _ | with_reducible refine Below.setCell ?_ ?_ _ | with_reducible refine Below.drew ?_ | with_reducible refine below_drewN ?_ _ | with_reducible refine Below.trans ?_ (Below.mono (by assumption) ?_) | omega | ((repeat (first | rw [World.size_alloc] | rw [size_setCell] | rw [size_drewN] | rw [size_drew])); omega) | exact Nat.le_refl _ | (dsimp only; omega) | (simp [World.setCell]; omega)))⟩
    by_cases h4 : how = 2
    · by_cases h2 : x[0].toNat < 65
      · have E : Hid (Pl.caseB how x = ⟨#[x[0]]⟩ ++ x.extract 1 x.size) := Lib.hid ((Pl.case_num how x n2).trans (by rw [if_neg h1, if_pos h4, Pl.lowB, if_neg (by omega)]))
        have hadd := fun W : World => run_string_add_sum (P := Tryz.prog) W ⟨#[x[0]]⟩ (x.extract 1 x.size) (by rw [ByteArray.size_extract]; show 1 + _ ≤ _; omega)
        have hcv := conv_one w (x[0]) 5
        skip
        go_enter Tryz.func162, Tryz.ntmps162
        go_wp2
        go_region
        go_wp2
        go_ret
        exact ⟨ret_str E.out.symm, (by repeat (first | with_reducible exact Below.refl _ _ | with_reducible assumption | with_reducible refine Below.alloc ?_ ?_ _ | with_reducible refine Below.setCell ?_ ?_ _ | with_reducible refine Below.drew ?_ | with_reducible refine below_drewN ?_ _ | with_reducible refine Below.trans ?_ (Below.mono (by assumption) ?_) | omega | ((repeat (first | rw [World.size_alloc] | rw [size_setCell] | rw [size_drewN] | rw [size_drew])); omega) | exact Nat.le_refl _ | (dsimp only; omega) | (simp [World.setCell]; omega)))⟩
      by_cases h3 : 90 < x[0].toNat
      · have E : Hid (Pl.caseB how x = ⟨#[x[0]]⟩ ++ x.extract 1 x.size) := Lib.hid ((Pl.case_num how x n2).trans (by rw [if_neg h1, if_pos h4, Pl.lowB, if_neg (by omega)]))
        have hadd := fun W : World => run_string_add_sum (P := Tryz.prog) W ⟨#[x[0]]⟩ (x.extract 1 x.size) (by rw [ByteArray.size_extract]; show 1 + _ ≤ _; omega)
        have hcv := conv_one w (x[0]) 5
        skip
        go_enter Tryz.func162, Tryz.ntmps162
        go_wp2
        go_region
        go_wp2
        go_ret
        exact ⟨ret_str E.out.symm, (by repeat (first | with_reducible exact Below.refl _ _ | with_reducible assumption | with_reducible refine Below.alloc ?_ ?_ _ | with_reducible refine Below.setCell ?_ ?_ _ | with_reducible refine Below.drew ?_ | with_reducible refine below_drewN ?_ _ | with_reducible refine Below.trans ?_ (Below.mono (by assumption) ?_) | omega | ((repeat (first | rw [World.size_alloc] | rw [size_setCell] | rw [size_drewN] | rw [size_drew])); omega) | exact Nat.le_refl _ | (dsimp only; omega) | (simp [World.setCell]; omega)))⟩
      obtain ⟨d, hd⟩ : ∃ d, d = x[0] + 32 := ⟨_, rfl⟩
      have hw := Pl.wrap_low (c := x[0]) (by omega) (by omega)
      rw [← hd] at hw
      have E : Hid (Pl.caseB how x = ⟨#[d]⟩ ++ x.extract 1 x.size) := Lib.hid ((Pl.case_num how x n2).trans (by rw [if_neg h1, if_pos h4, Pl.lowB, if_pos (by omega), hd]))
      have hadd := fun W : World => run_string_add_sum (P := Tryz.prog) W ⟨#[d]⟩ (x.extract 1 x.size) (by rw [ByteArray.size_extract]; show 1 + _ ≤ _; omega)
      have hcv := conv_one w (d) 5
      clear hd
      go_enter Tryz.func162, Tryz.ntmps162
      go_wp2
      go_region
      go_wp2
      go_ret
      exact ⟨ret_str E.out.symm, (by repeat (first | with_reducible exact Below.refl _ _ | with_reducible assumption | with_reducible refine Below.alloc ?_ ?_ _ | with_reducible refine Below.setCell ?_ ?_ _ | with_reducible refine Below.drew ?_ | with_reducible refine below_drewN ?_ _ | with_reducible refine Below.trans ?_ (Below.mono (by assumption) ?_) | omega | ((repeat (first | rw [World.size_alloc] | rw [size_setCell] | rw [size_drewN] | rw [size_drew])); omega) | exact Nat.le_refl _ | (dsimp only; omega) | (simp [World.setCell]; omega)))⟩
    have E : Hid (Pl.caseB how x = ⟨#[x[0]]⟩ ++ x.extract 1 x.size) := Lib.hid ((Pl.case_num how x n2).trans (by rw [if_neg h1, if_neg h4]))
    have hadd := fun W : World => run_string_add_sum (P := Tryz.prog) W ⟨#[x[0]]⟩ (x.extract 1 x.size) (by rw [ByteArray.size_extract]; show 1 + _ ≤ _; omega)
    have hcv := conv_one w (x[0]) 5
    skip
    go_enter Tryz.func162, Tryz.ntmps162
    go_wp2
    go_region
    go_wp2
    go_ret
    exact ⟨ret_str E.out.symm, (by repeat (first | with_reducible exact Below.refl _ _ | with_reducible assumption | with_reducible refine Below.alloc ?_ ?_ _ | with_reducible refine Below.setCell ?_ ?_ _ | with_reducible refine Below.drew ?_ | with_reducible refine below_drewN ?_ _ | with_reducible refine Below.trans ?_ (Below.mono (by assumption) ?_) | omega | ((repeat (first | rw [World.size_alloc] | rw [size_setCell] | rw [size_drewN] | rw [size_drew])); omega) | exact Nat.le_refl _ | (dsimp only; omega) | (simp [World.setCell]; omega)))⟩

end Go.Proofs.YtdidgaibgkdjoaaGreatDoor
