/-
  CONTRACTS: LeastEdit, ApplyEdit of the program and the reference; eqEdit.
-/
import Derived.Test.YtpdmhkmomfjcmaaPlainEdit
import Derived.Test.YtpdmhkmomfjcmaaEdit
import Derived.Deep.QuietTactic
import Derived.BigQuiet
import Derived.IntWalk
namespace Go.Proofs.Ytpdmhkmomfjcmaa
open Go.RowKit

set_option maxHeartbeats 800000 in
theorem leastEdit_any (s t : ByteArray) (w : World) (hs : s.size ≤ 1048576) (ht : t.size ≤ 1048576) :
    Calls Try.prog 79 #[.string s, .string t] w fun e w' => e = .returned (.agg #[.int .i64 (Pl.leastBack s t), .string (Pl.leastText s t)]) ∧ Below w.heap.size w w' := by
  go_enter Try.func79, Try.ntmps79
  go_wp2
  go_loopw [5] (fun i wr => ∃ k : Nat, k ≤ s.size ∧ k ≤ t.size ∧ i = .int .i64 k ∧ Pl.cplAt s t k ∧ ∃ n, wr = (w.alloc (.cells #[.int .i64 0, .string ⟨#[]⟩] 27)).drewN n) (fun i _ => s.size - (intOf i).toNat)
  case atStart => exact ⟨0, Nat.zero_le _, Nat.zero_le _, rfl, Pl.cplAt_zero s t, 0, rfl⟩
  case round =>
    obtain ⟨k, hk, hk2, rfl, hinv, n, rfl⟩ := hrel
    have HI := Lib.hid hinv; clear hinv
    by_cases h1 : k < s.size
    · have hd1 : ((k : Int) < (s.size : Int)) := by omega
      by_cases h2 : k < t.size
      · have hd2 : ((k : Int) < (t.size : Int)) := by omega
        have e1 := Pl.byteAt_eq s k h1
        have e2 := Pl.byteAt_eq t k h2
        by_cases h3 : Pl.byteAt s k = Pl.byteAt t k
        · have HI1 := Lib.hid (Pl.cplAt_succ h1 h2 h3 HI.out)
          have hb : (Pl.byteAt s k == Pl.byteAt t k) = true := by simp [h3]
          clear h3
          go_wp2
          go_quiet (fail)
          go_wp2
          go_roundw
          case rel => exact ⟨k + 1, by omega, by omega, by go_num, HI1.out, _, rfl⟩
          case measure => simp [intOf]; omega
        · have HE := Lib.hid (Pl.cplAt_ne h1 h2 h3 HI.out)
          have hb : (Pl.byteAt s k == Pl.byteAt t k) = false := by simp [h3]
          clear h3
          go_wp2
          go_quiet (fail)
          go_wp2
          exact bodyPost_ret (v := .agg #[.int .i64 ((s.size : Int) - k), .string (t.extract k t.size)]) (by simp [results, Try.results79, go_sem, *]) rfl ⟨by unfold Pl.leastBack Pl.leastText Pl.comm; rw [HE.out], (by repeat (first | with_reducible exact Below.refl _ _ | with_reducible assumption | with_reducible refine Below.alloc ?_ ?_ _ | with_reducible refine Below.setCell ?_ ?_ _ | with_reducible refine Below.drew ?_ | with_reducible refine below_drewN ?_ _ | with_reducible refine Below.trans ?_ (Below.mono (by assumption) ?_) | omega | ((repeat (first | rw [World.size_alloc] | rw [size_setCell] | rw [size_drewN] | rw [size_drew])); omega) | exact Nat.le_refl _ | (dsimp only; omega) | (simp [World.setCell]; omega)))⟩
      · have HE := Lib.hid (Pl.cplAt_right (by omega) HI.out)
        have hd2 : decide ((k : Int) < (t.size : Int)) = false := by simp; omega
        go_wp2
        go_quiet (fail)
        go_wp2
        exact bodyPost_ret (v := .agg #[.int .i64 ((s.size : Int) - k), .string (t.extract k t.size)]) (by simp [results, Try.results79, go_sem, *]) rfl ⟨by unfold Pl.leastBack Pl.leastText Pl.comm; rw [HE.out], (by repeat (first | with_reducible exact Below.refl _ _ | with_reducible assumption | with_reducible refine Below.alloc ?_ ?_ _ | with_reducible refine Below.setCell ?_ ?_ _ | with_reducible refine Below.drew ?_ | with_reducible refine below_drewN ?_ _ | with_reducible refine Below.trans ?_ (Below.mono (by assumption) ?_) | omega | ((repeat (first | rw [World.size_alloc] | rw [size_setCell] | rw [size_drewN] | rw [size_drew])); omega) | exact Nat.le_refl _ | (dsimp only; omega) | (simp [World.setCell]; omega)))⟩
    · have HE := Lib.hid (Pl.cplAt_left (by omega) HI.out)
      have hd1 : decide ((k : Int) < (s.size : Int)) = false := by simp; omega
      go_wp2
      go_quiet (fail)
      go_wp2
      exact bodyPost_ret (v := .agg #[.int .i64 ((s.size : Int) - k), .string (t.extract k t.size)]) (by simp [results, Try.results79, go_sem, *]) rfl ⟨by unfold Pl.leastBack Pl.leastText Pl.comm; rw [HE.out], (by repeat (first | with_reducible exact Below.refl _ _ | with_reducible assumption | with_reducible refine Below.alloc ?_ ?_ _ | with_reducible refine Below.setCell ?_ ?_ _ | with_reducible refine Below.drew ?_ | with_reducible refine below_drewN ?_ _ | with_reducible refine Below.trans ?_ (Below.mono (by assumption) ?_) | omega | ((repeat (first | rw [World.size_alloc] | rw [size_setCell] | rw [size_drewN] | rw [size_drew])); omega) | exact Nat.le_refl _ | (dsimp only; omega) | (simp [World.setCell]; omega)))⟩

set_option maxHeartbeats 800000 in
theorem l13Least_any (s t : ByteArray) (w : World) (hs : s.size ≤ 1048576) (ht : t.size ≤ 1048576) :
    Calls Try.prog 78 #[.string s, .string t] w fun e w' => e = .returned (.agg #[.int .i64 (Pl.leastBack s t), .string (Pl.leastText s t)]) ∧ Below w.heap.size w w' := by
  go_enter Try.func78, Try.ntmps78
  go_wp2
  go_loopw [5] (fun i wr => ∃ k : Nat, k ≤ s.size ∧ k ≤ t.size ∧ i = .int .i64 k ∧ Pl.cplAt s t k ∧ ∃ n, wr = (w.alloc (.cells #[.int .i64 0, .string ⟨#[]⟩] 27)).drewN n) (fun i _ => s.size - (intOf i).toNat)
  case atStart => exact ⟨0, Nat.zero_le _, Nat.zero_le _, rfl, Pl.cplAt_zero s t, 0, rfl⟩
  case round =>
    obtain ⟨k, hk, hk2, rfl, hinv, n, rfl⟩ := hrel
    have HI := Lib.hid hinv; clear hinv
    by_cases h1 : k < s.size
    · have hd1 : ((k : Int) < (s.size : Int)) := by omega
      by_cases h2 : k < t.size
      · have hd2 : ((k : Int) < (t.size : Int)) := by omega
        have e1 := Pl.byteAt_eq s k h1
        have e2 := Pl.byteAt_eq t k h2
        by_cases h3 : Pl.byteAt s k = Pl.byteAt t k
        · have HI1 := Lib.hid (Pl.cplAt_succ h1 h2 h3 HI.out)
          have hb : (Pl.byteAt s k == Pl.byteAt t k) = true := by simp [h3]
          clear h3
          go_wp2
          go_quiet (fail)
          go_wp2
          go_roundw
          case rel => exact ⟨k + 1, by omega, by omega, by go_num, HI1.out, _, rfl⟩
          case measure => simp [intOf]; omega
        · have HE := Lib.hid (Pl.cplAt_ne h1 h2 h3 HI.out)
          have hb : (Pl.byteAt s k == Pl.byteAt t k) = false := by simp [h3]
          clear h3
          go_wp2
          go_quiet (fail)
          go_wp2
          exact bodyPost_ret (v := .agg #[.int .i64 ((s.size : Int) - k), .string (t.extract k t.size)]) (by simp [results, Try.results78, go_sem, *]) rfl ⟨by unfold Pl.leastBack Pl.leastText Pl.comm; rw [HE.out], (by repeat (first | with_reducible exact Below.refl _ _ | with_reducible assumption | with_reducible refine Below.alloc ?_ ?_ _ | with_reducible refine Below.setCell ?_ ?_ _ | with_reducible refine Below.drew ?_ | with_reducible refine below_drewN ?_ _ | with_reducible refine Below.trans ?_ (Below.mono (by assumption) ?_) | omega | ((repeat (first | rw [World.size_alloc] | rw [size_setCell] | rw [size_drewN] | rw [size_drew])); omega) | exact Nat.le_refl _ | (dsimp only; omega) | (simp [World.setCell]; omega)))⟩
      · have HE := Lib.hid (Pl.cplAt_right (by omega) HI.out)
        have hd2 : decide ((k : Int) < (t.size : Int)) = false := by simp; omega
        go_wp2
        go_quiet (fail)
        go_wp2
        exact bodyPost_ret (v := .agg #[.int .i64 ((s.size : Int) - k), .string (t.extract k t.size)]) (by simp [results, Try.results78, go_sem, *]) rfl ⟨by unfold Pl.leastBack Pl.leastText Pl.comm; rw [HE.out], (by repeat (first | with_reducible exact Below.refl _ _ | with_reducible assumption | with_reducible refine Below.alloc ?_ ?_ _ | with_reducible refine Below.setCell ?_ ?_ _ | with_reducible refine Below.drew ?_ | with_reducible refine below_drewN ?_ _ | with_reducible refine Below.trans ?_ (Below.mono (by assumption) ?_) | omega | ((repeat (first | rw [World.size_alloc] | rw [size_setCell] | rw [size_drewN] | rw [size_drew])); omega) | exact Nat.le_refl _ | (dsimp only; omega) | (simp [World.setCell]; omega)))⟩
    · have HE := Lib.hid (Pl.cplAt_left (by omega) HI.out)
      have hd1 : decide ((k : Int) < (s.size : Int)) = false := by simp; omega
      go_wp2
      go_quiet (fail)
      go_wp2
      exact bodyPost_ret (v := .agg #[.int .i64 ((s.size : Int) - k), .string (t.extract k t.size)]) (by simp [results, Try.results78, go_sem, *]) rfl ⟨by unfold Pl.leastBack Pl.leastText Pl.comm; rw [HE.out], (by repeat (first | with_reducible exact Below.refl _ _ | with_reducible assumption | with_reducible refine Below.alloc ?_ ?_ _ | with_reducible refine Below.setCell ?_ ?_ _ | with_reducible refine Below.drew ?_ | with_reducible refine below_drewN ?_ _ | with_reducible refine Below.trans ?_ (Below.mono (by assumption) ?_) | omega | ((repeat (first | rw [World.size_alloc] | rw [size_setCell] | rw [size_drewN] | rw [size_drew])); omega) | exact Nat.le_refl _ | (dsimp only; omega) | (simp [World.setCell]; omega)))⟩

set_option maxHeartbeats 400000 in
theorem LeastEdit_any (s t : ByteArray) (w : World) (hs : s.size ≤ 1048576) (ht : t.size ≤ 1048576) :
    Calls Try.prog 40 #[.string s, .string t] w fun e w' => e = .returned (.tuple #[.agg #[.int .i64 (Pl.leastBackOut s t), .string (Pl.leastTextOut s t)], .bool (Pl.leastOk s t)]) ∧ Below w.heap.size w w' := by
  have hs' : s.size ≤ maxLen := by unfold maxLen; omega
  have ht' : t.size ≤ maxLen := by unfold maxLen; omega
  cases h1 : Pl.isScreen s
  · have E := Lib.hid (show Pl.leastOk s t = false by simp [Pl.leastOk, h1])
    go_enter Try.func40, Try.ntmps40
    go_wp2_with (first | (go_at_call 57; refine (isScreen_any _ _ (by assumption)).mono ?_; rintro e w' ⟨rfl, rfl⟩))
    refine bodyPost_ret (v := .tuple #[.agg #[.int .i64 0, .string ⟨#[]⟩], .bool false]) (by simp [results, Try.results40, go_sem, *]) rfl ⟨?_, (by repeat (first | with_reducible exact Below.refl _ _ | with_reducible assumption | with_reducible refine Below.alloc ?_ ?_ _ | with_reducible refine Below.setCell ?_ ?_ _ | with_reducible refine Below.drew ?_ | with_reducible refine below_drewN ?_ _ | with_reducible refine Below.trans ?_ (Below.mono (by assumption) ?_) | omega | ((repeat (first | rw [World.size_alloc] | rw [size_setCell] | rw [size_drewN] | rw [size_drew])); omega) | exact Nat.le_refl _ | (dsimp only; omega) | (simp [World.setCell]; omega)))⟩
    unfold Pl.leastBackOut Pl.leastTextOut; rw [E.out]; rfl
  · cases h2 : Pl.isScreen t
    · have E := Lib.hid (show Pl.leastOk s t = false by simp [Pl.leastOk, h2])
      go_enter Try.func40, Try.ntmps40
      go_wp2_with (first | (go_at_call 57; refine (isScreen_any _ _ (by assumption)).mono ?_; rintro e w' ⟨rfl, rfl⟩))
      refine bodyPost_ret (v := .tuple #[.agg #[.int .i64 0, .string ⟨#[]⟩], .bool false]) (by simp [results, Try.results40, go_sem, *]) rfl ⟨?_, (by repeat (first | with_reducible exact Below.refl _ _ | with_reducible assumption | with_reducible refine Below.alloc ?_ ?_ _ | with_reducible refine Below.setCell ?_ ?_ _ | with_reducible refine Below.drew ?_ | with_reducible refine below_drewN ?_ _ | with_reducible refine Below.trans ?_ (Below.mono (by assumption) ?_) | omega | ((repeat (first | rw [World.size_alloc] | rw [size_setCell] | rw [size_drewN] | rw [size_drew])); omega) | exact Nat.le_refl _ | (dsimp only; omega) | (simp [World.setCell]; omega)))⟩
      unfold Pl.leastBackOut Pl.leastTextOut; rw [E.out]; rfl
    · have E := Lib.hid (show Pl.leastOk s t = true by simp [Pl.leastOk, h1, h2])
      go_enter Try.func40, Try.ntmps40
      go_wp2_with (first | (go_at_call 57; refine (isScreen_any _ _ (by assumption)).mono ?_; rintro e w' ⟨rfl, rfl⟩) | (go_at_call 79; refine (leastEdit_any _ _ _ hs ht).mono ?_; rintro e w2 ⟨rfl, hb2⟩; have hcf := bcell hb2; have hz2 := hb2.size; (repeat (first | simp only [World.size_alloc] at hz2 hcf | simp only [size_setCell] at hz2 hcf | simp only [size_drewN] at hz2 hcf | simp only [size_drew] at hz2 hcf)); obtain ⟨hc2, hf2⟩ := hcf; (try have htA : w.heap.size < w2.heap.size := by omega); (try have htB : w.heap.size + 1 < w2.heap.size := by omega); (try have htC : w.heap.size + 2 < w2.heap.size := by omega)))
      refine bodyPost_ret (v := .tuple #[.agg #[.int .i64 (Pl.leastBack s t), .string (Pl.leastText s t)], .bool true]) (by simp [results, Try.results40, go_sem, *]) rfl ⟨?_, (by repeat (first | with_reducible exact Below.refl _ _ | with_reducible assumption | with_reducible refine Below.alloc ?_ ?_ _ | with_reducible refine Below.setCell ?_ ?_ _ | with_reducible refine Below.drew ?_ | with_reducible refine below_drewN ?_ _ | with_reducible refine Below.trans ?_ (Below.mono (by assumption) ?_) | omega | ((repeat (first | rw [World.size_alloc] | rw [size_setCell] | rw [size_drewN] | rw [size_drew])); omega) | exact Nat.le_refl _ | (dsimp only; omega) | (simp [World.setCell]; omega)))⟩
      unfold Pl.leastBackOut Pl.leastTextOut; rw [E.out]; rfl

set_option maxHeartbeats 400000 in
theorem specLeastEdit_any (s t : ByteArray) (w : World) (hs : s.size ≤ 1048576) (ht : t.size ≤ 1048576) :
    Calls Try.prog 39 #[.string s, .string t] w fun e w' => e = .returned (.tuple #[.agg #[.int .i64 (Pl.leastBackOut s t), .string (Pl.leastTextOut s t)], .bool (Pl.leastOk s t)]) ∧ Below w.heap.size w w' := by
  have hs' : s.size ≤ maxLen := by unfold maxLen; omega
  have ht' : t.size ≤ maxLen := by unfold maxLen; omega
  cases h1 : Pl.isScreen s
  · have E := Lib.hid (show Pl.leastOk s t = false by simp [Pl.leastOk, h1])
    go_enter Try.func39, Try.ntmps39
    go_wp2_with (first | (go_at_call 77; refine (l13Screen_any _ _ (by assumption)).mono ?_; rintro e w' ⟨rfl, rfl⟩))
    refine bodyPost_ret (v := .tuple #[.agg #[.int .i64 0, .string ⟨#[]⟩], .bool false]) (by simp [results, Try.results39, go_sem, *]) rfl ⟨?_, (by repeat (first | with_reducible exact Below.refl _ _ | with_reducible assumption | with_reducible refine Below.alloc ?_ ?_ _ | with_reducible refine Below.setCell ?_ ?_ _ | with_reducible refine Below.drew ?_ | with_reducible refine below_drewN ?_ _ | with_reducible refine Below.trans ?_ (Below.mono (by assumption) ?_) | omega | ((repeat (first | rw [World.size_alloc] | rw [size_setCell] | rw [size_drewN] | rw [size_drew])); omega) | exact Nat.le_refl _ | (dsimp only; omega) | (simp [World.setCell]; omega)))⟩
    unfold Pl.leastBackOut Pl.leastTextOut; rw [E.out]; rfl
  · cases h2 : Pl.isScreen t
    · have E := Lib.hid (show Pl.leastOk s t = false by simp [Pl.leastOk, h2])
      go_enter Try.func39, Try.ntmps39
      go_wp2_with (first | (go_at_call 77; refine (l13Screen_any _ _ (by assumption)).mono ?_; rintro e w' ⟨rfl, rfl⟩))
      refine bodyPost_ret (v := .tuple #[.agg #[.int .i64 0, .string ⟨#[]⟩], .bool false]) (by simp [results, Try.results39, go_sem, *]) rfl ⟨?_, (by repeat (first | with_reducible exact Below.refl _ _ | with_reducible assumption | with_reducible refine Below.alloc ?_ ?_ _ | with_reducible refine Below.setCell ?_ ?_ _ | with_reducible refine Below.drew ?_ | with_reducible refine below_drewN ?_ _ | with_reducible refine Below.trans ?_ (Below.mono (by assumption) ?_) | omega | ((repeat (first | rw [World.size_alloc] | rw [size_setCell] | rw [size_drewN] | rw [size_drew])); omega) | exact Nat.le_refl _ | (dsimp only; omega) | (simp [World.setCell]; omega)))⟩
      unfold Pl.leastBackOut Pl.leastTextOut; rw [E.out]; rfl
    · have E := Lib.hid (show Pl.leastOk s t = true by simp [Pl.leastOk, h1, h2])
      go_enter Try.func39, Try.ntmps39
      go_wp2_with (first | (go_at_call 77; refine (l13Screen_any _ _ (by assumption)).mono ?_; rintro e w' ⟨rfl, rfl⟩) | (go_at_call 78; refine (l13Least_any _ _ _ hs ht).mono ?_; rintro e w2 ⟨rfl, hb2⟩; have hcf := bcell hb2; have hz2 := hb2.size; (repeat (first | simp only [World.size_alloc] at hz2 hcf | simp only [size_setCell] at hz2 hcf | simp only [size_drewN] at hz2 hcf | simp only [size_drew] at hz2 hcf)); obtain ⟨hc2, hf2⟩ := hcf; (try have htA : w.heap.size < w2.heap.size := by omega); (try have htB : w.heap.size + 1 < w2.heap.size := by omega); (try have htC : w.heap.size + 2 < w2.heap.size := by omega)))
      refine bodyPost_ret (v := .tuple #[.agg #[.int .i64 (Pl.leastBack s t), .string (Pl.leastText s t)], .bool true]) (by simp [results, Try.results39, go_sem, *]) rfl ⟨?_, (by repeat (first | with_reducible exact Below.refl _ _ | with_reducible assumption | with_reducible refine Below.alloc ?_ ?_ _ | with_reducible refine Below.setCell ?_ ?_ _ | with_reducible refine Below.drew ?_ | with_reducible refine below_drewN ?_ _ | with_reducible refine Below.trans ?_ (Below.mono (by assumption) ?_) | omega | ((repeat (first | rw [World.size_alloc] | rw [size_setCell] | rw [size_drewN] | rw [size_drew])); omega) | exact Nat.le_refl _ | (dsimp only; omega) | (simp [World.setCell]; omega)))⟩
      unfold Pl.leastBackOut Pl.leastTextOut; rw [E.out]; rfl

set_option maxHeartbeats 400000 in
theorem eqEdit_same (b : Int) (t : ByteArray) (w : World) :
    Calls Try.prog 41 #[.agg #[.int .i64 b, .string t], .agg #[.int .i64 b, .string t]] w fun e w' => e = .returned (.bool true) ∧ Below w.heap.size w w' := by
  go_enter Try.func41, Try.ntmps41
  go_wp2
  go_ret
  exact ⟨rfl, (by repeat (first | with_reducible exact Below.refl _ _ | with_reducible assumption | with_reducible refine Below.alloc ?_ ?_ _ | with_reducible refine Below.setCell ?_ ?_ _ | with_reducible refine Below.drew ?_ | with_reducible refine below_drewN ?_ _ | with_reducible refine Below.trans ?_ (Below.mono (by assumption) ?_) | omega | ((repeat (first | rw [World.size_alloc] | rw [size_setCell] | rw [size_drewN] | rw [size_drew])); omega) | exact Nat.le_refl _ | (dsimp only; omega) | (simp [World.setCell]; omega)))⟩

set_option maxHeartbeats 800000 in
theorem ApplyEdit_any (s : ByteArray) (b : Int) (t : ByteArray) (w : World) (hs : s.size ≤ 1048576) (ht : t.size ≤ 1048576) :
    Calls Try.prog 43 #[.string s, .agg #[.int .i64 b, .string t]] w fun e w' => e = .returned (.tuple #[.string (Pl.applyOut s b t), .bool (Pl.applyOk s b t)]) ∧ Below w.heap.size w w' := by
  have hs' : s.size ≤ maxLen := by unfold maxLen; omega
  have ht' : t.size ≤ maxLen := by unfold maxLen; omega
  cases h1 : Pl.isScreen s
  · have E := Lib.hid (show Pl.applyOk s b t = false by simp [Pl.applyOk, h1])
    go_enter Try.func43, Try.ntmps43
    go_wp2_with (first | (go_at_call 57; refine (isScreen_any _ _ hs').mono ?_; rintro e w' ⟨rfl, rfl⟩))
    go_ret2
    exact ⟨ret_strb (by unfold Pl.applyOut; rw [E.out]; rfl) E.out.symm, (by repeat (first | with_reducible exact Below.refl _ _ | with_reducible assumption | with_reducible refine Below.alloc ?_ ?_ _ | with_reducible refine Below.setCell ?_ ?_ _ | with_reducible refine Below.drew ?_ | with_reducible refine below_drewN ?_ _ | with_reducible refine Below.trans ?_ (Below.mono (by assumption) ?_) | omega | ((repeat (first | rw [World.size_alloc] | rw [size_setCell] | rw [size_drewN] | rw [size_drew])); omega) | exact Nat.le_refl _ | (dsimp only; omega) | (simp [World.setCell]; omega)))⟩
  · cases h2 : Pl.validEdit b t
    · have E := Lib.hid (show Pl.applyOk s b t = false by simp [Pl.applyOk, h2])
      go_enter Try.func43, Try.ntmps43
      go_wp2_with (first | (go_at_call 57; refine (isScreen_any _ _ hs').mono ?_; rintro e w' ⟨rfl, rfl⟩) | (go_at_call 20; refine (IsValidEdit_any _ _ _ ht').mono ?_; rintro e w2 ⟨rfl, hb2⟩; have hcf := bcell hb2; have hz2 := hb2.size; (repeat (first | simp only [World.size_alloc] at hz2 hcf | simp only [size_setCell] at hz2 hcf | simp only [size_drewN] at hz2 hcf | simp only [size_drew] at hz2 hcf)); obtain ⟨hc2, hf2⟩ := hcf; (try have htA : w.heap.size < w2.heap.size := by omega); (try have htB : w.heap.size + 1 < w2.heap.size := by omega); (try have htC : w.heap.size + 2 < w2.heap.size := by omega)))
      go_ret2
      exact ⟨ret_strb (by unfold Pl.applyOut; rw [E.out]; rfl) E.out.symm, (by repeat (first | with_reducible exact Below.refl _ _ | with_reducible assumption | with_reducible refine Below.alloc ?_ ?_ _ | with_reducible refine Below.setCell ?_ ?_ _ | with_reducible refine Below.drew ?_ | with_reducible refine below_drewN ?_ _ | with_reducible refine Below.trans ?_ (Below.mono (by assumption) ?_) | omega | ((repeat (first | rw [World.size_alloc] | rw [size_setCell] | rw [size_drewN] | rw [size_drew])); omega) | exact Nat.le_refl _ | (dsimp only; omega) | (simp [World.setCell]; omega)))⟩
    · obtain ⟨hb0, hb1⟩ := Pl.validEdit_bd h2
      have hss := Pl.isScreen_size h1
      have hts := Pl.isScreen_size (Pl.validEdit_screen h2)
      by_cases h3 : b ≤ s.size
      · have hz := Pl.applied_size (t := t) hb0 h3
        have hbn : (((s.size : Int) - b).toNat) = s.size - b.toNat := by omega
        have hw3 : IntKind.i64.wrap ((s.size : Int) - b) = (s.size : Int) - b := IntWalk.i64_in _ (by omega)
        have h03 : (0 : Int) ≤ (s.size : Int) - b := by omega
        have hA : s.extract 0 (s.size - b.toNat) ++ t = Pl.applied s b t := rfl
        have hsc := Pl.applied_screen (b := b) h1 (Pl.validEdit_screen h2)
        have hexz : (s.extract 0 (s.size - b.toNat)).size ≤ 2000 := by simp; omega
        by_cases h4 : (Pl.applied s b t).size ≤ 2000
        · have E := Lib.hid (show Pl.applyOk s b t = true by simp [Pl.applyOk, h1, h2, h3, h4])
          have hsc' : Pl.isScreen (Pl.applied s b t) = true := by rw [hsc]; simp [h4]
          have hal : (Pl.applied s b t).size ≤ maxLen := by unfold maxLen; omega
          clear hsc hz
          go_enter Try.func43, Try.ntmps43
          go_wp2_with (first | (go_at_call 57; refine (isScreen_any _ _ (by assumption)).mono ?_; rintro e w' ⟨rfl, rfl⟩) | (go_at_call 20; refine (IsValidEdit_any _ _ _ ht').mono ?_; rintro e w2 ⟨rfl, hb2⟩; have hcf := bcell hb2; have hz2 := hb2.size; (repeat (first | simp only [World.size_alloc] at hz2 hcf | simp only [size_setCell] at hz2 hcf | simp only [size_drewN] at hz2 hcf | simp only [size_drew] at hz2 hcf)); obtain ⟨hc2, hf2⟩ := hcf; (try have htA : w.heap.size < w2.heap.size := by omega); (try have htB : w.heap.size + 1 < w2.heap.size := by omega); (try have htC : w.heap.size + 2 < w2.heap.size := by omega)))
          go_quiet (fail)
          go_wp2_with (first | (go_at_call 57; refine (isScreen_any _ _ (by assumption)).mono ?_; rintro e w' ⟨rfl, rfl⟩))
          go_ret2
          exact ⟨ret_strb (by unfold Pl.applyOut; rw [E.out]; rfl) E.out.symm, (by repeat (first | with_reducible exact Below.refl _ _ | with_reducible assumption | with_reducible refine Below.alloc ?_ ?_ _ | with_reducible refine Below.setCell ?_ ?_ _ | with_reducible refine Below.drew ?_ | with_reducible refine below_drewN ?_ _ | with_reducible refine Below.trans ?_ (Below.mono (by assumption) ?_) | omega | ((repeat (first | rw [World.size_alloc] | rw [size_setCell] | rw [size_drewN] | rw [size_drew])); omega) | exact Nat.le_refl _ | (dsimp only; omega) | (simp [World.setCell]; omega)))⟩
        · have E := Lib.hid (show Pl.applyOk s b t = false by simp [Pl.applyOk, h4])
          have hsc' : Pl.isScreen (Pl.applied s b t) = false := by rw [hsc]; simp; omega
          have hal : (Pl.applied s b t).size ≤ maxLen := by unfold maxLen; omega
          have hgt : (2000 : Int) < ((Pl.applied s b t).size : Int) := by omega
          clear hsc hz h4
          go_enter Try.func43, Try.ntmps43
          go_wp2_with (first | (go_at_call 57; refine (isScreen_any _ _ (by assumption)).mono ?_; rintro e w' ⟨rfl, rfl⟩) | (go_at_call 20; refine (IsValidEdit_any _ _ _ ht').mono ?_; rintro e w2 ⟨rfl, hb2⟩; have hcf := bcell hb2; have hz2 := hb2.size; (repeat (first | simp only [World.size_alloc] at hz2 hcf | simp only [size_setCell] at hz2 hcf | simp only [size_drewN] at hz2 hcf | simp only [size_drew] at hz2 hcf)); obtain ⟨hc2, hf2⟩ := hcf; (try have htA : w.heap.size < w2.heap.size := by omega); (try have htB : w.heap.size + 1 < w2.heap.size := by omega); (try have htC : w.heap.size + 2 < w2.heap.size := by omega)))
          go_quiet (fail)
          go_wp2_with (first | (go_at_call 57; refine (isScreen_any _ _ (by assumption)).mono ?_; rintro e w' ⟨rfl, rfl⟩))
          go_ret2
          exact ⟨ret_strb (by unfold Pl.applyOut; rw [E.out]; rfl) E.out.symm, (by repeat (first | with_reducible exact Below.refl _ _ | with_reducible assumption | with_reducible refine Below.alloc ?_ ?_ _ | with_reducible refine Below.setCell ?_ ?_ _ | with_reducible refine Below.drew ?_ | with_reducible refine below_drewN ?_ _ | with_reducible refine Below.trans ?_ (Below.mono (by assumption) ?_) | omega | ((repeat (first | rw [World.size_alloc] | rw [size_setCell] | rw [size_drewN] | rw [size_drew])); omega) | exact Nat.le_refl _ | (dsimp only; omega) | (simp [World.setCell]; omega)))⟩
      · have E := Lib.hid (show Pl.applyOk s b t = false by simp [Pl.applyOk, h3])
        go_enter Try.func43, Try.ntmps43
        go_wp2_with (first | (go_at_call 57; refine (isScreen_any _ _ hs').mono ?_; rintro e w' ⟨rfl, rfl⟩) | (go_at_call 20; refine (IsValidEdit_any _ _ _ ht').mono ?_; rintro e w2 ⟨rfl, hb2⟩; have hcf := bcell hb2; have hz2 := hb2.size; (repeat (first | simp only [World.size_alloc] at hz2 hcf | simp only [size_setCell] at hz2 hcf | simp only [size_drewN] at hz2 hcf | simp only [size_drew] at hz2 hcf)); obtain ⟨hc2, hf2⟩ := hcf; (try have htA : w.heap.size < w2.heap.size := by omega); (try have htB : w.heap.size + 1 < w2.heap.size := by omega); (try have htC : w.heap.size + 2 < w2.heap.size := by omega)))
        go_ret2
        exact ⟨ret_strb (by unfold Pl.applyOut; rw [E.out]; rfl) E.out.symm, (by repeat (first | with_reducible exact Below.refl _ _ | with_reducible assumption | with_reducible refine Below.alloc ?_ ?_ _ | with_reducible refine Below.setCell ?_ ?_ _ | with_reducible refine Below.drew ?_ | with_reducible refine below_drewN ?_ _ | with_reducible refine Below.trans ?_ (Below.mono (by assumption) ?_) | omega | ((repeat (first | rw [World.size_alloc] | rw [size_setCell] | rw [size_drewN] | rw [size_drew])); omega) | exact Nat.le_refl _ | (dsimp only; omega) | (simp [World.setCell]; omega)))⟩

set_option maxHeartbeats 800000 in
theorem specApplyEdit_any (s : ByteArray) (b : Int) (t : ByteArray) (w : World) (hs : s.size ≤ 1048576) (ht : t.size ≤ 1048576) :
    Calls Try.prog 42 #[.string s, .agg #[.int .i64 b, .string t]] w fun e w' => e = .returned (.tuple #[.string (Pl.applyOut s b t), .bool (Pl.applyOk s b t)]) ∧ Below w.heap.size w w' := by
  have hs' : s.size ≤ maxLen := by unfold maxLen; omega
  have ht' : t.size ≤ maxLen := by unfold maxLen; omega
  cases h1 : Pl.isScreen s
  · have E := Lib.hid (show Pl.applyOk s b t = false by simp [Pl.applyOk, h1])
    go_enter Try.func42, Try.ntmps42
    go_wp2_with (first | (go_at_call 77; refine (l13Screen_any _ _ hs').mono ?_; rintro e w' ⟨rfl, rfl⟩))
    go_ret2
    exact ⟨ret_strb (by unfold Pl.applyOut; rw [E.out]; rfl) E.out.symm, (by repeat (first | with_reducible exact Below.refl _ _ | with_reducible assumption | with_reducible refine Below.alloc ?_ ?_ _ | with_reducible refine Below.setCell ?_ ?_ _ | with_reducible refine Below.drew ?_ | with_reducible refine below_drewN ?_ _ | with_reducible refine Below.trans ?_ (Below.mono (by assumption) ?_) | omega | ((repeat (first | rw [World.size_alloc] | rw [size_setCell] | rw [size_drewN] | rw [size_drew])); omega) | exact Nat.le_refl _ | (dsimp only; omega) | (simp [World.setCell]; omega)))⟩
  · cases h2 : Pl.validEdit b t
    · have E := Lib.hid (show Pl.applyOk s b t = false by simp [Pl.applyOk, h2])
      go_enter Try.func42, Try.ntmps42
      go_wp2_with (first | (go_at_call 77; refine (l13Screen_any _ _ hs').mono ?_; rintro e w' ⟨rfl, rfl⟩) | (go_at_call 56; refine (l13Good_any _ _ _ ht').mono ?_; rintro e w2 ⟨rfl, hb2⟩; have hcf := bcell hb2; have hz2 := hb2.size; (repeat (first | simp only [World.size_alloc] at hz2 hcf | simp only [size_setCell] at hz2 hcf | simp only [size_drewN] at hz2 hcf | simp only [size_drew] at hz2 hcf)); obtain ⟨hc2, hf2⟩ := hcf; (try have htA : w.heap.size < w2.heap.size := by omega); (try have htB : w.heap.size + 1 < w2.heap.size := by omega); (try have htC : w.heap.size + 2 < w2.heap.size := by omega)))
      go_ret2
      exact ⟨ret_strb (by unfold Pl.applyOut; rw [E.out]; rfl) E.out.symm, (by repeat (first | with_reducible exact Below.refl _ _ | with_reducible assumption | with_reducible refine Below.alloc ?_ ?_ _ | with_reducible refine Below.setCell ?_ ?_ _ | with_reducible refine Below.drew ?_ | with_reducible refine below_drewN ?_ _ | with_reducible refine Below.trans ?_ (Below.mono (by assumption) ?_) | omega | ((repeat (first | rw [World.size_alloc] | rw [size_setCell] | rw [size_drewN] | rw [size_drew])); omega) | exact Nat.le_refl _ | (dsimp only; omega) | (simp [World.setCell]; omega)))⟩
    · obtain ⟨hb0, hb1⟩ := Pl.validEdit_bd h2
      have hss := Pl.isScreen_size h1
      have hts := Pl.isScreen_size (Pl.validEdit_screen h2)
      by_cases h3 : b ≤ s.size
      · have hz := Pl.applied_size (t := t) hb0 h3
        have hbn : (((s.size : Int) - b).toNat) = s.size - b.toNat := by omega
        have hw3 : IntKind.i64.wrap ((s.size : Int) - b) = (s.size : Int) - b := IntWalk.i64_in _ (by omega)
        have h03 : (0 : Int) ≤ (s.size : Int) - b := by omega
        have hA : s.extract 0 (s.size - b.toNat) ++ t = Pl.applied s b t := rfl
        have hsc := Pl.applied_screen (b := b) h1 (Pl.validEdit_screen h2)
        have hexz : (s.extract 0 (s.size - b.toNat)).size ≤ 2000 := by simp; omega
        by_cases h4 : (Pl.applied s b t).size ≤ 2000
        · have E := Lib.hid (show Pl.applyOk s b t = true by simp [Pl.applyOk, h1, h2, h3, h4])
          have hsc' : Pl.isScreen (Pl.applied s b t) = true := by rw [hsc]; simp [h4]
          have hal : (Pl.applied s b t).size ≤ maxLen := by unfold maxLen; omega
          clear hsc hz
          go_enter Try.func42, Try.ntmps42
          go_wp2_with (first | (go_at_call 77; refine (l13Screen_any _ _ (by assumption)).mono ?_; rintro e w' ⟨rfl, rfl⟩) | (go_at_call 56; refine (l13Good_any _ _ _ ht').mono ?_; rintro e w2 ⟨rfl, hb2⟩; have hcf := bcell hb2; have hz2 := hb2.size; (repeat (first | simp only [World.size_alloc] at hz2 hcf | simp only [size_setCell] at hz2 hcf | simp only [size_drewN] at hz2 hcf | simp only [size_drew] at hz2 hcf)); obtain ⟨hc2, hf2⟩ := hcf; (try have htA : w.heap.size < w2.heap.size := by omega); (try have htB : w.heap.size + 1 < w2.heap.size := by omega); (try have htC : w.heap.size + 2 < w2.heap.size := by omega)))
          go_quiet (fail)
          go_wp2_with (first | (go_at_call 77; refine (l13Screen_any _ _ (by assumption)).mono ?_; rintro e w' ⟨rfl, rfl⟩))
          go_ret2
          exact ⟨ret_strb (by unfold Pl.applyOut; rw [E.out]; rfl) E.out.symm, (by repeat (first | with_reducible exact Below.refl _ _ | with_reducible assumption | with_reducible refine Below.alloc ?_ ?_ _ | with_reducible refine Below.setCell ?_ ?_ _ | with_reducible refine Below.drew ?_ | with_reducible refine below_drewN ?_ _ | with_reducible refine Below.trans ?_ (Below.mono (by assumption) ?_) | omega | ((repeat (first | rw [World.size_alloc] | rw [size_setCell] | rw [size_drewN] | rw [size_drew])); omega) | exact Nat.le_refl _ | (dsimp only; omega) | (simp [World.setCell]; omega)))⟩
        · have E := Lib.hid (show Pl.applyOk s b t = false by simp [Pl.applyOk, h4])
          have hsc' : Pl.isScreen (Pl.applied s b t) = false := by rw [hsc]; simp; omega
          have hal : (Pl.applied s b t).size ≤ maxLen := by unfold maxLen; omega
          have hgt : (2000 : Int) < ((Pl.applied s b t).size : Int) := by omega
          clear hsc hz h4
          go_enter Try.func42, Try.ntmps42
          go_wp2_with (first | (go_at_call 77; refine (l13Screen_any _ _ (by assumption)).mono ?_; rintro e w' ⟨rfl, rfl⟩) | (go_at_call 56; refine (l13Good_any _ _ _ ht').mono ?_; rintro e w2 ⟨rfl, hb2⟩; have hcf := bcell hb2; have hz2 := hb2.size; (repeat (first | simp only [World.size_alloc] at hz2 hcf | simp only [size_setCell] at hz2 hcf | simp only [size_drewN] at hz2 hcf | simp only [size_drew] at hz2 hcf)); obtain ⟨hc2, hf2⟩ := hcf; (try have htA : w.heap.size < w2.heap.size := by omega); (try have htB : w.heap.size + 1 < w2.heap.size := by omega); (try have htC : w.heap.size + 2 < w2.heap.size := by omega)))
          go_quiet (fail)
          go_wp2_with (first | (go_at_call 77; refine (l13Screen_any _ _ (by assumption)).mono ?_; rintro e w' ⟨rfl, rfl⟩))
          go_ret2
          exact ⟨ret_strb (by unfold Pl.applyOut; rw [E.out]; rfl) E.out.symm, (by repeat (first | with_reducible exact Below.refl _ _ | with_reducible assumption | with_reducible refine Below.alloc ?_ ?_ _ | with_reducible refine Below.setCell ?_ ?_ _ | with_reducible refine Below.drew ?_ | with_reducible refine below_drewN ?_ _ | with_reducible refine Below.trans ?_ (Below.mono (by assumption) ?_) | omega | ((repeat (first | rw [World.size_alloc] | rw [size_setCell] | rw [size_drewN] | rw [size_drew])); omega) | exact Nat.le_refl _ | (dsimp only; omega) | (simp [World.setCell]; omega)))⟩
      · have E := Lib.hid (show Pl.applyOk s b t = false by simp [Pl.applyOk, h3])
        go_enter Try.func42, Try.ntmps42
        go_wp2_with (first | (go_at_call 77; refine (l13Screen_any _ _ hs').mono ?_; rintro e w' ⟨rfl, rfl⟩) | (go_at_call 56; refine (l13Good_any _ _ _ ht').mono ?_; rintro e w2 ⟨rfl, hb2⟩; have hcf := bcell hb2; have hz2 := hb2.size; (repeat (first | simp only [World.size_alloc] at hz2 hcf | simp only [size_setCell] at hz2 hcf | simp only [size_drewN] at hz2 hcf | simp only [size_drew] at hz2 hcf)); obtain ⟨hc2, hf2⟩ := hcf; (try have htA : w.heap.size < w2.heap.size := by omega); (try have htB : w.heap.size + 1 < w2.heap.size := by omega); (try have htC : w.heap.size + 2 < w2.heap.size := by omega)))
        go_ret2
        exact ⟨ret_strb (by unfold Pl.applyOut; rw [E.out]; rfl) E.out.symm, (by repeat (first | with_reducible exact Below.refl _ _ | with_reducible assumption | with_reducible refine Below.alloc ?_ ?_ _ | with_reducible refine Below.setCell ?_ ?_ _ | with_reducible refine Below.drew ?_ | with_reducible refine below_drewN ?_ _ | with_reducible refine Below.trans ?_ (Below.mono (by assumption) ?_) | omega | ((repeat (first | rw [World.size_alloc] | rw [size_setCell] | rw [size_drewN] | rw [size_drew])); omega) | exact Nat.le_refl _ | (dsimp only; omega) | (simp [World.setCell]; omega)))⟩

end Go.Proofs.Ytpdmhkmomfjcmaa
