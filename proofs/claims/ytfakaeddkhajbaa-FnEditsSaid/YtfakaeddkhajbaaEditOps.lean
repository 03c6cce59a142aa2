/-
  CONTRACTS: LeastEdit, ApplyEdit of the program and the reference; eqEdit.
-/
import Derived.Test.YtfakaeddkhajbaaPlainEdit
import Derived.Test.YtfakaeddkhajbaaEdit
import Derived.Deep.QuietTactic
import Derived.BigQuiet
import Derived.IntWalk
namespace Go.Proofs.Ytfakaeddkhajbaa
open Go.RowKit

set_option maxHeartbeats 800000 in
theorem leastEdit_any (s t : ByteArray) (w : World) (hs : s.size ≤ 1048576) (ht : t.size ≤ 1048576) :
    Calls Try.prog 73 #[.string s, .string t] w fun e w' => e = .returned (.agg #[.int .i64 (Pl.leastBack s t), .string (Pl.leastText s t)]) ∧ Below w.heap.size w w' := by
  go_enter Try.func73, Try.ntmps73
  go_wp2
  go_loopw [5] (fun i wr => ∃ k : Nat, k ≤ s.size ∧ k ≤ t.size ∧ i = .int .i64 k ∧ Pl.cplAt s t k ∧ ∃ n, wr = (w.alloc (.cells #[.int .i64 0, .string ⟨#[]⟩] 27)).drewN n) (fun i _ => s.size - (intOf i).toNat)
  case atStart => exact ⟨0, Nat.zero_le _, Nat.zero_le _, rfl, Pl.cplAt_zero s t, 0, rfl⟩
  case round =>
    obtain ⟨k, hk, hk2, rfl, hinv, n, rfl⟩ := hrel
    have HI := Lib.hid hinv; clear hinv
    by_cases h1 : k < s.size
    · have hd1 : ((k : Int) < (s.size : Int)) := by omega
      by_cases h2 : k < t.size
      · have hd2 : ((k : Int) < (t.size : Int)) := by omega
        have e1 := Pl.byteAt_eq s k h1
        have e2 := Pl.byteAt_eq t k h2
        by_cases h3 : Pl.byteAt s k = Pl.byteAt t k
        · have HI1 := Lib.hid (Pl.cplAt_succ h1 h2 h3 HI.out)
          have hb : (Pl.byteAt s k == Pl.byteAt t k) = true := by simp [h3]
          clear h3
          go_wp2
          go_quiet (fail)
          go_wp2
          go_roundw
          case rel => exact ⟨k + 1, by omega, by omega, by go_num, HI1.out, _, rfl⟩
          case measure => simp [intOf]; omega
        · have HE := Lib.hid (Pl.cplAt_ne h1 h2 h3 HI.out)
          have hb : (Pl.byteAt s k == Pl.byteAt t k) = false := by simp [h3]
          clear h3
          go_wp2
          go_quiet (fail)
          go_wp2
          exact bodyPost_ret (v := .agg #[.int .i64 ((s.size : Int) - k), .string (t.extract k t.size)]) (by simp [results, Try.results73, go_sem, *]) rfl ⟨by unfold Pl.leastBack Pl.leastText Pl.comm; rw [HE.out], (by repeat (first | with_reducible exact Below.refl _ _ | with_reducible assumption | with_reducible refine Below.alloc ?_ ?_ _ | with_reducible refine Below.setCell ?_ ?_ _ | with_reducible refine Below.drew ?_ | with_reducible refine below_drewN ?_ _ | with_reducible refine Below.trans ?_ (Below.mono (by assumption) ?_) | omega | ((repeat (first | rw [World.size_alloc] | rw [size_setCell] | rw [size_drewN] | rw [size_drew])); omega) | exact Nat.le_refl _ | (dsimp only; omega) | (simp [World.setCell]; omega)))⟩
      · have HE := Lib.hid (Pl.cplAt_right (by omega) HI.out)
        have hd2 : decide ((k : Int) < (t.size : Int)) = false := by simp; omega
        go_wp2
        go_quiet (fail)
        go_wp2
        exact bodyPost_ret (v := .agg #[.int .i64 ((s.size : Int) - k), .string (t.extract k t.size)]) (by simp [results, Try.results73, go_sem, *]) rfl ⟨by unfold Pl.leastBack Pl.leastText Pl.comm; rw [HE.out], (by repeat (first | with_reducible exact Below.refl _ _ | with_reducible assumption | with_reducible refine Below.alloc ?_ ?_ _ | with_reducible refine Below.setCell ?_ ?_ _ | with_reducible refine Below.drew ?_ | with_reducible refine below_drewN ?_ _ | with_reducible refine Below.trans ?_ (Below.mono (by assumption) ?_) | omega | ((repeat (first | rw [World.size_alloc] | rw [size_setCell] | rw [size_drewN] | rw [size_drew])); omega) | exact Nat.le_refl _ | (dsimp only; omega) | (simp [World.setCell]; omega)))⟩
    · have HE := Lib.hid (Pl.cplAt_left (by omega) HI.out)
      have hd1 : decide ((k : Int) < (s.size : Int)) = false := by simp; omega
      go_wp2
      go_quiet (fail)
      go_wp2
      exact bodyPost_ret (v := .agg #[.int .i64 ((s.size : Int) - k), .string (t.extract k t.size)]) (by simp [results, Try.results73, go_sem, *]) rfl ⟨by unfold Pl.leastBack Pl.leastText Pl.comm; rw [HE.out], (by repeat (first | with_reducible exact Below.refl _ _ | with_reducible assumption | with_reducible refine Below.alloc ?_ ?_ _ | with_reducible refine Below.setCell ?_ ?_ _ | with_reducible refine Below.drew ?_ | with_reducible refine below_drewN ?_ _ | with_reducible refine Below.trans ?_ (Below.mono (by assumption) ?_) | omega | ((repeat (first | rw [World.size_alloc] | rw [size_setCell] | rw [size_drewN] | rw [size_drew])); omega) | exact Nat.le_refl _ | (dsimp only; omega) | (simp [World.setCell]; omega)))⟩

set_option maxHeartbeats 800000 in
theorem l13Least_any (s t : ByteArray) (w : World) (hs : s.size ≤ 1048576) (ht : t.size ≤ 1048576) :
    Calls Try.prog 75 #[.string s, .string t] w fun e w' => e = .returned (.agg #[.int .i64 (Pl.leastBack s t), .string (Pl.leastText s t)]) ∧ Below w.heap.size w w' := by
  go_enter Try.func75, Try.ntmps75
  go_wp2
  go_loopw [5] (fun i wr => ∃ k : Nat, k ≤ s.size ∧ k ≤ t.size ∧ i = .int .i64 k ∧ Pl.cplAt s t k ∧ ∃ n, wr = (w.alloc (.cells #[.int .i64 0, .string ⟨#[]⟩] 27)).drewN n) (fun i _ => s.size - (intOf i).toNat)
  case atStart => exact ⟨0, Nat.zero_le _, Nat.zero_le _, rfl, Pl.cplAt_zero s t, 0, rfl⟩
  case round =>
    obtain ⟨k, hk, hk2, rfl, hinv, n, rfl⟩ := hrel
    have HI := Lib.hid hinv; clear hinv
    by_cases h1 : k < s.size
    · have hd1 : ((k : Int) < (s.size : Int)) := by omega
      by_cases h2 : k < t.size
      · have hd2 : ((k : Int) < (t.size : Int)) := by omega
        have e1 := Pl.byteAt_eq s k h1
        have e2 := Pl.byteAt_eq t k h2
        by_cases h3 : Pl.byteAt s k = Pl.byteAt t k
        · have HI1 := Lib.hid (Pl.cplAt_succ h1 h2 h3 HI.out)
          have hb : (Pl.byteAt s k == Pl.byteAt t k) = true := by simp [h3]
          clear h3
          go_wp2
          go_quiet (fail)
          go_wp2
          go_roundw
          case rel => exact ⟨k + 1, by omega, by omega, by go_num, HI1.out, _, rfl⟩
          case measure => simp [intOf]; omega
        · have HE := Lib.hid (Pl.cplAt_ne h1 h2 h3 HI.out)
          have hb : (Pl.byteAt s k == Pl.byteAt t k) = false := by simp [h3]
          clear h3
          go_wp2
          go_quiet (fail)
          go_wp2
          exact bodyPost_ret (v := .agg #[.int .i64 ((s.size : Int) - k), .string (t.extract k t.size)]) (by simp [results, Try.results75, go_sem, *]) rfl ⟨by unfold Pl.leastBack Pl.leastText Pl.comm; rw [HE.out], (by repeat (first | with_reducible exact Below.refl _ _ | with_reducible assumption | with_reducible refine Below.alloc ?_ ?_ _ | with_reducible refine Below.setCell ?_ ?_ _ | with_reducible refine Below.drew ?_ | with_reducible refine below_drewN ?_ _ | with_reducible refine Below.trans ?_ (Below.mono (by assumption) ?_) | omega | ((repeat (first | rw [World.size_alloc] | rw [size_setCell] | rw [size_drewN] | rw [size_drew])); omega) | exact Nat.le_refl _ | (dsimp only; omega) | (simp [World.setCell]; omega)))⟩
      · have HE := Lib.hid (Pl.cplAt_right (by omega) HI.out)
        have hd2 : decide ((k : Int) < (t.size : Int)) = false := by simp; omega
        go_wp2
        go_quiet (fail)
        go_wp2
        exact bodyPost_ret (v := .agg #[.int .i64 ((s.size : Int) - k), .string (t.extract k t.size)]) (by simp [results, Try.results75, go_sem, *]) rfl ⟨by unfold Pl.leastBack Pl.leastText Pl.comm; rw [HE.out], (by repeat (first | with_reducible exact Below.refl _ _ | with_reducible assumption | with_reducible refine Below.alloc ?_ ?_ _ | with_reducible refine Below.setCell ?_ ?_ _ | with_reducible refine Below.drew ?_ | with_reducible refine below_drewN ?_ _ | with_reducible refine Below.trans ?_ (Below.mono (by assumption) ?_) | omega | ((repeat (first | rw [World.size_alloc] | rw [size_setCell] | rw [size_drewN] | rw [size_drew])); omega) | exact Nat.le_refl _ | (dsimp only; omega) | (simp [World.setCell]; omega)))⟩
    · have HE := Lib.hid (Pl.cplAt_left (by omega) HI.out)
      have hd1 : decide ((k : Int) < (s.size : Int)) = false := by simp; omega
      go_wp2
      go_quiet (fail)
      go_wp2
      exact bodyPost_ret (v := .agg #[.int .i64 ((s.size : Int) - k), .string (t.extract k t.size)]) (by simp [results, Try.results75, go_sem, *]) rfl ⟨by unfold Pl.leastBack Pl.leastText Pl.comm; rw [HE.out], (by repeat (first | with_reducible exact Below.refl _ _ | with_reducible assumption | with_reducible refine Below.alloc ?_ ?_ _ | with_reducible refine Below.setCell ?_ ?_ _ | with_reducible refine Below.drew ?_ | with_reducible refine below_drewN ?_ _ | with_reducible refine Below.trans ?_ (Below.mono (by assumption) ?_) | omega | ((repeat (first | rw [World.size_alloc] | rw [size_setCell] | rw [size_drewN] | rw [size_drew])); omega) | exact Nat.le_refl _ | (dsimp only; omega) | (simp [World.setCell]; omega)))⟩

set_option maxHeartbeats 400000 in
theorem LeastEdit_any (s t : ByteArray) (w : World) (hs : s.size ≤ 1048576) (ht : t.size ≤ 1048576) :
    Calls Try.prog 16 #[.string s, .string t] w fun e w' => e = .returned (.tuple #[.agg #[.int .i64 (Pl.leastBackOut s t), .string (Pl.leastTextOut s t)], .bool (Pl.leastOk s t)]) ∧ Below w.heap.size w w' := by
  have hs' : s.size ≤ maxLen := by unfold maxLen; omega
  have ht' : t.size ≤ maxLen := by unfold maxLen; omega
  cases h1 : Pl.isScreen s
  · have E := Lib.hid (show Pl.leastOk s t = false by simp [Pl.leastOk, h1])
    go_enter Try.func16, Try.ntmps16
    go_wp2_with (first | (go_at_call 72; refine (isScreen_any _ _ (by assumption)).mono ?_; rintro e w' ⟨rfl, rfl⟩))
    refine bodyPost_ret (v := .tuple #[.agg #[.int .i64 0, .string ⟨#[]⟩], .bool false]) (by simp [results, Try.results16, go_sem, *]) rfl ⟨?_, (by repeat (first | with_reducible exact Below.refl _ _ | with_reducible assumption | with_reducible refine Below.alloc ?_ ?_ _ | with_reducible refine Below.setCell ?_ ?_ _ | with_reducible refine Below.drew ?_ | with_reducible refine below_drewN ?_ _ | with_reducible refine Below.trans ?_ (Below.mono (by assumption) ?_) | omega | ((repeat (first | rw [World.size_alloc] | rw [size_setCell] | rw [size_drewN] | rw [size_drew])); omega) | exact Nat.le_refl _ | (dsimp only; omega) | (simp [World.setCell]; omega)))⟩
    unfold Pl.leastBackOut Pl.leastTextOut; rw [E.out]; rfl
  · cases h2 : Pl.isScreen t
    · have E := Lib.hid (show Pl.leastOk s t = false by simp [Pl.leastOk, h2])
      go_enter Try.func16, Try.ntmps16
      go_wp2_with (first | (go_at_call 72; refine (isScreen_any _ _ (by assumption)).mono ?_; rintro e w' ⟨rfl, rfl⟩))
      refine bodyPost_ret (v := .tuple #[.agg #[.int .i64 0, .string ⟨#[]⟩], .bool false]) (by simp [results, Try.results16, go_sem, *]) rfl ⟨?_, (by repeat (first | with_reducible exact Below.refl _ _ | with_reducible assumption | with_reducible refine Below.alloc ?_ ?_ _ | with_reducible refine Below.setCell ?_ ?_ _ | with_reducible refine Below.drew ?_ | with_reducible refine below_drewN ?_ _ | with_reducible refine Below.trans ?_ (Below.mono (by assumption) ?_) | omega | ((repeat (first | rw [World.size_alloc] | rw [size_setCell] | rw [size_drewN] | rw [size_drew])); omega) | exact Nat.le_refl _ | (dsimp only; omega) | (simp [World.setCell]; omega)))⟩
      unfold Pl.leastBackOut Pl.leastTextOut; rw [E.out]; rfl
    · have E := Lib.hid (show Pl.leastOk s t = true by simp [Pl.leastOk, h1, h2])
      go_enter Try.func16, Try.ntmps16
      go_wp2_with (first | (go_at_call 72; refine (isScreen_any _ _ (by assumption)).mono ?_; rintro e w' ⟨rfl, rfl⟩) | (go_at_call 73; refine (leastEdit_any _ _ _ hs ht).mono ?_; rintro e w2 ⟨rfl, hb2⟩; have hcf := bcell hb2; have hz2 := hb2.size; (repeat (first | simp only [World.size_alloc] at hz2 hcf | simp only [size_setCell] at hz2 hcf | simp only [size_drewN] at hz2 hcf | simp only [size_drew] at hz2 hcf)); obtain ⟨hc2, hf2⟩ := hcf; (try have hn2a : _ < w2.heap.size := Nat.lt_of_lt_of_le hn2a (by omega)); (try have hn2b : _ < w2.heap.size := Nat.lt_of_lt_of_le hn2b (by omega)); (try have hn2c : _ < w2.heap.size := Nat.lt_of_lt_of_le hn2c (by omega)); (try have hn2d : _ < w2.heap.size := Nat.lt_of_lt_of_le hn2d (by omega)); (try have hn2e : _ < w2.heap.size := Nat.lt_of_lt_of_le hn2e (by omega)); (try have ho2a : _ < w2.heap.size := Nat.lt_of_lt_of_le ho2a (by omega)); (try have ho2b : _ < w2.heap.size := Nat.lt_of_lt_of_le ho2b (by omega)); (try have ho2c : _ < w2.heap.size := Nat.lt_of_lt_of_le ho2c (by omega)); (try have ho2d : _ < w2.heap.size := Nat.lt_of_lt_of_le ho2d (by omega)); (try have ho2e : _ < w2.heap.size := Nat.lt_of_lt_of_le ho2e (by omega)); (try have ho2a := hn2a); (try have ho2b := hn2b); (try have ho2c := hn2c); (try have ho2d := hn2d); (try have ho2e := hn2e); (try have hn2a := Nat.lt_of_succ_le hz2); (try have hn2b := Nat.lt_of_succ_lt hn2a); (try have hn2c := Nat.lt_of_succ_lt hn2b); (try have hn2d := Nat.lt_of_succ_lt hn2c); (try have hn2e := Nat.lt_of_succ_lt hn2d); (try have htA : w.heap.size < w2.heap.size := by omega)))
      refine bodyPost_ret (v := .tuple #[.agg #[.int .i64 (Pl.leastBack s t), .string (Pl.leastText s t)], .bool true]) (by simp [results, Try.results16, go_sem, *]) rfl ⟨?_, (by repeat (first | with_reducible exact Below.refl _ _ | with_reducible assumption | with_reducible refine Below.alloc ?_ ?_ _ | with_reducible refine Below.setCell ?_ ?_ _ | with_reducible refine Below.drew ?_ | with_reducible refine below_drewN ?_ _ | with_reducible refine Below.trans ?_ (Below.mono (by assumption) ?_) | omega | ((repeat (first | rw [World.size_alloc] | rw [size_setCell] | rw [size_drewN] | rw [size_drew])); omega) | exact Nat.le_refl _ | (dsimp only; omega) | (simp [World.setCell]; omega)))⟩
      unfold Pl.leastBackOut Pl.leastTextOut; rw [E.out]; rfl

set_option maxHeartbeats 400000 in
theorem specLeastEdit_any (s t : ByteArray) (w : World) (hs : s.size ≤ 1048576) (ht : t.size ≤ 1048576) :
    Calls Try.prog 17 #[.string s, .string t] w fun e w' => e = .returned (.tuple #[.agg #[.int .i64 (Pl.leastBackOut s t), .string (Pl.leastTextOut s t)], .bool (Pl.leastOk s t)]) ∧ Below w.heap.size w w' := by
  have hs' : s.size ≤ maxLen := by unfold maxLen; omega
  have ht' : t.size ≤ maxLen := by unfold maxLen; omega
  cases h1 : Pl.isScreen s
  · have E := Lib.hid (show Pl.leastOk s t = false by simp [Pl.leastOk, h1])
    go_enter Try.func17, Try.ntmps17
    go_wp2_with (first | (go_at_call 74; refine (l13Screen_any _ _ (by assumption)).mono ?_; rintro e w' ⟨rfl, rfl⟩))
    refine bodyPost_ret (v := .tuple #[.agg #[.int .i64 0, .string ⟨#[]⟩], .bool false]) (by simp [results, Try.results17, go_sem, *]) rfl ⟨?_, (by repeat (first | with_reducible exact Below.refl _ _ | with_reducible assumption | with_reducible refine Below.alloc ?_ ?_ _ | with_reducible refine Below.setCell ?_ ?_ _ | with_reducible refine Below.drew ?_ | with_reducible refine below_drewN ?_ _ | with_reducible refine Below.trans ?_ (Below.mono (by assumption) ?_) | omega | ((repeat (first | rw [World.size_alloc] | rw [size_setCell] | rw [size_drewN] | rw [size_drew])); omega) | exact Nat.le_refl _ | (dsimp only; omega) | (simp [World.setCell]; omega)))⟩
    unfold Pl.leastBackOut Pl.leastTextOut; rw [E.out]; rfl
  · cases h2 : Pl.isScreen t
    · have E := Lib.hid (show Pl.leastOk s t = false by simp [Pl.leastOk, h2])
      go_enter Try.func17, Try.ntmps17
      go_wp2_with (first | (go_at_call 74; refine (l13Screen_any _ _ (by assumption)).mono ?_; rintro e w' ⟨rfl, rfl⟩))
      refine bodyPost_ret (v := .tuple #[.agg #[.int .i64 0, .string ⟨#[]⟩], .bool false]) (by simp [results, Try.results17, go_sem, *]) rfl ⟨?_, (by repeat (first | with_reducible exact Below.refl _ _ | with_reducible assumption | with_reducible refine Below.alloc ?_ ?_ _ | with_reducible refine Below.setCell ?_ ?_ _ | with_reducible refine Below.drew ?_ | with_reducible refine below_drewN ?_ _ | with_reducible refine Below.trans ?_ (Below.mono (by assumption) ?_) | omega | ((repeat (first | rw [World.size_alloc] | rw [size_setCell] | rw [size_drewN] | rw [size_drew])); omega) | exact Nat.le_refl _ | (dsimp only; omega) | (simp [World.setCell]; omega)))⟩
      unfold Pl.leastBackOut Pl.leastTextOut; rw [E.out]; rfl
    · have E := Lib.hid (show Pl.leastOk s t = true by simp [Pl.leastOk, h1, h2])
      go_enter Try.func17, Try.ntmps17
      go_wp2_with (first | (go_at_call 74; refine (l13Screen_any _ _ (by assumption)).mono ?_; rintro e w' ⟨rfl, rfl⟩) | (go_at_call 75; refine (l13Least_any _ _ _ hs ht).mono ?_; rintro e w2 ⟨rfl, hb2⟩; have hcf := bcell hb2; have hz2 := hb2.size; (repeat (first | simp only [World.size_alloc] at hz2 hcf | simp only [size_setCell] at hz2 hcf | simp only [size_drewN] at hz2 hcf | simp only [size_drew] at hz2 hcf)); obtain ⟨hc2, hf2⟩ := hcf; (try have hn2a : _ < w2.heap.size := Nat.lt_of_lt_of_le hn2a (by omega)); (try have hn2b : _ < w2.heap.size := Nat.lt_of_lt_of_le hn2b (by omega)); (try have hn2c : _ < w2.heap.size := Nat.lt_of_lt_of_le hn2c (by omega)); (try have hn2d : _ < w2.heap.size := Nat.lt_of_lt_of_le hn2d (by omega)); (try have hn2e : _ < w2.heap.size := Nat.lt_of_lt_of_le hn2e (by omega)); (try have ho2a : _ < w2.heap.size := Nat.lt_of_lt_of_le ho2a (by omega)); (try have ho2b : _ < w2.heap.size := Nat.lt_of_lt_of_le ho2b (by omega)); (try have ho2c : _ < w2.heap.size := Nat.lt_of_lt_of_le ho2c (by omega)); (try have ho2d : _ < w2.heap.size := Nat.lt_of_lt_of_le ho2d (by omega)); (try have ho2e : _ < w2.heap.size := Nat.lt_of_lt_of_le ho2e (by omega)); (try have ho2a := hn2a); (try have ho2b := hn2b); (try have ho2c := hn2c); (try have ho2d := hn2d); (try have ho2e := hn2e); (try have hn2a := Nat.lt_of_succ_le hz2); (try have hn2b := Nat.lt_of_succ_lt hn2a); (try have hn2c := Nat.lt_of_succ_lt hn2b); (try have hn2d := Nat.lt_of_succ_lt hn2c); (try have hn2e := Nat.lt_of_succ_lt hn2d); (try have htA : w.heap.size < w2.heap.size := by omega)))
      refine bodyPost_ret (v := .tuple #[.agg #[.int .i64 (Pl.leastBack s t), .string (Pl.leastText s t)], .bool true]) (by simp [results, Try.results17, go_sem, *]) rfl ⟨?_, (by repeat (first | with_reducible exact Below.refl _ _ | with_reducible assumption | with_reducible refine Below.alloc ?_ ?_ _ | with_reducible refine Below.setCell ?_ ?_ _ | with_reducible refine Below.drew ?_ | with_reducible refine below_drewN ?_ _ | with_reducible refine Below.trans ?_ (Below.mono (by assumption) ?_) | omega | ((repeat (first | rw [World.size_alloc] | rw [size_setCell] | rw [size_drewN] | rw [size_drew])); omega) | exact Nat.le_refl _ | (dsimp only; omega) | (simp [World.setCell]; omega)))⟩
      unfold Pl.leastBackOut Pl.leastTextOut; rw [E.out]; rfl

set_option maxHeartbeats 800000 in
theorem ApplyEdit_any (s : ByteArray) (b : Int) (t : ByteArray) (w : World) (hs : s.size ≤ 1048576) (ht : t.size ≤ 1048576) :
    Calls Try.prog 20 #[.string s, .agg #[.int .i64 b, .string t]] w fun e w' => e = .returned (.tuple #[.string (Pl.applyOut s b t), .bool (Pl.applyOk s b t)]) ∧ Below w.heap.size w w' := by
  have hs' : s.size ≤ maxLen := by unfold maxLen; omega
  have ht' : t.size ≤ maxLen := by unfold maxLen; omega
  cases h1 : Pl.isScreen s
  · have E := Lib.hid (show Pl.applyOk s b t = false by simp [Pl.applyOk, h1])
    go_enter Try.func20, Try.ntmps20
    go_wp2_with (first | (go_at_call 72; refine (isScreen_any _ _ hs').mono ?_; rintro e w' ⟨rfl, rfl⟩))
    go_ret2
    exact ⟨ret_strb (by unfold Pl.applyOut; rw [E.out]; rfl) E.out.symm, (by repeat (first | with_reducible exact Below.refl _ _ | with_reducible assumption | with_reducible refine Below.alloc ?_ ?_ _ | with_reducible refine Below.setCell ?_ ?_ _ | with_reducible refine Below.drew ?_ | with_reducible refine below_drewN ?_ _ | with_reducible refine Below.trans ?_ (Below.mono (by assumption) ?_) | omega | ((repeat (first | rw [World.size_alloc] | rw [size_setCell] | rw [size_drewN] | rw [size_drew])); omega) | exact Nat.le_refl _ | (dsimp only; omega) | (simp [World.setCell]; omega)))⟩
  · cases h2 : Pl.validEdit b t
    · have E := Lib.hid (show Pl.applyOk s b t = false by simp [Pl.applyOk, h2])
      go_enter Try.func20, Try.ntmps20
      go_wp2_with (first | (go_at_call 72; refine (isScreen_any _ _ hs').mono ?_; rintro e w' ⟨rfl, rfl⟩) | (go_at_call 18; refine (IsValidEdit_any _ _ _ ht').mono ?_; rintro e w2 ⟨rfl, hb2⟩; have hcf := bcell hb2; have hz2 := hb2.size; (repeat (first | simp only [World.size_alloc] at hz2 hcf | simp only [size_setCell] at hz2 hcf | simp only [size_drewN] at hz2 hcf | simp only [size_drew] at hz2 hcf)); obtain ⟨hc2, hf2⟩ := hcf; (try have hn2a : _ < w2.heap.size := Nat.lt_of_lt_of_le hn2a (by omega)); (try have hn2b : _ < w2.heap.size := Nat.lt_of_lt_of_le hn2b (by omega)); (try have hn2c : _ < w2.heap.size := Nat.lt_of_lt_of_le hn2c (by omega)); (try have hn2d : _ < w2.heap.size := Nat.lt_of_lt_of_le hn2d (by omega)); (try have hn2e : _ < w2.heap.size := Nat.lt_of_lt_of_le hn2e (by omega)); (try have ho2a : _ < w2.heap.size := Nat.lt_of_lt_of_le ho2a (by omega)); (try have ho2b : _ < w2.heap.size := Nat.lt_of_lt_of_le ho2b (by omega)); (try have ho2c : _ < w2.heap.size := Nat.lt_of_lt_of_le ho2c (by omega)); (try have ho2d : _ < w2.heap.size := Nat.lt_of_lt_of_le ho2d (by omega)); (try have ho2e : _ < w2.heap.size := Nat.lt_of_lt_of_le ho2e (by omega)); (try have ho2a := hn2a); (try have ho2b := hn2b); (try have ho2c := hn2c); (try have ho2d := hn2d); (try have ho2e := hn2e); (try have hn2a := Nat.lt_of_succ_le hz2); (try have hn2b := Nat.lt_of_succ_lt hn2a); (try have hn2c := Nat.lt_of_succ_lt hn2b); (try have hn2d := Nat.lt_of_succ_lt hn2c); (try have hn2e := Nat.lt_of_succ_lt hn2d); (try have htA : w.heap.size < w2.heap.size := by omega)))
      go_ret2
      exact ⟨ret_strb (by unfold Pl.applyOut; rw [E.out]; rfl) E.out.symm, (by repeat (first | with_reducible exact Below.refl _ _ | with_reducible assumption | with_reducible refine Below.alloc ?_ ?_ _ | with_reducible refine Below.setCell ?_ ?_ _ | with_reducible refine Below.drew ?_ | with_reducible refine below_drewN ?_ _ | with_reducible refine Below.trans ?_ (Below.mono (by assumption) ?_) | omega | ((repeat (first | rw [World.size_alloc] | rw [size_setCell] | rw [size_drewN] | rw [size_drew])); omega) | exact Nat.le_refl _ | (dsimp only; omega) | (simp [World.setCell]; omega)))⟩
    · obtain ⟨hb0, hb1⟩ := Pl.validEdit_bd h2
      have hss := Pl.isScreen_size h1
      have hts := Pl.isScreen_size (Pl.validEdit_screen h2)
      by_cases h3 : b ≤ s.size
      · have hz := Pl.applied_size (t := t) hb0 h3
        have hbn : (((s.size : Int) - b).toNat) = s.size - b.toNat := by omega
        have hw3 : IntKind.i64.wrap ((s.size : Int) - b) = (s.size : Int) - b := IntWalk.i64_in _ (by omega)
        have h03 : (0 : Int) ≤ (s.size : Int) - b := by omega
        have hA : s.extract 0 (s.size - b.toNat) ++ t = Pl.applied s b t := rfl
        have hsc := Pl.applied_screen (b := b) h1 (Pl.validEdit_screen h2)
        have hexz : (s.extract 0 (s.size - b.toNat)).size ≤ 2000 := by simp; omega
        by_cases h4 : (Pl.applied s b t).size ≤ 2000
        · have E := Lib.hid (show Pl.applyOk s b t = true by simp [Pl.applyOk, h1, h2, h3, h4])
          have hsc' : Pl.isScreen (Pl.applied s b t) = true := by rw [hsc]; simp [h4]
          have hal : (Pl.applied s b t).size ≤ maxLen := by unfold maxLen; omega
          clear hsc hz
          go_enter Try.func20, Try.ntmps20
          go_wp2_with (first | (go_at_call 72; refine (isScreen_any _ _ (by assumption)).mono ?_; rintro e w' ⟨rfl, rfl⟩) | (go_at_call 18; refine (IsValidEdit_any _ _ _ ht').mono ?_; rintro e w2 ⟨rfl, hb2⟩; have hcf := bcell hb2; have hz2 := hb2.size; (repeat (first | simp only [World.size_alloc] at hz2 hcf | simp only [size_setCell] at hz2 hcf | simp only [size_drewN] at hz2 hcf | simp only [size_drew] at hz2 hcf)); obtain ⟨hc2, hf2⟩ := hcf; (try have hn2a : _ < w2.heap.size := Nat.lt_of_lt_of_le hn2a (by omega)); (try have hn2b : _ < w2.heap.size := Nat.lt_of_lt_of_le hn2b (by omega)); (try have hn2c : _ < w2.heap.size := Nat.lt_of_lt_of_le hn2c (by omega)); (try have hn2d : _ < w2.heap.size := Nat.lt_of_lt_of_le hn2d (by omega)); (try have hn2e : _ < w2.heap.size := Nat.lt_of_lt_of_le hn2e (by omega)); (try have ho2a : _ < w2.heap.size := Nat.lt_of_lt_of_le ho2a (by omega)); (try have ho2b : _ < w2.heap.size := Nat.lt_of_lt_of_le ho2b (by omega)); (try have ho2c : _ < w2.heap.size := Nat.lt_of_lt_of_le ho2c (by omega)); (try have ho2d : _ < w2.heap.size := Nat.lt_of_lt_of_le ho2d (by omega)); (try have ho2e : _ < w2.heap.size := Nat.lt_of_lt_of_le ho2e (by omega)); (try have ho2a := hn2a); (try have ho2b := hn2b); (try have ho2c := hn2c); (try have ho2d := hn2d); (try have ho2e := hn2e); (try have hn2a := Nat.lt_of_succ_le hz2); (try have hn2b := Nat.lt_of_succ_lt hn2a); (try have hn2c := Nat.lt_of_succ_lt hn2b); (try have hn2d := Nat.lt_of_succ_lt hn2c); (try have hn2e := Nat.lt_of_succ_lt hn2d); (try have htA : w.heap.size < w2.heap.size := by omega)))
          go_quiet (fail)
          go_wp2_with (first | (go_at_call 72; refine (isScreen_any _ _ (by assumption)).mono ?_; rintro e w' ⟨rfl, rfl⟩))
          go_ret2
          exact ⟨ret_strb (by unfold Pl.applyOut; rw [E.out]; rfl) E.out.symm, (by repeat (first | with_reducible exact Below.refl _ _ | with_reducible assumption | with_reducible refine Below.alloc ?_ ?_ _ | with_reducible refine Below.setCell ?_ ?_ _ | with_reducible refine Below.drew ?_ | with_reducible refine below_drewN ?_ _ | with_reducible refine Below.trans ?_ (Below.mono (by assumption) ?_) | omega | ((repeat (first | rw [World.size_alloc] | rw [size_setCell] | rw [size_drewN] | rw [size_drew])); omega) | exact Nat.le_refl _ | (dsimp only; omega) | (simp [World.setCell]; omega)))⟩
        · have E := Lib.hid (show Pl.applyOk s b t = false by simp [Pl.applyOk, h4])
          have hsc' : Pl.isScreen (Pl.applied s b t) = false := by rw [hsc]; simp; omega
          have hal : (Pl.applied s b t).size ≤ maxLen := by unfold maxLen; omega
          have hgt : (2000 : Int) < ((Pl.applied s b t).size : Int) := by omega
          clear hsc hz h4
          go_enter Try.func20, Try.ntmps20
          go_wp2_with (first | (go_at_call 72; refine (isScreen_any _ _ (by assumption)).mono ?_; rintro e w' ⟨rfl, rfl⟩) | (go_at_call 18; refine (IsValidEdit_any _ _ _ ht').mono ?_; rintro e w2 ⟨rfl, hb2⟩; have hcf := bcell hb2; have hz2 := hb2.size; (repeat (first | simp only [World.size_alloc] at hz2 hcf | simp only [size_setCell] at hz2 hcf | simp only [size_drewN] at hz2 hcf | simp only [size_drew] at hz2 hcf)); obtain ⟨hc2, hf2⟩ := hcf; (try have hn2a : _ < w2.heap.size := Nat.lt_of_lt_of_le hn2a (by omega)); (try have hn2b : _ < w2.heap.size := Nat.lt_of_lt_of_le hn2b (by omega)); (try have hn2c : _ < w2.heap.size := Nat.lt_of_lt_of_le hn2c (by omega)); (try have hn2d : _ < w2.heap.size := Nat.lt_of_lt_of_le hn2d (by omega)); (try have hn2e : _ < w2.heap.size := Nat.lt_of_lt_of_le hn2e (by omega)); (try have ho2a : _ < w2.heap.size := Nat.lt_of_lt_of_le ho2a (by omega)); (try have ho2b : _ < w2.heap.size := Nat.lt_of_lt_of_le ho2b (by omega)); (try have ho2c : _ < w2.heap.size := Nat.lt_of_lt_of_le ho2c (by omega)); (try have ho2d : _ < w2.heap.size := Nat.lt_of_lt_of_le ho2d (by omega)); (try have ho2e : _ < w2.heap.size := Nat.lt_of_lt_of_le ho2e (by omega)); (try have ho2a := hn2a); (try have ho2b := hn2b); (try have ho2c := hn2c); (try have ho2d := hn2d); (try have ho2e := hn2e); (try have hn2a := Nat.lt_of_succ_le hz2); (try have hn2b := Nat.lt_of_succ_lt hn2a); (try have hn2c := Nat.lt_of_succ_lt hn2b); (try have hn2d := Nat.lt_of_succ_lt hn2c); (try have hn2e := Nat.lt_of_succ_lt hn2d); (try have htA : w.heap.size < w2.heap.size := by omega)))
          go_quiet (fail)
          go_wp2_with (first | (go_at_call 72; refine (isScreen_any _ _ (by assumption)).mono ?_; rintro e w' ⟨rfl, rfl⟩))
          go_ret2
          exact ⟨ret_strb (by unfold Pl.applyOut; rw [E.out]; rfl) E.out.symm, (by repeat (first | with_reducible exact Below.refl _ _ | with_reducible assumption | with_reducible refine Below.alloc ?_ ?_ _ | with_reducible refine Below.setCell ?_ ?_ _ | with_reducible refine Below.drew ?_ | with_reducible refine below_drewN ?_ _ | with_reducible refine Below.trans ?_ (Below.mono (by assumption) ?_) | omega | ((repeat (first | rw [World.size_alloc] | rw [size_setCell] | rw [size_drewN] | rw [size_drew])); omega) | exact Nat.le_refl _ | (dsimp only; omega) | (simp [World.setCell]; omega)))⟩
      · have E := Lib.hid (show Pl.applyOk s b t = false by simp [Pl.applyOk, h3])
        go_enter Try.func20, Try.ntmps20
        go_wp2_with (first | (go_at_call 72; refine (isScreen_any _ _ hs').mono ?_; rintro e w' ⟨rfl, rfl⟩) | (go_at_call 18; refine (IsValidEdit_any _ _ _ ht').mono ?_; rintro e w2 ⟨rfl, hb2⟩; have hcf := bcell hb2; have hz2 := hb2.size; (repeat (first | simp only [World.size_alloc] at hz2 hcf | simp only [size_setCell] at hz2 hcf | simp only [size_drewN] at hz2 hcf | simp only [size_drew] at hz2 hcf)); obtain ⟨hc2, hf2⟩ := hcf; (try have hn2a : _ < w2.heap.size := Nat.lt_of_lt_of_le hn2a (by omega)); (try have hn2b : _ < w2.heap.size := Nat.lt_of_lt_of_le hn2b (by omega)); (try have hn2c : _ < w2.heap.size := Nat.lt_of_lt_of_le hn2c (by omega)); (try have hn2d : _ < w2.heap.size := Nat.lt_of_lt_of_le hn2d (by omega)); (try have hn2e : _ < w2.heap.size := Nat.lt_of_lt_of_le hn2e (by omega)); (try have ho2a : _ < w2.heap.size := Nat.lt_of_lt_of_le ho2a (by omega)); (try have ho2b : _ < w2.heap.size := Nat.lt_of_lt_of_le ho2b (by omega)); (try have ho2c : _ < w2.heap.size := Nat.lt_of_lt_of_le ho2c (by omega)); (try have ho2d : _ < w2.heap.size := Nat.lt_of_lt_of_le ho2d (by omega)); (try have ho2e : _ < w2.heap.size := Nat.lt_of_lt_of_le ho2e (by omega)); (try have ho2a := hn2a); (try have ho2b := hn2b); (try have ho2c := hn2c); (try have ho2d := hn2d); (try have ho2e := hn2e); (try have hn2a := Nat.lt_of_succ_le hz2); (try have hn2b := Nat.lt_of_succ_lt hn2a); (try have hn2c := Nat.lt_of_succ_lt hn2b); (try have hn2d := Nat.lt_of_succ_lt hn2c); (try have hn2e := Nat.lt_of_succ_lt hn2d); (try have htA : w.heap.size < w2.heap.size := by omega)))
        go_ret2
        exact ⟨ret_strb (by unfold Pl.applyOut; rw [E.out]; rfl) E.out.symm, (by repeat (first | with_reducible exact Below.refl _ _ | with_reducible assumption | with_reducible refine Below.alloc ?_ ?_ _ | with_reducible refine Below.setCell ?_ ?_ _ | with_reducible refine Below.drew ?_ | with_reducible refine below_drewN ?_ _ | with_reducible refine Below.trans ?_ (Below.mono (by assumption) ?_) | omega | ((repeat (first | rw [World.size_alloc] | rw [size_setCell] | rw [size_drewN] | rw [size_drew])); omega) | exact Nat.le_refl _ | (dsimp only; omega) | (simp [World.setCell]; omega)))⟩

set_option maxHeartbeats 800000 in
theorem specApplyEdit_any (s : ByteArray) (b : Int) (t : ByteArray) (w : World) (hs : s.size ≤ 1048576) (ht : t.size ≤ 1048576) :
    Calls Try.prog 21 #[.string s, .agg #[.int .i64 b, .string t]] w fun e w' => e = .returned (.tuple #[.string (Pl.applyOut s b t), .bool (Pl.applyOk s b t)]) ∧ Below w.heap.size w w' := by
  have hs' : s.size ≤ maxLen := by unfold maxLen; omega
  have ht' : t.size ≤ maxLen := by unfold maxLen; omega
  cases h1 : Pl.isScreen s
  · have E := Lib.hid (show Pl.applyOk s b t = false by simp [Pl.applyOk, h1])
    go_enter Try.func21, Try.ntmps21
    go_wp2_with (first | (go_at_call 74; refine (l13Screen_any _ _ hs').mono ?_; rintro e w' ⟨rfl, rfl⟩))
    go_ret2
    exact ⟨ret_strb (by unfold Pl.applyOut; rw [E.out]; rfl) E.out.symm, (by repeat (first | with_reducible exact Below.refl _ _ | with_reducible assumption | with_reducible refine Below.alloc ?_ ?_ _ | with_reducible refine Below.setCell ?_ ?_ _ | with_reducible refine Below.drew ?_ | with_reducible refine below_drewN ?_ _ | with_reducible refine Below.trans ?_ (Below.mono (by assumption) ?_) | omega | ((repeat (first | rw [World.size_alloc] | rw [size_setCell] | rw [size_drewN] | rw [size_drew])); omega) | exact Nat.le_refl _ | (dsimp only; omega) | (simp [World.setCell]; omega)))⟩
  · cases h2 : Pl.validEdit b t
    · have E := Lib.hid (show Pl.applyOk s b t = false by simp [Pl.applyOk, h2])
      go_enter Try.func21, Try.ntmps21
      go_wp2_with (first | (go_at_call 74; refine (l13Screen_any _ _ hs').mono ?_; rintro e w' ⟨rfl, rfl⟩) | (go_at_call 78; refine (l13Good_any _ _ _ ht').mono ?_; rintro e w2 ⟨rfl, hb2⟩; have hcf := bcell hb2; have hz2 := hb2.size; (repeat (first | simp only [World.size_alloc] at hz2 hcf | simp only [size_setCell] at hz2 hcf | simp only [size_drewN] at hz2 hcf | simp only [size_drew] at hz2 hcf)); obtain ⟨hc2, hf2⟩ := hcf; (try have hn2a : _ < w2.heap.size := Nat.lt_of_lt_of_le hn2a (by omega)); (try have hn2b : _ < w2.heap.size := Nat.lt_of_lt_of_le hn2b (by omega)); (try have hn2c : _ < w2.heap.size := Nat.lt_of_lt_of_le hn2c (by omega)); (try have hn2d : _ < w2.heap.size := Nat.lt_of_lt_of_le hn2d (by omega)); (try have hn2e : _ < w2.heap.size := Nat.lt_of_lt_of_le hn2e (by omega)); (try have ho2a : _ < w2.heap.size := Nat.lt_of_lt_of_le ho2a (by omega)); (try have ho2b : _ < w2.heap.size := Nat.lt_of_lt_of_le ho2b (by omega)); (try have ho2c : _ < w2.heap.size := Nat.lt_of_lt_of_le ho2c (by omega)); (try have ho2d : _ < w2.heap.size := Nat.lt_of_lt_of_le ho2d (by omega)); (try have ho2e : _ < w2.heap.size := Nat.lt_of_lt_of_le ho2e (by omega)); (try have ho2a := hn2a); (try have ho2b := hn2b); (try have ho2c := hn2c); (try have ho2d := hn2d); (try have ho2e := hn2e); (try have hn2a := Nat.lt_of_succ_le hz2); (try have hn2b := Nat.lt_of_succ_lt hn2a); (try have hn2c := Nat.lt_of_succ_lt hn2b); (try have hn2d := Nat.lt_of_succ_lt hn2c); (try have hn2e := Nat.lt_of_succ_lt hn2d); (try have htA : w.heap.size < w2.heap.size := by omega)))
      go_ret2
      exact ⟨ret_strb (by unfold Pl.applyOut; rw [E.out]; rfl) E.out.symm, (by repeat (first | with_reducible exact Below.refl _ _ | with_reducible assumption | with_reducible refine Below.alloc ?_ ?_ _ | with_reducible refine Below.setCell ?_ ?_ _ | with_reducible refine Below.drew ?_ | with_reducible refine below_drewN ?_ _ | with_reducible refine Below.trans ?_ (Below.mono (by assumption) ?_) | omega | ((repeat (first | rw [World.size_alloc] | rw [size_setCell] | rw [size_drewN] | rw [size_drew])); omega) | exact Nat.le_refl _ | (dsimp only; omega) | (simp [World.setCell]; omega)))⟩
    · obtain ⟨hb0, hb1⟩ := Pl.validEdit_bd h2
      have hss := Pl.isScreen_size h1
      have hts := Pl.isScreen_size (Pl.validEdit_screen h2)
      by_cases h3 : b ≤ s.size
      · have hz := Pl.applied_size (t := t) hb0 h3
        have hbn : (((s.size : Int) - b).toNat) = s.size - b.toNat := by omega
        have hw3 : IntKind.i64.wrap ((s.size : Int) - b) = (s.size : Int) - b := IntWalk.i64_in _ (by omega)
        have h03 : (0 : Int) ≤ (s.size : Int) - b := by omega
        have hA : s.extract 0 (s.size - b.toNat) ++ t = Pl.applied s b t := rfl
        have hsc := Pl.applied_screen (b := b) h1 (Pl.validEdit_screen h2)
        have hexz : (s.extract 0 (s.size - b.toNat)).size ≤ 2000 := by simp; omega
        by_cases h4 : (Pl.applied s b t).size ≤ 2000
        · have E := Lib.hid (show Pl.applyOk s b t = true by simp [Pl.applyOk, h1, h2, h3, h4])
          have hsc' : Pl.isScreen (Pl.applied s b t) = true := by rw [hsc]; simp [h4]
          have hal : (Pl.applied s b t).size ≤ maxLen := by unfold maxLen; omega
          clear hsc hz
          go_enter Try.func21, Try.ntmps21
          go_wp2_with (first | (go_at_call 74; refine (l13Screen_any _ _ (by assumption)).mono ?_; rintro e w' ⟨rfl, rfl⟩) | (go_at_call 78; refine (l13Good_any _ _ _ ht').mono ?_; rintro e w2 ⟨rfl, hb2⟩; have hcf := bcell hb2; have hz2 := hb2.size; (repeat (first | simp only [World.size_alloc] at hz2 hcf | simp only [size_setCell] at hz2 hcf | simp only [size_drewN] at hz2 hcf | simp only [size_drew] at hz2 hcf)); obtain ⟨hc2, hf2⟩ := hcf; (try have hn2a : _ < w2.heap.size := Nat.lt_of_lt_of_le hn2a (by omega)); (try have hn2b : _ < w2.heap.size := Nat.lt_of_lt_of_le hn2b (by omega)); (try have hn2c : _ < w2.heap.size := Nat.lt_of_lt_of_le hn2c (by omega)); (try have hn2d : _ < w2.heap.size := Nat.lt_of_lt_of_le hn2d (by omega)); (try have hn2e : _ < w2.heap.size := Nat.lt_of_lt_of_le hn2e (by omega)); (try have ho2a : _ < w2.heap.size := Nat.lt_of_lt_of_le ho2a (by omega)); (try have ho2b : _ < w2.heap.size := Nat.lt_of_lt_of_le ho2b (by omega)); (try have ho2c : _ < w2.heap.size := Nat.lt_of_lt_of_le ho2c (by omega)); (try have ho2d : _ < w2.heap.size := Nat.lt_of_lt_of_le ho2d (by omega)); (try have ho2e : _ < w2.heap.size := Nat.lt_of_lt_of_le ho2e (by omega)); (try have ho2a := hn2a); (try have ho2b := hn2b); (try have ho2c := hn2c); (try have ho2d := hn2d); (try have ho2e := hn2e); (try have hn2a := Nat.lt_of_succ_le hz2); (try have hn2b := Nat.lt_of_succ_lt hn2a); (try have hn2c := Nat.lt_of_succ_lt hn2b); (try have hn2d := Nat.lt_of_succ_lt hn2c); (try have hn2e := Nat.lt_of_succ_lt hn2d); (try have htA : w.heap.size < w2.heap.size := by omega)))
          go_quiet (fail)
          go_wp2_with (first | (go_at_call 74; refine (l13Screen_any _ _ (by assumption)).mono ?_; rintro e w' ⟨rfl, rfl⟩))
          go_ret2
          exact ⟨ret_strb (by unfold Pl.applyOut; rw [E.out]; rfl) E.out.symm, (by repeat (first | with_reducible exact Below.refl _ _ | with_reducible assumption | with_reducible refine Below.alloc ?_ ?_ _ | with_reducible refine Below.setCell ?_ ?_ _ | with_reducible refine Below.drew ?_ | with_reducible refine below_drewN ?_ _ | with_reducible refine Below.trans ?_ (Below.mono (by assumption) ?_) | omega | ((repeat (first | rw [World.size_alloc] | rw [size_setCell] | rw [size_drewN] | rw [size_drew])); omega) | exact Nat.le_refl _ | (dsimp only; omega) | (simp [World.setCell]; omega)))⟩
        · have E := Lib.hid (show Pl.applyOk s b t = false by simp [Pl.applyOk, h4])
          have hsc' : Pl.isScreen (Pl.applied s b t) = false := by rw [hsc]; simp; omega
          have hal : (Pl.applied s b t).size ≤ maxLen := by unfold maxLen; omega
          have hgt : (2000 : Int) < ((Pl.applied s b t).size : Int) := by omega
          clear hsc hz h4
          go_enter Try.func21, Try.ntmps21
          go_wp2_with (first | (go_at_call 74; refine (l13Screen_any _ _ (by assumption)).mono ?_; rintro e w' ⟨rfl, rfl⟩) | (go_at_call 78; refine (l13Good_any _ _ _ ht').mono ?_; rintro e w2 ⟨rfl, hb2⟩; have hcf := bcell hb2; have hz2 := hb2.size; (repeat (first | simp only [World.size_alloc] at hz2 hcf | simp only [size_setCell] at hz2 hcf | simp only [size_drewN] at hz2 hcf | simp only [size_drew] at hz2 hcf)); obtain ⟨hc2, hf2⟩ := hcf; (try have hn2a : _ < w2.heap.size := Nat.lt_of_lt_of_le hn2a (by omega)); (try have hn2b : _ < w2.heap.size := Nat.lt_of_lt_of_le hn2b (by omega)); (try have hn2c : _ < w2.heap.size := Nat.lt_of_lt_of_le hn2c (by omega)); (try have hn2d : _ < w2.heap.size := Nat.lt_of_lt_of_le hn2d (by omega)); (try have hn2e : _ < w2.heap.size := Nat.lt_of_lt_of_le hn2e (by omega)); (try have ho2a : _ < w2.heap.size := Nat.lt_of_lt_of_le ho2a (by omega)); (try have ho2b : _ < w2.heap.size := Nat.lt_of_lt_of_le ho2b (by omega)); (try have ho2c : _ < w2.heap.size := Nat.lt_of_lt_of_le ho2c (by omega)); (try have ho2d : _ < w2.heap.size := Nat.lt_of_lt_of_le ho2d (by omega)); (try have ho2e : _ < w2.heap.size := Nat.lt_of_lt_of_le ho2e (by omega)); (try have ho2a := hn2a); (try have ho2b := hn2b); (try have ho2c := hn2c); (try have ho2d := hn2d); (try have ho2e := hn2e); (try have hn2a := Nat.lt_of_succ_le hz2); (try have hn2b := Nat.lt_of_succ_lt hn2a); (try have hn2c := Nat.lt_of_succ_lt hn2b); (try have hn2d := Nat.lt_of_succ_lt hn2c); (try have hn2e := Nat.lt_of_succ_lt hn2d); (try have htA : w.heap.size < w2.heap.size := by omega)))
          go_quiet (fail)
          go_wp2_with (first | (go_at_call 74; refine (l13Screen_any _ _ (by assumption)).mono ?_; rintro e w' ⟨rfl, rfl⟩))
          go_ret2
          exact ⟨ret_strb (by unfold Pl.applyOut; rw [E.out]; rfl) E.out.symm, (by repeat (first | with_reducible exact Below.refl _ _ | with_reducible assumption | with_reducible refine Below.alloc ?_ ?_ _ | with_reducible refine Below.setCell ?_ ?_ _ | with_reducible refine Below.drew ?_ | with_reducible refine below_drewN ?_ _ | with_reducible refine Below.trans ?_ (Below.mono (by assumption) ?_) | omega | ((repeat (first | rw [World.size_alloc] | rw [size_setCell] | rw [size_drewN] | rw [size_drew])); omega) | exact Nat.le_refl _ | (dsimp only; omega) | (simp [World.setCell]; omega)))⟩
      · have E := Lib.hid (show Pl.applyOk s b t = false by simp [Pl.applyOk, h3])
        go_enter Try.func21, Try.ntmps21
        go_wp2_with (first | (go_at_call 74; refine (l13Screen_any _ _ hs').mono ?_; rintro e w' ⟨rfl, rfl⟩) | (go_at_call 78; refine (l13Good_any _ _ _ ht').mono ?_; rintro e w2 ⟨rfl, hb2⟩; have hcf := bcell hb2; have hz2 := hb2.size; (repeat (first | simp only [World.size_alloc] at hz2 hcf | simp only [size_setCell] at hz2 hcf | simp only [size_drewN] at hz2 hcf | simp only [size_drew] at hz2 hcf)); obtain ⟨hc2, hf2⟩ := hcf; (try have hn2a : _ < w2.heap.size := Nat.lt_of_lt_of_le hn2a (by omega)); (try have hn2b : _ < w2.heap.size := Nat.lt_of_lt_of_le hn2b (by omega)); (try have hn2c : _ < w2.heap.size := Nat.lt_of_lt_of_le hn2c (by omega)); (try have hn2d : _ < w2.heap.size := Nat.lt_of_lt_of_le hn2d (by omega)); (try have hn2e : _ < w2.heap.size := Nat.lt_of_lt_of_le hn2e (by omega)); (try have ho2a : _ < w2.heap.size := Nat.lt_of_lt_of_le ho2a (by omega)); (try have ho2b : _ < w2.heap.size := Nat.lt_of_lt_of_le ho2b (by omega)); (try have ho2c : _ < w2.heap.size := Nat.lt_of_lt_of_le ho2c (by omega)); (try have ho2d : _ < w2.heap.size := Nat.lt_of_lt_of_le ho2d (by omega)); (try have ho2e : _ < w2.heap.size := Nat.lt_of_lt_of_le ho2e (by omega)); (try have ho2a := hn2a); (try have ho2b := hn2b); (try have ho2c := hn2c); (try have ho2d := hn2d); (try have ho2e := hn2e); (try have hn2a := Nat.lt_of_succ_le hz2); (try have hn2b := Nat.lt_of_succ_lt hn2a); (try have hn2c := Nat.lt_of_succ_lt hn2b); (try have hn2d := Nat.lt_of_succ_lt hn2c); (try have hn2e := Nat.lt_of_succ_lt hn2d); (try have htA : w.heap.size < w2.heap.size := by omega)))
        go_ret2
        exact ⟨ret_strb (by unfold Pl.applyOut; rw [E.out]; rfl) E.out.symm, (by repeat (first | with_reducible exact Below.refl _ _ | with_reducible assumption | with_reducible refine Below.alloc ?_ ?_ _ | with_reducible refine Below.setCell ?_ ?_ _ | with_reducible refine Below.drew ?_ | with_reducible refine below_drewN ?_ _ | with_reducible refine Below.trans ?_ (Below.mono (by assumption) ?_) | omega | ((repeat (first | rw [World.size_alloc] | rw [size_setCell] | rw [size_drewN] | rw [size_drew])); omega) | exact Nat.le_refl _ | (dsimp only; omega) | (simp [World.setCell]; omega)))⟩

end Go.Proofs.Ytfakaeddkhajbaa
