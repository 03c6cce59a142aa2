/-
  CONTRACTS: number strokes of the program and the reference.
-/
import Derived.Test.YtmlckocmfoiobaaSl
import Derived.Test.YtmlckocmfoiobaaRev
import Derived.Test.YtmlckocmfoiobaaStrA
import Derived.Deep.QuietTactic
import Derived.BigQuiet
import Derived.IntWalk
namespace Go.Proofs.Ytmlckocmfoiobaa
open Go.RowKit

set_option maxHeartbeats 400000 in
theorem digitKeys_any (w : World) :
    Calls Try.prog 89 #[] w fun e w' => e = .returned (.slice (some ⟨w.heap.size, 0, none⟩) 10 10) ∧ w.alloc (.cells #[.int .i64 1, .int .i64 2, .int .i64 4, .int .i64 6, .int .i64 8, .int .i64 9, .int .i64 13, .int .i64 15, .int .i64 17, .int .i64 19] 3) = w' := by
  go_enter Try.func89, Try.ntmps89
  go_wp2
  go_ret
  exact ⟨rfl, rfl⟩

set_option maxHeartbeats 400000 in
theorem IsValidStroke_any (s : Int) (w : World) :
    Calls Try.prog 90 #[.int .i64 s] w fun e w' => e = .returned (.bool (Pl.strokeB s)) ∧ w = w' := by
  go_enter Try.func90, Try.ntmps90
  go_wp2_with ((go_at_call 95; refine (in_any _ _ _ _).mono ?_; rintro e w' ⟨rfl, rfl⟩))
  go_ret
  exact ⟨rfl, rfl⟩

set_option maxHeartbeats 400000 in
theorem l2Good_any (s : Int) (w : World) :
    Calls Try.prog 55 #[.int .i64 s] w fun e w' => e = .returned (.bool (Pl.strokeB s)) ∧ w = w' := by
  go_enter Try.func55, Try.ntmps55
  go_wp2_with ((go_at_call 87; refine (l1In_any _ _ _ _).mono ?_; rintro e w' ⟨rfl, rfl⟩))
  go_ret
  exact ⟨rfl, rfl⟩

theorem bT {a b : Int} (h : (a == b) = true) : a = b := by simpa using h
theorem bF {a b : Int} (h : (a == b) = false) : ¬ a = b := by simpa using h

theorem nT {a b : Int} (h : (a == b) = true) : (a != b) = false := by simpa using h
theorem nF {a b : Int} (h : (a == b) = false) : (a != b) = true := by simpa using h

set_option maxHeartbeats 1600000 in
theorem written_any (s : Int) (w : World) :
    Calls Try.prog 57 #[.int .i64 s] w fun e w' => e = .returned (.string (Pl.written s)) ∧ Below w.heap.size w w' := by
  go_enter Try.func57, Try.ntmps57
  go_wp2_with ((go_at_call 89; refine (digitKeys_any _).mono ?_; rintro e w' ⟨rfl, rfl⟩))
  go_loopw [3, 4, 12] (fun o r i wr => ∃ k : Nat, k ≤ 10 ∧ i = .int .i64 k ∧ o = .string (Pl.textTo s k) ∧ r = .int .i64 (Pl.restTo s k) ∧ wr = w.alloc (.cells #[.int .i64 1, .int .i64 2, .int .i64 4, .int .i64 6, .int .i64 8, .int .i64 9, .int .i64 13, .int .i64 15, .int .i64 17, .int .i64 19] 3)) (fun _ _ i _ => 10 - (intOf i).toNat)
  case atStart => exact ⟨0, by omega, rfl, rfl, rfl, rfl⟩
  case round =>
    obtain ⟨k, hk, rfl, rfl, rfl, rfl⟩ := hrel
    by_cases hlt : k < 10
    · have hc : k = 0 ∨ k = 1 ∨ k = 2 ∨ k = 3 ∨ k = 4 ∨ k = 5 ∨ k = 6 ∨ k = 7 ∨ k = 8 ∨ k = 9 := by omega
      rcases hc with rfl | rfl | rfl | rfl | rfl | rfl | rfl | rfl | rfl | rfl
      · have hts := Pl.textTo_size s 0
        rcases Bool.eq_false_or_eq_true (Pl.kbit s 0) with hb | hb
        · have hT := Lib.hid (Pl.textTo_on hb (by omega))
          have hS := Lib.hid (Pl.restTo_on hb)
          have hq : (bits .and .i64 (s / 2) 1 == 1) = true := hb
          clear hb
          go_wp2
          exact ⟨⟨1, by omega, rfl, congrArg Value.string hT.out, congrArg (Value.int .i64) hS.out, trivial⟩, by simp [intOf]⟩
        · have hT := Lib.hid (Pl.textTo_off hb)
          have hS := Lib.hid (Pl.restTo_off hb)
          have hq : (bits .and .i64 (s / 2) 1 == 1) = false := hb
          clear hb
          go_wp2
          exact ⟨⟨1, by omega, rfl, congrArg Value.string hT.out.symm, congrArg (Value.int .i64) hS.out.symm, trivial⟩, by simp [intOf]⟩
      · have hts := Pl.textTo_size s 1
        rcases Bool.eq_false_or_eq_true (Pl.kbit s 1) with hb | hb
        · have hT := Lib.hid (Pl.textTo_on hb (by omega))
          have hS := Lib.hid (Pl.restTo_on hb)
          have hq : (bits .and .i64 (s / 4) 1 == 1) = true := hb
          clear hb
          go_wp2
          exact ⟨⟨2, by omega, rfl, congrArg Value.string hT.out, congrArg (Value.int .i64) hS.out, trivial⟩, by simp [intOf]⟩
        · have hT := Lib.hid (Pl.textTo_off hb)
          have hS := Lib.hid (Pl.restTo_off hb)
          have hq : (bits .and .i64 (s / 4) 1 == 1) = false := hb
          clear hb
          go_wp2
          exact ⟨⟨2, by omega, rfl, congrArg Value.string hT.out.symm, congrArg (Value.int .i64) hS.out.symm, trivial⟩, by simp [intOf]⟩
      · have hts := Pl.textTo_size s 2
        rcases Bool.eq_false_or_eq_true (Pl.kbit s 2) with hb | hb
        · have hT := Lib.hid (Pl.textTo_on hb (by omega))
          have hS := Lib.hid (Pl.restTo_on hb)
          have hq : (bits .and .i64 (s / 16) 1 == 1) = true := hb
          clear hb
          go_wp2
          exact ⟨⟨3, by omega, rfl, congrArg Value.string hT.out, congrArg (Value.int .i64) hS.out, trivial⟩, by simp [intOf]⟩
        · have hT := Lib.hid (Pl.textTo_off hb)
          have hS := Lib.hid (Pl.restTo_off hb)
          have hq : (bits .and .i64 (s / 16) 1 == 1) = false := hb
          clear hb
          go_wp2
          exact ⟨⟨3, by omega, rfl, congrArg Value.string hT.out.symm, congrArg (Value.int .i64) hS.out.symm, trivial⟩, by simp [intOf]⟩
      · have hts := Pl.textTo_size s 3
        rcases Bool.eq_false_or_eq_true (Pl.kbit s 3) with hb | hb
        · have hT := Lib.hid (Pl.textTo_on hb (by omega))
          have hS := Lib.hid (Pl.restTo_on hb)
          have hq : (bits .and .i64 (s / 64) 1 == 1) = true := hb
          clear hb
          go_wp2
          exact ⟨⟨4, by omega, rfl, congrArg Value.string hT.out, congrArg (Value.int .i64) hS.out, trivial⟩, by simp [intOf]⟩
        · have hT := Lib.hid (Pl.textTo_off hb)
          have hS := Lib.hid (Pl.restTo_off hb)
          have hq : (bits .and .i64 (s / 64) 1 == 1) = false := hb
          clear hb
          go_wp2
          exact ⟨⟨4, by omega, rfl, congrArg Value.string hT.out.symm, congrArg (Value.int .i64) hS.out.symm, trivial⟩, by simp [intOf]⟩
      · have hts := Pl.textTo_size s 4
        rcases Bool.eq_false_or_eq_true (Pl.kbit s 4) with hb | hb
        · have hT := Lib.hid (Pl.textTo_on hb (by omega))
          have hS := Lib.hid (Pl.restTo_on hb)
          have hq : (bits .and .i64 (s / 256) 1 == 1) = true := hb
          clear hb
          go_wp2
          exact ⟨⟨5, by omega, rfl, congrArg Value.string hT.out, congrArg (Value.int .i64) hS.out, trivial⟩, by simp [intOf]⟩
        · have hT := Lib.hid (Pl.textTo_off hb)
          have hS := Lib.hid (Pl.restTo_off hb)
          have hq : (bits .and .i64 (s / 256) 1 == 1) = false := hb
          clear hb
          go_wp2
          exact ⟨⟨5, by omega, rfl, congrArg Value.string hT.out.symm, congrArg (Value.int .i64) hS.out.symm, trivial⟩, by simp [intOf]⟩
      · have hts := Pl.textTo_size s 5
        rcases Bool.eq_false_or_eq_true (Pl.kbit s 5) with hb | hb
        · have hT := Lib.hid (Pl.textTo_on hb (by omega))
          have hS := Lib.hid (Pl.restTo_on hb)
          have hq : (bits .and .i64 (s / 512) 1 == 1) = true := hb
          clear hb
          go_wp2
          exact ⟨⟨6, by omega, rfl, congrArg Value.string hT.out, congrArg (Value.int .i64) hS.out, trivial⟩, by simp [intOf]⟩
        · have hT := Lib.hid (Pl.textTo_off hb)
          have hS := Lib.hid (Pl.restTo_off hb)
          have hq : (bits .and .i64 (s / 512) 1 == 1) = false := hb
          clear hb
          go_wp2
          exact ⟨⟨6, by omega, rfl, congrArg Value.string hT.out.symm, congrArg (Value.int .i64) hS.out.symm, trivial⟩, by simp [intOf]⟩
      · have hts := Pl.textTo_size s 6
        rcases Bool.eq_false_or_eq_true (Pl.kbit s 6) with hb | hb
        · have hT := Lib.hid (Pl.textTo_on hb (by omega))
          have hS := Lib.hid (Pl.restTo_on hb)
          have hq : (bits .and .i64 (s / 8192) 1 == 1) = true := hb
          clear hb
          go_wp2
          exact ⟨⟨7, by omega, rfl, congrArg Value.string hT.out, congrArg (Value.int .i64) hS.out, trivial⟩, by simp [intOf]⟩
        · have hT := Lib.hid (Pl.textTo_off hb)
          have hS := Lib.hid (Pl.restTo_off hb)
          have hq : (bits .and .i64 (s / 8192) 1 == 1) = false := hb
          clear hb
          go_wp2
          exact ⟨⟨7, by omega, rfl, congrArg Value.string hT.out.symm, congrArg (Value.int .i64) hS.out.symm, trivial⟩, by simp [intOf]⟩
      · have hts := Pl.textTo_size s 7
        rcases Bool.eq_false_or_eq_true (Pl.kbit s 7) with hb | hb
        · have hT := Lib.hid (Pl.textTo_on hb (by omega))
          have hS := Lib.hid (Pl.restTo_on hb)
          have hq : (bits .and .i64 (s / 32768) 1 == 1) = true := hb
          clear hb
          go_wp2
          exact ⟨⟨8, by omega, rfl, congrArg Value.string hT.out, congrArg (Value.int .i64) hS.out, trivial⟩, by simp [intOf]⟩
        · have hT := Lib.hid (Pl.textTo_off hb)
          have hS := Lib.hid (Pl.restTo_off hb)
          have hq : (bits .and .i64 (s / 32768) 1 == 1) = false := hb
          clear hb
          go_wp2
          exact ⟨⟨8, by omega, rfl, congrArg Value.string hT.out.symm, congrArg (Value.int .i64) hS.out.symm, trivial⟩, by simp [intOf]⟩
      · have hts := Pl.textTo_size s 8
        rcases Bool.eq_false_or_eq_true (Pl.kbit s 8) with hb | hb
        · have hT := Lib.hid (Pl.textTo_on hb (by omega))
          have hS := Lib.hid (Pl.restTo_on hb)
          have hq : (bits .and .i64 (s / 131072) 1 == 1) = true := hb
          clear hb
          go_wp2
          exact ⟨⟨9, by omega, rfl, congrArg Value.string hT.out, congrArg (Value.int .i64) hS.out, trivial⟩, by simp [intOf]⟩
        · have hT := Lib.hid (Pl.textTo_off hb)
          have hS := Lib.hid (Pl.restTo_off hb)
          have hq : (bits .and .i64 (s / 131072) 1 == 1) = false := hb
          clear hb
          go_wp2
          exact ⟨⟨9, by omega, rfl, congrArg Value.string hT.out.symm, congrArg (Value.int .i64) hS.out.symm, trivial⟩, by simp [intOf]⟩
      · have hts := Pl.textTo_size s 9
        rcases Bool.eq_false_or_eq_true (Pl.kbit s 9) with hb | hb
        · have hT := Lib.hid (Pl.textTo_on hb (by omega))
          have hS := Lib.hid (Pl.restTo_on hb)
          have hq : (bits .and .i64 (s / 524288) 1 == 1) = true := hb
          clear hb
          go_wp2
          exact ⟨⟨10, by omega, rfl, congrArg Value.string hT.out, congrArg (Value.int .i64) hS.out, trivial⟩, by simp [intOf]⟩
        · have hT := Lib.hid (Pl.textTo_off hb)
          have hS := Lib.hid (Pl.restTo_off hb)
          have hq : (bits .and .i64 (s / 524288) 1 == 1) = false := hb
          clear hb
          go_wp2
          exact ⟨⟨10, by omega, rfl, congrArg Value.string hT.out.symm, congrArg (Value.int .i64) hS.out.symm, trivial⟩, by simp [intOf]⟩
    · have hk10 : k = 10 := by omega
      subst hk10
      have hts := Pl.textTo_size s 10
      have hrs : (⟨(Pl.textTo s 10).data.reverse⟩ : ByteArray).size ≤ 10 := by
        have : (⟨(Pl.textTo s 10).data.reverse⟩ : ByteArray).size = (Pl.textTo s 10).size := Array.size_reverse
        omega
      have HB := Lib.hid (((Below.refl w.heap.size w).alloc (Nat.le_refl _) (.cells #[.int .i64 1, .int .i64 2, .int .i64 4, .int .i64 6, .int .i64 8, .int .i64 9, .int .i64 13, .int .i64 15, .int .i64 17, .int .i64 19] 3)))
      clear hk hlt
      have hW : Hid (Pl.written s = if Pl.canWrite s = true then Pl.doubledText s (Pl.turnedText s (Pl.textTo s 10)) else ⟨#[]⟩) := Lib.hid rfl
      have hC : Hid (Pl.canWrite s = (Pl.strokeB s && !(bits .and .i64 s 1 == 0) && (Pl.restTo s 10 == 0) && (bits .and .i64 s 6144 == 0 || bits .and .i64 s 6144 == 6144))) := Lib.hid rfl
      generalize Pl.restTo s 10 = r at hC ⊢
      generalize Pl.textTo s 10 = T at hW hts hrs ⊢
      cases hv : Pl.strokeB s
      · have HE : Hid (Pl.written s = ⟨#[]⟩) := Lib.hid (by rw [hW.out, hC.out, hv]; exact if_neg (by simp))
        go_wp2_with ((go_at_call 90; refine (IsValidStroke_any _ _).mono ?_; rintro e w' ⟨rfl, rfl⟩))
        all_goals go_ret
        all_goals exact ⟨ret_str HE.out.symm, HB.out⟩
      cases b1 : (bits .and .i64 s 1 == 0)
      rotate_left
      · have HE : Hid (Pl.written s = ⟨#[]⟩) := Lib.hid (by rw [hW.out, hC.out, hv, b1]; exact if_neg (by simp))
        (first | have p1 := bT b1 | have p1 := bF b1); (first | have q1 := nT b1 | have q1 := nF b1)
        go_wp2_with ((go_at_call 90; refine (IsValidStroke_any _ _).mono ?_; rintro e w' ⟨rfl, rfl⟩))
        all_goals go_ret
        all_goals exact ⟨ret_str HE.out.symm, HB.out⟩
      cases b2 : (r == 0)
      · have HE : Hid (Pl.written s = ⟨#[]⟩) := Lib.hid (by rw [hW.out, hC.out, hv, b1, b2]; exact if_neg (by simp))
        (first | have p1 := bT b1 | have p1 := bF b1); (first | have q1 := nT b1 | have q1 := nF b1)
        (first | have p2 := bT b2 | have p2 := bF b2); (first | have q2 := nT b2 | have q2 := nF b2)
        go_wp2_with ((go_at_call 90; refine (IsValidStroke_any _ _).mono ?_; rintro e w' ⟨rfl, rfl⟩))
        all_goals go_ret
        all_goals exact ⟨ret_str HE.out.symm, HB.out⟩
      cases b3 : (bits .and .i64 s 6144 == 0)
      · cases b4 : (bits .and .i64 s 6144 == 6144)
        · have HE : Hid (Pl.written s = ⟨#[]⟩) := Lib.hid (by rw [hW.out, hC.out, hv, b1, b2, b3, b4]; exact if_neg (by simp))
          (first | have p1 := bT b1 | have p1 := bF b1); (first | have q1 := nT b1 | have q1 := nF b1)
          (first | have p2 := bT b2 | have p2 := bF b2); (first | have q2 := nT b2 | have q2 := nF b2)
          (first | have p3 := bT b3 | have p3 := bF b3); (first | have q3 := nT b3 | have q3 := nF b3)
          (first | have p4 := bT b4 | have p4 := bF b4); (first | have q4 := nT b4 | have q4 := nF b4)
          go_wp2_with ((go_at_call 90; refine (IsValidStroke_any _ _).mono ?_; rintro e w' ⟨rfl, rfl⟩))
          all_goals go_ret
          all_goals exact ⟨ret_str HE.out.symm, HB.out⟩
        · cases b5 : (bits .and .i64 s 2097152 == 0)
          · have HE : Hid (Pl.written s = Pl.dbl ⟨(T).data.reverse⟩) := Lib.hid (by rw [hW.out, hC.out, Pl.turnedText, Pl.doubledText, hv, b1, b2, b3, b4, b5]; simp)
            (first | have p1 := bT b1 | have p1 := bF b1); (first | have q1 := nT b1 | have q1 := nF b1)
            (first | have p2 := bT b2 | have p2 := bF b2); (first | have q2 := nT b2 | have q2 := nF b2)
            (first | have p3 := bT b3 | have p3 := bF b3); (first | have q3 := nT b3 | have q3 := nF b3)
            (first | have p4 := bT b4 | have p4 := bF b4); (first | have q4 := nT b4 | have q4 := nF b4)
            (first | have p5 := bT b5 | have p5 := bF b5); (first | have q5 := nT b5 | have q5 := nF b5)
            go_wp2_with (first | (go_at_call 90; refine (IsValidStroke_any _ _).mono ?_; rintro e w' ⟨rfl, rfl⟩) | (go_at_call 91; refine (reversed_any _ _ (by omega)).mono ?_; rintro e w2 ⟨rfl, hb2⟩; have hcf := bcell hb2; have hz2 := hb2.size; (repeat (first | simp only [World.size_alloc] at hz2 hcf | simp only [size_setCell] at hz2 hcf | simp only [size_drewN] at hz2 hcf | simp only [size_drew] at hz2 hcf)); obtain ⟨hc2, hf2⟩ := hcf; (try have hn2a : _ < w2.heap.size := Nat.lt_of_lt_of_le hn2a (by omega)); (try have hn2b : _ < w2.heap.size := Nat.lt_of_lt_of_le hn2b (by omega)); (try have hn2c : _ < w2.heap.size := Nat.lt_of_lt_of_le hn2c (by omega)); (try have hn2d : _ < w2.heap.size := Nat.lt_of_lt_of_le hn2d (by omega)); (try have hn2e : _ < w2.heap.size := Nat.lt_of_lt_of_le hn2e (by omega)); (try have ho2a : _ < w2.heap.size := Nat.lt_of_lt_of_le ho2a (by omega)); (try have ho2b : _ < w2.heap.size := Nat.lt_of_lt_of_le ho2b (by omega)); (try have ho2c : _ < w2.heap.size := Nat.lt_of_lt_of_le ho2c (by omega)); (try have ho2d : _ < w2.heap.size := Nat.lt_of_lt_of_le ho2d (by omega)); (try have ho2e : _ < w2.heap.size := Nat.lt_of_lt_of_le ho2e (by omega)); (try have ho2a := hn2a); (try have ho2b := hn2b); (try have ho2c := hn2c); (try have ho2d := hn2d); (try have ho2e := hn2e); (try have hn2a := Nat.lt_of_succ_le hz2); (try have hn2b := Nat.lt_of_succ_lt hn2a); (try have hn2c := Nat.lt_of_succ_lt hn2b); (try have hn2d := Nat.lt_of_succ_lt hn2c); (try have hn2e := Nat.lt_of_succ_lt hn2d); (try have htA : w.heap.size < w2.heap.size := by omega)) | (go_at_call 92; refine (doubled_any _ _ (by omega)).mono ?_; rintro e w' ⟨rfl, n1, rfl⟩))
            all_goals go_ret
            all_goals exact ⟨ret_str HE.out.symm, ((HB.out.trans (hb2.mono (by rw [World.size_alloc]; omega))).trans ⟨rfl, rfl, rfl, Nat.le_refl _, fun _ _ => rfl⟩)⟩
          · have HE : Hid (Pl.written s = ⟨(T).data.reverse⟩) := Lib.hid (by rw [hW.out, hC.out, Pl.turnedText, Pl.doubledText, hv, b1, b2, b3, b4, b5]; simp)
            (first | have p1 := bT b1 | have p1 := bF b1); (first | have q1 := nT b1 | have q1 := nF b1)
            (first | have p2 := bT b2 | have p2 := bF b2); (first | have q2 := nT b2 | have q2 := nF b2)
            (first | have p3 := bT b3 | have p3 := bF b3); (first | have q3 := nT b3 | have q3 := nF b3)
            (first | have p4 := bT b4 | have p4 := bF b4); (first | have q4 := nT b4 | have q4 := nF b4)
            (first | have p5 := bT b5 | have p5 := bF b5); (first | have q5 := nT b5 | have q5 := nF b5)
            go_wp2_with (first | (go_at_call 90; refine (IsValidStroke_any _ _).mono ?_; rintro e w' ⟨rfl, rfl⟩) | (go_at_call 91; refine (reversed_any _ _ (by omega)).mono ?_; rintro e w2 ⟨rfl, hb2⟩; have hcf := bcell hb2; have hz2 := hb2.size; (repeat (first | simp only [World.size_alloc] at hz2 hcf | simp only [size_setCell] at hz2 hcf | simp only [size_drewN] at hz2 hcf | simp only [size_drew] at hz2 hcf)); obtain ⟨hc2, hf2⟩ := hcf; (try have hn2a : _ < w2.heap.size := Nat.lt_of_lt_of_le hn2a (by omega)); (try have hn2b : _ < w2.heap.size := Nat.lt_of_lt_of_le hn2b (by omega)); (try have hn2c : _ < w2.heap.size := Nat.lt_of_lt_of_le hn2c (by omega)); (try have hn2d : _ < w2.heap.size := Nat.lt_of_lt_of_le hn2d (by omega)); (try have hn2e : _ < w2.heap.size := Nat.lt_of_lt_of_le hn2e (by omega)); (try have ho2a : _ < w2.heap.size := Nat.lt_of_lt_of_le ho2a (by omega)); (try have ho2b : _ < w2.heap.size := Nat.lt_of_lt_of_le ho2b (by omega)); (try have ho2c : _ < w2.heap.size := Nat.lt_of_lt_of_le ho2c (by omega)); (try have ho2d : _ < w2.heap.size := Nat.lt_of_lt_of_le ho2d (by omega)); (try have ho2e : _ < w2.heap.size := Nat.lt_of_lt_of_le ho2e (by omega)); (try have ho2a := hn2a); (try have ho2b := hn2b); (try have ho2c := hn2c); (try have ho2d := hn2d); (try have ho2e := hn2e); (try have hn2a := Nat.lt_of_succ_le hz2); (try have hn2b := Nat.lt_of_succ_lt hn2a); (try have hn2c := Nat.lt_of_succ_lt hn2b); (try have hn2d := Nat.lt_of_succ_lt hn2c); (try have hn2e := Nat.lt_of_succ_lt hn2d); (try have htA : w.heap.size < w2.heap.size := by omega)))
            all_goals go_ret
            all_goals exact ⟨ret_str HE.out.symm, HB.out.trans (hb2.mono (by rw [World.size_alloc]; omega))⟩
      · cases b5 : (bits .and .i64 s 2097152 == 0)
        · have HE : Hid (Pl.written s = Pl.dbl (T)) := Lib.hid (by rw [hW.out, hC.out, Pl.turnedText, Pl.doubledText, hv, b1, b2, b3, b5]; simp)
          (first | have p1 := bT b1 | have p1 := bF b1); (first | have q1 := nT b1 | have q1 := nF b1)
          (first | have p2 := bT b2 | have p2 := bF b2); (first | have q2 := nT b2 | have q2 := nF b2)
          (first | have p3 := bT b3 | have p3 := bF b3); (first | have q3 := nT b3 | have q3 := nF b3)
          (first | have p5 := bT b5 | have p5 := bF b5); (first | have q5 := nT b5 | have q5 := nF b5)
          go_wp2_with (first | (go_at_call 90; refine (IsValidStroke_any _ _).mono ?_; rintro e w' ⟨rfl, rfl⟩) | (go_at_call 92; refine (doubled_any _ _ (by omega)).mono ?_; rintro e w' ⟨rfl, n1, rfl⟩))
          all_goals go_ret
          all_goals exact ⟨ret_str HE.out.symm, HB.out.trans ⟨rfl, rfl, rfl, Nat.le_refl _, fun _ _ => rfl⟩⟩
        · have HE : Hid (Pl.written s = T) := Lib.hid (by rw [hW.out, hC.out, Pl.turnedText, Pl.doubledText, hv, b1, b2, b3, b5]; simp)
          (first | have p1 := bT b1 | have p1 := bF b1); (first | have q1 := nT b1 | have q1 := nF b1)
          (first | have p2 := bT b2 | have p2 := bF b2); (first | have q2 := nT b2 | have q2 := nF b2)
          (first | have p3 := bT b3 | have p3 := bF b3); (first | have q3 := nT b3 | have q3 := nF b3)
          (first | have p5 := bT b5 | have p5 := bF b5); (first | have q5 := nT b5 | have q5 := nF b5)
          go_wp2_with ((go_at_call 90; refine (IsValidStroke_any _ _).mono ?_; rintro e w' ⟨rfl, rfl⟩))
          all_goals go_ret
          all_goals exact ⟨ret_str HE.out.symm, HB.out⟩

theorem written_empty (s : Int) : (Pl.written s).toList.isEmpty = !Pl.isNum s := by
  rw [← Pl.written_isNum s]; cases (Pl.written s).toList <;> rfl

set_option maxHeartbeats 400000 in
theorem IsNumberStroke_any (s : Int) (w : World) :
    Calls Try.prog 16 #[.int .i64 s] w fun e w' => e = .returned (.bool (Pl.isNum s)) ∧ Below w.heap.size w w' := by
  have hE := written_empty s
  go_enter Try.func16, Try.ntmps16
  go_wp2_with ((go_at_call 57; refine (written_any s _).mono ?_; rintro e w1 ⟨rfl, hb1⟩; have hcf := bcell hb1; have hz1 := hb1.size; (repeat (first | simp only [World.size_alloc] at hz1 hcf | simp only [size_setCell] at hz1 hcf | simp only [size_drewN] at hz1 hcf | simp only [size_drew] at hz1 hcf)); obtain ⟨hc1, hf1⟩ := hcf; (try have hn1a : _ < w1.heap.size := Nat.lt_of_lt_of_le hn1a (by omega)); (try have hn1b : _ < w1.heap.size := Nat.lt_of_lt_of_le hn1b (by omega)); (try have hn1c : _ < w1.heap.size := Nat.lt_of_lt_of_le hn1c (by omega)); (try have hn1d : _ < w1.heap.size := Nat.lt_of_lt_of_le hn1d (by omega)); (try have hn1e : _ < w1.heap.size := Nat.lt_of_lt_of_le hn1e (by omega)); (try have ho1a : _ < w1.heap.size := Nat.lt_of_lt_of_le ho1a (by omega)); (try have ho1b : _ < w1.heap.size := Nat.lt_of_lt_of_le ho1b (by omega)); (try have ho1c : _ < w1.heap.size := Nat.lt_of_lt_of_le ho1c (by omega)); (try have ho1d : _ < w1.heap.size := Nat.lt_of_lt_of_le ho1d (by omega)); (try have ho1e : _ < w1.heap.size := Nat.lt_of_lt_of_le ho1e (by omega)); (try have ho1a := hn1a); (try have ho1b := hn1b); (try have ho1c := hn1c); (try have ho1d := hn1d); (try have ho1e := hn1e); (try have hn1a := Nat.lt_of_succ_le hz1); (try have hn1b := Nat.lt_of_succ_lt hn1a); (try have hn1c := Nat.lt_of_succ_lt hn1b); (try have hn1d := Nat.lt_of_succ_lt hn1c); (try have hn1e := Nat.lt_of_succ_lt hn1d); (try have htA : w.heap.size < w1.heap.size := by omega)))
  all_goals go_ret
  all_goals exact ⟨ret_bool (by simp), hb1⟩

set_option maxHeartbeats 400000 in
theorem StrokeDigits_any (s : Int) (w : World) :
    Calls Try.prog 35 #[.int .i64 s] w fun e w' => e = .returned (.tuple #[.string (Pl.written s), .bool (Pl.isNum s)]) ∧ Below w.heap.size w w' := by
  have hE := written_empty s
  go_enter Try.func35, Try.ntmps35
  go_wp2_with ((go_at_call 57; refine (written_any s _).mono ?_; rintro e w1 ⟨rfl, hb1⟩; have hcf := bcell hb1; have hz1 := hb1.size; (repeat (first | simp only [World.size_alloc] at hz1 hcf | simp only [size_setCell] at hz1 hcf | simp only [size_drewN] at hz1 hcf | simp only [size_drew] at hz1 hcf)); obtain ⟨hc1, hf1⟩ := hcf; (try have hn1a : _ < w1.heap.size := Nat.lt_of_lt_of_le hn1a (by omega)); (try have hn1b : _ < w1.heap.size := Nat.lt_of_lt_of_le hn1b (by omega)); (try have hn1c : _ < w1.heap.size := Nat.lt_of_lt_of_le hn1c (by omega)); (try have hn1d : _ < w1.heap.size := Nat.lt_of_lt_of_le hn1d (by omega)); (try have hn1e : _ < w1.heap.size := Nat.lt_of_lt_of_le hn1e (by omega)); (try have ho1a : _ < w1.heap.size := Nat.lt_of_lt_of_le ho1a (by omega)); (try have ho1b : _ < w1.heap.size := Nat.lt_of_lt_of_le ho1b (by omega)); (try have ho1c : _ < w1.heap.size := Nat.lt_of_lt_of_le ho1c (by omega)); (try have ho1d : _ < w1.heap.size := Nat.lt_of_lt_of_le ho1d (by omega)); (try have ho1e : _ < w1.heap.size := Nat.lt_of_lt_of_le ho1e (by omega)); (try have ho1a := hn1a); (try have ho1b := hn1b); (try have ho1c := hn1c); (try have ho1d := hn1d); (try have ho1e := hn1e); (try have hn1a := Nat.lt_of_succ_le hz1); (try have hn1b := Nat.lt_of_succ_lt hn1a); (try have hn1c := Nat.lt_of_succ_lt hn1b); (try have hn1d := Nat.lt_of_succ_lt hn1c); (try have hn1e := Nat.lt_of_succ_lt hn1d); (try have htA : w.heap.size < w1.heap.size := by omega)))
  all_goals go_ret2
  all_goals exact ⟨ret_strb rfl (by simp), hb1⟩

end Go.Proofs.Ytmlckocmfoiobaa
