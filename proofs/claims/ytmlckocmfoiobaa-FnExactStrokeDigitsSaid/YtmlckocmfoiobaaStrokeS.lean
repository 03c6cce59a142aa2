/-
  CONTRACTS: number strokes of the reference.
-/
import Derived.Test.YtmlckocmfoiobaaStroke
namespace Go.Proofs.Ytmlckocmfoiobaa
open Go.RowKit

set_option maxHeartbeats 400000 in
theorem l15Keys_any (w : World) :
    Calls Try.prog 88 #[] w fun e w' => e = .returned (.slice (some ⟨w.heap.size, 0, none⟩) 10 10) ∧ w.alloc (.cells #[.int .i64 1, .int .i64 2, .int .i64 4, .int .i64 6, .int .i64 8, .int .i64 9, .int .i64 13, .int .i64 15, .int .i64 17, .int .i64 19] 3) = w' := by
  go_enter Try.func88, Try.ntmps88
  go_wp2
  go_ret
  exact ⟨rfl, rfl⟩

set_option maxHeartbeats 800000 in
theorem l15Mask_any (w : World) :
    Calls Try.prog 56 #[] w fun e w' => e = .returned (.int .i64 697174) ∧ Below w.heap.size w w' := by
  have h10 : ((Pl.maskTo 10 : Nat) : Int) = 697174 := by rw [Pl.maskTo_ten]; rfl
  go_enter Try.func56, Try.ntmps56
  go_wp2
  go_loopw [1, 2] (fun m i wr => ∃ k : Nat, k ≤ 10 ∧ i = .int .i64 k ∧ m = .int .i64 (Pl.maskTo k : Nat) ∧ Below w.heap.size w wr) (fun _ i _ => 10 - (intOf i).toNat)
  case atStart => exact ⟨0, by omega, rfl, rfl, Below.refl _ _⟩
  case round =>
    obtain ⟨k, hk, rfl, rfl, hb⟩ := hrel
    by_cases hlt : k < 10
    · have hc : k = 0 ∨ k = 1 ∨ k = 2 ∨ k = 3 ∨ k = 4 ∨ k = 5 ∨ k = 6 ∨ k = 7 ∨ k = 8 ∨ k = 9 := by omega
      rcases hc with rfl | rfl | rfl | rfl | rfl | rfl | rfl | rfl | rfl | rfl
      · have hS := Lib.hid (Pl.or_step 0)
        go_wp2_with ((go_at_call 88; refine (l15Keys_any _).mono ?_; rintro e w' ⟨rfl, rfl⟩))
        exact ⟨⟨1, by omega, rfl, congrArg (Value.int .i64) hS.out, hb.alloc hb.size _⟩, by simp [intOf]⟩
      · have hS := Lib.hid (Pl.or_step 1)
        go_wp2_with ((go_at_call 88; refine (l15Keys_any _).mono ?_; rintro e w' ⟨rfl, rfl⟩))
        exact ⟨⟨2, by omega, rfl, congrArg (Value.int .i64) hS.out, hb.alloc hb.size _⟩, by simp [intOf]⟩
      · have hS := Lib.hid (Pl.or_step 2)
        go_wp2_with ((go_at_call 88; refine (l15Keys_any _).mono ?_; rintro e w' ⟨rfl, rfl⟩))
        exact ⟨⟨3, by omega, rfl, congrArg (Value.int .i64) hS.out, hb.alloc hb.size _⟩, by simp [intOf]⟩
      · have hS := Lib.hid (Pl.or_step 3)
        go_wp2_with ((go_at_call 88; refine (l15Keys_any _).mono ?_; rintro e w' ⟨rfl, rfl⟩))
        exact ⟨⟨4, by omega, rfl, congrArg (Value.int .i64) hS.out, hb.alloc hb.size _⟩, by simp [intOf]⟩
      · have hS := Lib.hid (Pl.or_step 4)
        go_wp2_with ((go_at_call 88; refine (l15Keys_any _).mono ?_; rintro e w' ⟨rfl, rfl⟩))
        exact ⟨⟨5, by omega, rfl, congrArg (Value.int .i64) hS.out, hb.alloc hb.size _⟩, by simp [intOf]⟩
      · have hS := Lib.hid (Pl.or_step 5)
        go_wp2_with ((go_at_call 88; refine (l15Keys_any _).mono ?_; rintro e w' ⟨rfl, rfl⟩))
        exact ⟨⟨6, by omega, rfl, congrArg (Value.int .i64) hS.out, hb.alloc hb.size _⟩, by simp [intOf]⟩
      · have hS := Lib.hid (Pl.or_step 6)
        go_wp2_with ((go_at_call 88; refine (l15Keys_any _).mono ?_; rintro e w' ⟨rfl, rfl⟩))
        exact ⟨⟨7, by omega, rfl, congrArg (Value.int .i64) hS.out, hb.alloc hb.size _⟩, by simp [intOf]⟩
      · have hS := Lib.hid (Pl.or_step 7)
        go_wp2_with ((go_at_call 88; refine (l15Keys_any _).mono ?_; rintro e w' ⟨rfl, rfl⟩))
        exact ⟨⟨8, by omega, rfl, congrArg (Value.int .i64) hS.out, hb.alloc hb.size _⟩, by simp [intOf]⟩
      · have hS := Lib.hid (Pl.or_step 8)
        go_wp2_with ((go_at_call 88; refine (l15Keys_any _).mono ?_; rintro e w' ⟨rfl, rfl⟩))
        exact ⟨⟨9, by omega, rfl, congrArg (Value.int .i64) hS.out, hb.alloc hb.size _⟩, by simp [intOf]⟩
      · have hS := Lib.hid (Pl.or_step 9)
        go_wp2_with ((go_at_call 88; refine (l15Keys_any _).mono ?_; rintro e w' ⟨rfl, rfl⟩))
        exact ⟨⟨10, by omega, rfl, congrArg (Value.int .i64) hS.out, hb.alloc hb.size _⟩, by simp [intOf]⟩
    · have hk10 : k = 10 := by omega
      subst hk10
      rw [h10]
      go_wp2
      go_ret
      exact ⟨rfl, hb⟩

set_option maxHeartbeats 400000 in
theorem l15Order_any (w : World) :
    Calls Try.prog 100 #[] w fun e w' => e = .returned (.string ⟨#[49, 50, 51, 52, 53, 48, 54, 55, 56, 57]⟩) ∧ w = w' := by
  go_enter Try.func100, Try.ntmps100
  go_wp2
  go_ret
  exact ⟨rfl, rfl⟩

set_option maxHeartbeats 800000 in
theorem specIsNumberStroke_any (s : Int) (w : World) :
    Calls Try.prog 15 #[.int .i64 s] w fun e w' => e = .returned (.bool (Pl.isNum s)) ∧ Below w.heap.size w w' := by
  have o1 : bits .or .i64 1 697174 = 697175 := rfl
  have o2 : bits .or .i64 697175 6144 = 703319 := rfl
  have o3 : bits .or .i64 703319 2097152 = 2800471 := rfl
  have hI : Hid (Pl.isNum s = (Pl.strokeB s && !(bits .and .i64 s 1 == 0) && !(bits .and .i64 s 697174 == 0) && (bits .andNot .i64 s 2800471 == 0) && (bits .and .i64 s 6144 == 0 || bits .and .i64 s 6144 == 6144))) := Lib.hid rfl
  go_enter Try.func15, Try.ntmps15
  cases hv : Pl.strokeB s
  · have HE : Hid (Pl.isNum s = false) := Lib.hid (by rw [hI.out, hv]; rfl)
    go_wp2_with (first | (go_at_call 55; refine (l2Good_any _ _).mono ?_; rintro e w' ⟨rfl, rfl⟩) | (go_at_call 56; refine (l15Mask_any _).mono ?_; rintro e w2 ⟨rfl, hb2⟩; have hcf := bcell hb2; have hz2 := hb2.size; (repeat (first | simp only [World.size_alloc] at hz2 hcf | simp only [size_setCell] at hz2 hcf | simp only [size_drewN] at hz2 hcf | simp only [size_drew] at hz2 hcf)); obtain ⟨hc2, hf2⟩ := hcf; (try have hn2a : _ < w2.heap.size := Nat.lt_of_lt_of_le hn2a (by omega)); (try have hn2b : _ < w2.heap.size := Nat.lt_of_lt_of_le hn2b (by omega)); (try have hn2c : _ < w2.heap.size := Nat.lt_of_lt_of_le hn2c (by omega)); (try have hn2d : _ < w2.heap.size := Nat.lt_of_lt_of_le hn2d (by omega)); (try have hn2e : _ < w2.heap.size := Nat.lt_of_lt_of_le hn2e (by omega)); (try have ho2a : _ < w2.heap.size := Nat.lt_of_lt_of_le ho2a (by omega)); (try have ho2b : _ < w2.heap.size := Nat.lt_of_lt_of_le ho2b (by omega)); (try have ho2c : _ < w2.heap.size := Nat.lt_of_lt_of_le ho2c (by omega)); (try have ho2d : _ < w2.heap.size := Nat.lt_of_lt_of_le ho2d (by omega)); (try have ho2e : _ < w2.heap.size := Nat.lt_of_lt_of_le ho2e (by omega)); (try have ho2a := hn2a); (try have ho2b := hn2b); (try have ho2c := hn2c); (try have ho2d := hn2d); (try have ho2e := hn2e); (try have hn2a := Nat.lt_of_succ_le hz2); (try have hn2b := Nat.lt_of_succ_lt hn2a); (try have hn2c := Nat.lt_of_succ_lt hn2b); (try have hn2d := Nat.lt_of_succ_lt hn2c); (try have hn2e := Nat.lt_of_succ_lt hn2d); (try have htA : w.heap.size < w2.heap.size := by omega)))
    all_goals go_ret
    all_goals exact ⟨ret_bool HE.out.symm, Below.refl _ _⟩
  cases b1 : (bits .and .i64 s 1 == 0)
  rotate_left
  · have HE : Hid (Pl.isNum s = false) := Lib.hid (by rw [hI.out, hv, b1]; rfl)
    have p1 := bT b1; have q1 := nT b1
    go_wp2_with (first | (go_at_call 55; refine (l2Good_any _ _).mono ?_; rintro e w' ⟨rfl, rfl⟩) | (go_at_call 56; refine (l15Mask_any _).mono ?_; rintro e w2 ⟨rfl, hb2⟩; have hcf := bcell hb2; have hz2 := hb2.size; (repeat (first | simp only [World.size_alloc] at hz2 hcf | simp only [size_setCell] at hz2 hcf | simp only [size_drewN] at hz2 hcf | simp only [size_drew] at hz2 hcf)); obtain ⟨hc2, hf2⟩ := hcf; (try have hn2a : _ < w2.heap.size := Nat.lt_of_lt_of_le hn2a (by omega)); (try have hn2b : _ < w2.heap.size := Nat.lt_of_lt_of_le hn2b (by omega)); (try have hn2c : _ < w2.heap.size := Nat.lt_of_lt_of_le hn2c (by omega)); (try have hn2d : _ < w2.heap.size := Nat.lt_of_lt_of_le hn2d (by omega)); (try have hn2e : _ < w2.heap.size := Nat.lt_of_lt_of_le hn2e (by omega)); (try have ho2a : _ < w2.heap.size := Nat.lt_of_lt_of_le ho2a (by omega)); (try have ho2b : _ < w2.heap.size := Nat.lt_of_lt_of_le ho2b (by omega)); (try have ho2c : _ < w2.heap.size := Nat.lt_of_lt_of_le ho2c (by omega)); (try have ho2d : _ < w2.heap.size := Nat.lt_of_lt_of_le ho2d (by omega)); (try have ho2e : _ < w2.heap.size := Nat.lt_of_lt_of_le ho2e (by omega)); (try have ho2a := hn2a); (try have ho2b := hn2b); (try have ho2c := hn2c); (try have ho2d := hn2d); (try have ho2e := hn2e); (try have hn2a := Nat.lt_of_succ_le hz2); (try have hn2b := Nat.lt_of_succ_lt hn2a); (try have hn2c := Nat.lt_of_succ_lt hn2b); (try have hn2d := Nat.lt_of_succ_lt hn2c); (try have hn2e := Nat.lt_of_succ_lt hn2d); (try have htA : w.heap.size < w2.heap.size := by omega)))
    all_goals go_ret
    all_goals exact ⟨ret_bool HE.out.symm, Below.refl _ _⟩
  have p1 := bF b1
  have q1 := nF b1
  cases b2 : (bits .and .i64 s 697174 == 0)
  rotate_left
  · have HE : Hid (Pl.isNum s = false) := Lib.hid (by rw [hI.out, hv, b1, b2]; rfl)
    have p2 := bT b2; have q2 := nT b2
    go_wp2_with (first | (go_at_call 55; refine (l2Good_any _ _).mono ?_; rintro e w' ⟨rfl, rfl⟩) | (go_at_call 56; refine (l15Mask_any _).mono ?_; rintro e w2 ⟨rfl, hb2⟩; have hcf := bcell hb2; have hz2 := hb2.size; (repeat (first | simp only [World.size_alloc] at hz2 hcf | simp only [size_setCell] at hz2 hcf | simp only [size_drewN] at hz2 hcf | simp only [size_drew] at hz2 hcf)); obtain ⟨hc2, hf2⟩ := hcf; (try have hn2a : _ < w2.heap.size := Nat.lt_of_lt_of_le hn2a (by omega)); (try have hn2b : _ < w2.heap.size := Nat.lt_of_lt_of_le hn2b (by omega)); (try have hn2c : _ < w2.heap.size := Nat.lt_of_lt_of_le hn2c (by omega)); (try have hn2d : _ < w2.heap.size := Nat.lt_of_lt_of_le hn2d (by omega)); (try have hn2e : _ < w2.heap.size := Nat.lt_of_lt_of_le hn2e (by omega)); (try have ho2a : _ < w2.heap.size := Nat.lt_of_lt_of_le ho2a (by omega)); (try have ho2b : _ < w2.heap.size := Nat.lt_of_lt_of_le ho2b (by omega)); (try have ho2c : _ < w2.heap.size := Nat.lt_of_lt_of_le ho2c (by omega)); (try have ho2d : _ < w2.heap.size := Nat.lt_of_lt_of_le ho2d (by omega)); (try have ho2e : _ < w2.heap.size := Nat.lt_of_lt_of_le ho2e (by omega)); (try have ho2a := hn2a); (try have ho2b := hn2b); (try have ho2c := hn2c); (try have ho2d := hn2d); (try have ho2e := hn2e); (try have hn2a := Nat.lt_of_succ_le hz2); (try have hn2b := Nat.lt_of_succ_lt hn2a); (try have hn2c := Nat.lt_of_succ_lt hn2b); (try have hn2d := Nat.lt_of_succ_lt hn2c); (try have hn2e := Nat.lt_of_succ_lt hn2d); (try have htA : w.heap.size < w2.heap.size := by omega)))
    all_goals go_ret
    all_goals exact ⟨ret_bool HE.out.symm, hb2⟩
  have p2 := bF b2
  have q2 := nF b2
  have HE : Hid (Pl.isNum s = ((bits .andNot .i64 s 2800471 == 0) && (bits .and .i64 s 6144 == 0 || bits .and .i64 s 6144 == 6144))) := Lib.hid (by rw [hI.out, hv, b1, b2]; rfl)
  go_wp2_with (first | (go_at_call 55; refine (l2Good_any _ _).mono ?_; rintro e w' ⟨rfl, rfl⟩) | (go_at_call 56; refine (l15Mask_any _).mono ?_; rintro e w2 ⟨rfl, hb2⟩; have hcf := bcell hb2; have hz2 := hb2.size; (repeat (first | simp only [World.size_alloc] at hz2 hcf | simp only [size_setCell] at hz2 hcf | simp only [size_drewN] at hz2 hcf | simp only [size_drew] at hz2 hcf)); obtain ⟨hc2, hf2⟩ := hcf; (try have hn2a : _ < w2.heap.size := Nat.lt_of_lt_of_le hn2a (by omega)); (try have hn2b : _ < w2.heap.size := Nat.lt_of_lt_of_le hn2b (by omega)); (try have hn2c : _ < w2.heap.size := Nat.lt_of_lt_of_le hn2c (by omega)); (try have hn2d : _ < w2.heap.size := Nat.lt_of_lt_of_le hn2d (by omega)); (try have hn2e : _ < w2.heap.size := Nat.lt_of_lt_of_le hn2e (by omega)); (try have ho2a : _ < w2.heap.size := Nat.lt_of_lt_of_le ho2a (by omega)); (try have ho2b : _ < w2.heap.size := Nat.lt_of_lt_of_le ho2b (by omega)); (try have ho2c : _ < w2.heap.size := Nat.lt_of_lt_of_le ho2c (by omega)); (try have ho2d : _ < w2.heap.size := Nat.lt_of_lt_of_le ho2d (by omega)); (try have ho2e : _ < w2.heap.size := Nat.lt_of_lt_of_le ho2e (by omega)); (try have ho2a := hn2a); (try have ho2b := hn2b); (try have ho2c := hn2c); (try have ho2d := hn2d); (try have ho2e := hn2e); (try have hn2a := Nat.lt_of_succ_le hz2); (try have hn2b := Nat.lt_of_succ_lt hn2a); (try have hn2c := Nat.lt_of_succ_lt hn2b); (try have hn2d := Nat.lt_of_succ_lt hn2c); (try have hn2e := Nat.lt_of_succ_lt hn2d); (try have htA : w.heap.size < w2.heap.size := by omega)))
  all_goals go_ret
  all_goals exact ⟨ret_bool (by rw [HE.out]; simp [*]), Below.trans (by assumption) (hb2.mono (by assumption))⟩

theorem on_ff {s : Int} {i : Nat} (h : Pl.kbit s i = true) (hi : i < 10) : Pl.specText false false s i ++ (⟨#[49, 50, 51, 52, 53, 48, 54, 55, 56, 57]⟩ : ByteArray).extract i (i + 1) = Pl.specText false false s (i + 1) := Pl.specText_on false false h hi rfl rfl
theorem on_tf {s : Int} {i : Nat} (h : Pl.kbit s i = true) (hi : i < 10) : (⟨#[49, 50, 51, 52, 53, 48, 54, 55, 56, 57]⟩ : ByteArray).extract i (i + 1) ++ Pl.specText true false s i = Pl.specText true false s (i + 1) := Pl.specText_on true false h hi rfl rfl
theorem on_ft {s : Int} {i : Nat} (h : Pl.kbit s i = true) (hi : i < 10) : Pl.specText false true s i ++ ((⟨#[49, 50, 51, 52, 53, 48, 54, 55, 56, 57]⟩ : ByteArray).extract i (i + 1) ++ (⟨#[49, 50, 51, 52, 53, 48, 54, 55, 56, 57]⟩ : ByteArray).extract i (i + 1)) = Pl.specText false true s (i + 1) := Pl.specText_on false true h hi rfl rfl
theorem on_tt {s : Int} {i : Nat} (h : Pl.kbit s i = true) (hi : i < 10) : ((⟨#[49, 50, 51, 52, 53, 48, 54, 55, 56, 57]⟩ : ByteArray).extract i (i + 1) ++ (⟨#[49, 50, 51, 52, 53, 48, 54, 55, 56, 57]⟩ : ByteArray).extract i (i + 1)) ++ Pl.specText true true s i = Pl.specText true true s (i + 1) := Pl.specText_on true true h hi rfl rfl

set_option maxHeartbeats 1600000 in
theorem l15Digits_any (n : Nat) (hn : n < 8388608) (w : World) :
    Calls Try.prog 74 #[.int .i64 n] w fun e w' => e = .returned (.string (Pl.doubledText n (Pl.turnedText n (Pl.textTo n 10)))) ∧ Below w.heap.size w w' := by
  have h10 := Lib.hid (Pl.specText_ten n)
  have ⟨t, ht⟩ : ∃ t, (bits .and .i64 (n : Int) 6144 == 0) = !t := ⟨_, (Bool.not_not _).symm⟩
  have ⟨d, hd⟩ : ∃ d, (bits .and .i64 (n : Int) 2097152 == 0) = !d := ⟨_, (Bool.not_not _).symm⟩
  rw [ht, hd, Bool.not_not, Bool.not_not] at h10
  go_enter Try.func74, Try.ntmps74
  go_wp2
  go_loopw [3, 4] (fun o i wr => ∃ k : Nat, k ≤ 10 ∧ i = .int .i64 k ∧ o = .string (Pl.specText t d n k) ∧ Below w.heap.size w wr) (fun _ i _ => 10 - (intOf i).toNat)
  case atStart => exact ⟨0, by omega, rfl, rfl, Below.refl _ _⟩
  case round =>
    obtain ⟨k, hk, rfl, rfl, hb⟩ := hrel
    by_cases hlt : k < 10
    · have hc : k = 0 ∨ k = 1 ∨ k = 2 ∨ k = 3 ∨ k = 4 ∨ k = 5 ∨ k = 6 ∨ k = 7 ∨ k = 8 ∨ k = 9 := by omega
      rcases hc with rfl | rfl | rfl | rfl | rfl | rfl | rfl | rfl | rfl | rfl
      · have hts := Pl.specText_size t d n 0
        have hkb := Pl.kbit_nat n 0 hn
        have hak := Pl.and_key n 0 hn
        rw [← hkb] at hak
        rcases Bool.eq_false_or_eq_true (Pl.kbit n 0) with hb0 | hb0
        · rw [hb0] at hak
          have r0 : (bits .and .i64 (n : Int) 2 == 0) = false := hak
          have p0 := bF r0; have q0 := nF r0
          clear hak hkb
          cases d
          · have p5 := bT hd; have q5 := nT hd
            cases t
            · have p6 := bT ht; have q6 := nT ht
              have hON := Lib.hid (on_ff hb0 (by omega))
              clear hb0
              go_wp2_with (first | (go_at_call 88; refine (l15Keys_any _).mono ?_; rintro e w' ⟨rfl, rfl⟩) | (go_at_call 100; refine (l15Order_any _).mono ?_; rintro e w' ⟨rfl, rfl⟩))
              exact ⟨⟨1, by omega, rfl, congrArg Value.string hON.out, hb.alloc hb.size _⟩, by simp [intOf]⟩
            · have p6 := bF ht; have q6 := nF ht
              have hON := Lib.hid (on_tf hb0 (by omega))
              clear hb0
              go_wp2_with (first | (go_at_call 88; refine (l15Keys_any _).mono ?_; rintro e w' ⟨rfl, rfl⟩) | (go_at_call 100; refine (l15Order_any _).mono ?_; rintro e w' ⟨rfl, rfl⟩))
              exact ⟨⟨1, by omega, rfl, congrArg Value.string hON.out, hb.alloc hb.size _⟩, by simp [intOf]⟩
          · have p5 := bF hd; have q5 := nF hd
            cases t
            · have p6 := bT ht; have q6 := nT ht
              have hON := Lib.hid (on_ft hb0 (by omega))
              clear hb0
              go_wp2_with (first | (go_at_call 88; refine (l15Keys_any _).mono ?_; rintro e w' ⟨rfl, rfl⟩) | (go_at_call 100; refine (l15Order_any _).mono ?_; rintro e w' ⟨rfl, rfl⟩))
              exact ⟨⟨1, by omega, rfl, congrArg Value.string hON.out, hb.alloc hb.size _⟩, by simp [intOf]⟩
            · have p6 := bF ht; have q6 := nF ht
              have hON := Lib.hid (on_tt hb0 (by omega))
              clear hb0
              go_wp2_with (first | (go_at_call 88; refine (l15Keys_any _).mono ?_; rintro e w' ⟨rfl, rfl⟩) | (go_at_call 100; refine (l15Order_any _).mono ?_; rintro e w' ⟨rfl, rfl⟩))
              exact ⟨⟨1, by omega, rfl, congrArg Value.string hON.out, hb.alloc hb.size _⟩, by simp [intOf]⟩
        · have hT := Lib.hid (Pl.specText_off t d hb0)
          rw [hb0] at hak
          have r0 : (bits .and .i64 (n : Int) 2 == 0) = true := hak
          have p0 := bT r0; have q0 := nT r0
          clear hak hkb hb0 ht hd
          go_wp2_with (first | (go_at_call 88; refine (l15Keys_any _).mono ?_; rintro e w' ⟨rfl, rfl⟩) | (go_at_call 100; refine (l15Order_any _).mono ?_; rintro e w' ⟨rfl, rfl⟩))
          exact ⟨⟨1, by omega, rfl, congrArg Value.string hT.out.symm, hb.alloc hb.size _⟩, by simp [intOf]⟩
      · have hts := Pl.specText_size t d n 1
        have hkb := Pl.kbit_nat n 1 hn
        have hak := Pl.and_key n 1 hn
        rw [← hkb] at hak
        rcases Bool.eq_false_or_eq_true (Pl.kbit n 1) with hb0 | hb0
        · rw [hb0] at hak
          have r0 : (bits .and .i64 (n : Int) 4 == 0) = false := hak
          have p0 := bF r0; have q0 := nF r0
          clear hak hkb
          cases d
          · have p5 := bT hd; have q5 := nT hd
            cases t
            · have p6 := bT ht; have q6 := nT ht
              have hON := Lib.hid (on_ff hb0 (by omega))
              clear hb0
              go_wp2_with (first | (go_at_call 88; refine (l15Keys_any _).mono ?_; rintro e w' ⟨rfl, rfl⟩) | (go_at_call 100; refine (l15Order_any _).mono ?_; rintro e w' ⟨rfl, rfl⟩))
              exact ⟨⟨2, by omega, rfl, congrArg Value.string hON.out, hb.alloc hb.size _⟩, by simp [intOf]⟩
            · have p6 := bF ht; have q6 := nF ht
              have hON := Lib.hid (on_tf hb0 (by omega))
              clear hb0
              go_wp2_with (first | (go_at_call 88; refine (l15Keys_any _).mono ?_; rintro e w' ⟨rfl, rfl⟩) | (go_at_call 100; refine (l15Order_any _).mono ?_; rintro e w' ⟨rfl, rfl⟩))
              exact ⟨⟨2, by omega, rfl, congrArg Value.string hON.out, hb.alloc hb.size _⟩, by simp [intOf]⟩
          · have p5 := bF hd; have q5 := nF hd
            cases t
            · have p6 := bT ht; have q6 := nT ht
              have hON := Lib.hid (on_ft hb0 (by omega))
              clear hb0
              go_wp2_with (first | (go_at_call 88; refine (l15Keys_any _).mono ?_; rintro e w' ⟨rfl, rfl⟩) | (go_at_call 100; refine (l15Order_any _).mono ?_; rintro e w' ⟨rfl, rfl⟩))
              exact ⟨⟨2, by omega, rfl, congrArg Value.string hON.out, hb.alloc hb.size _⟩, by simp [intOf]⟩
            · have p6 := bF ht; have q6 := nF ht
              have hON := Lib.hid (on_tt hb0 (by omega))
              clear hb0
              go_wp2_with (first | (go_at_call 88; refine (l15Keys_any _).mono ?_; rintro e w' ⟨rfl, rfl⟩) | (go_at_call 100; refine (l15Order_any _).mono ?_; rintro e w' ⟨rfl, rfl⟩))
              exact ⟨⟨2, by omega, rfl, congrArg Value.string hON.out, hb.alloc hb.size _⟩, by simp [intOf]⟩
        · have hT := Lib.hid (Pl.specText_off t d hb0)
          rw [hb0] at hak
          have r0 : (bits .and .i64 (n : Int) 4 == 0) = true := hak
          have p0 := bT r0; have q0 := nT r0
          clear hak hkb hb0 ht hd
          go_wp2_with (first | (go_at_call 88; refine (l15Keys_any _).mono ?_; rintro e w' ⟨rfl, rfl⟩) | (go_at_call 100; refine (l15Order_any _).mono ?_; rintro e w' ⟨rfl, rfl⟩))
          exact ⟨⟨2, by omega, rfl, congrArg Value.string hT.out.symm, hb.alloc hb.size _⟩, by simp [intOf]⟩
      · have hts := Pl.specText_size t d n 2
        have hkb := Pl.kbit_nat n 2 hn
        have hak := Pl.and_key n 2 hn
        rw [← hkb] at hak
        rcases Bool.eq_false_or_eq_true (Pl.kbit n 2) with hb0 | hb0
        · rw [hb0] at hak
          have r0 : (bits .and .i64 (n : Int) 16 == 0) = false := hak
          have p0 := bF r0; have q0 := nF r0
          clear hak hkb
          cases d
          · have p5 := bT hd; have q5 := nT hd
            cases t
            · have p6 := bT ht; have q6 := nT ht
              have hON := Lib.hid (on_ff hb0 (by omega))
              clear hb0
              go_wp2_with (first | (go_at_call 88; refine (l15Keys_any _).mono ?_; rintro e w' ⟨rfl, rfl⟩) | (go_at_call 100; refine (l15Order_any _).mono ?_; rintro e w' ⟨rfl, rfl⟩))
              exact ⟨⟨3, by omega, rfl, congrArg Value.string hON.out, hb.alloc hb.size _⟩, by simp [intOf]⟩
            · have p6 := bF ht; have q6 := nF ht
              have hON := Lib.hid (on_tf hb0 (by omega))
              clear hb0
              go_wp2_with (first | (go_at_call 88; refine (l15Keys_any _).mono ?_; rintro e w' ⟨rfl, rfl⟩) | (go_at_call 100; refine (l15Order_any _).mono ?_; rintro e w' ⟨rfl, rfl⟩))
              exact ⟨⟨3, by omega, rfl, congrArg Value.string hON.out, hb.alloc hb.size _⟩, by simp [intOf]⟩
          · have p5 := bF hd; have q5 := nF hd
            cases t
            · have p6 := bT ht; have q6 := nT ht
              have hON := Lib.hid (on_ft hb0 (by omega))
              clear hb0
              go_wp2_with (first | (go_at_call 88; refine (l15Keys_any _).mono ?_; rintro e w' ⟨rfl, rfl⟩) | (go_at_call 100; refine (l15Order_any _).mono ?_; rintro e w' ⟨rfl, rfl⟩))
              exact ⟨⟨3, by omega, rfl, congrArg Value.string hON.out, hb.alloc hb.size _⟩, by simp [intOf]⟩
            · have p6 := bF ht; have q6 := nF ht
              have hON := Lib.hid (on_tt hb0 (by omega))
              clear hb0
              go_wp2_with (first | (go_at_call 88; refine (l15Keys_any _).mono ?_; rintro e w' ⟨rfl, rfl⟩) | (go_at_call 100; refine (l15Order_any _).mono ?_; rintro e w' ⟨rfl, rfl⟩))
              exact ⟨⟨3, by omega, rfl, congrArg Value.string hON.out, hb.alloc hb.size _⟩, by simp [intOf]⟩
        · have hT := Lib.hid (Pl.specText_off t d hb0)
          rw [hb0] at hak
          have r0 : (bits .and .i64 (n : Int) 16 == 0) = true := hak
          have p0 := bT r0; have q0 := nT r0
          clear hak hkb hb0 ht hd
          go_wp2_with (first | (go_at_call 88; refine (l15Keys_any _).mono ?_; rintro e w' ⟨rfl, rfl⟩) | (go_at_call 100; refine (l15Order_any _).mono ?_; rintro e w' ⟨rfl, rfl⟩))
          exact ⟨⟨3, by omega, rfl, congrArg Value.string hT.out.symm, hb.alloc hb.size _⟩, by simp [intOf]⟩
      · have hts := Pl.specText_size t d n 3
        have hkb := Pl.kbit_nat n 3 hn
        have hak := Pl.and_key n 3 hn
        rw [← hkb] at hak
        rcases Bool.eq_false_or_eq_true (Pl.kbit n 3) with hb0 | hb0
        · rw [hb0] at hak
          have r0 : (bits .and .i64 (n : Int) 64 == 0) = false := hak
          have p0 := bF r0; have q0 := nF r0
          clear hak hkb
          cases d
          · have p5 := bT hd; have q5 := nT hd
            cases t
            · have p6 := bT ht; have q6 := nT ht
              have hON := Lib.hid (on_ff hb0 (by omega))
              clear hb0
              go_wp2_with (first | (go_at_call 88; refine (l15Keys_any _).mono ?_; rintro e w' ⟨rfl, rfl⟩) | (go_at_call 100; refine (l15Order_any _).mono ?_; rintro e w' ⟨rfl, rfl⟩))
              exact ⟨⟨4, by omega, rfl, congrArg Value.string hON.out, hb.alloc hb.size _⟩, by simp [intOf]⟩
            · have p6 := bF ht; have q6 := nF ht
              have hON := Lib.hid (on_tf hb0 (by omega))
              clear hb0
              go_wp2_with (first | (go_at_call 88; refine (l15Keys_any _).mono ?_; rintro e w' ⟨rfl, rfl⟩) | (go_at_call 100; refine (l15Order_any _).mono ?_; rintro e w' ⟨rfl, rfl⟩))
              exact ⟨⟨4, by omega, rfl, congrArg Value.string hON.out, hb.alloc hb.size _⟩, by simp [intOf]⟩
          · have p5 := bF hd; have q5 := nF hd
            cases t
            · have p6 := bT ht; have q6 := nT ht
              have hON := Lib.hid (on_ft hb0 (by omega))
              clear hb0
              go_wp2_with (first | (go_at_call 88; refine (l15Keys_any _).mono ?_; rintro e w' ⟨rfl, rfl⟩) | (go_at_call 100; refine (l15Order_any _).mono ?_; rintro e w' ⟨rfl, rfl⟩))
              exact ⟨⟨4, by omega, rfl, congrArg Value.string hON.out, hb.alloc hb.size _⟩, by simp [intOf]⟩
            · have p6 := bF ht; have q6 := nF ht
              have hON := Lib.hid (on_tt hb0 (by omega))
              clear hb0
              go_wp2_with (first | (go_at_call 88; refine (l15Keys_any _).mono ?_; rintro e w' ⟨rfl, rfl⟩) | (go_at_call 100; refine (l15Order_any _).mono ?_; rintro e w' ⟨rfl, rfl⟩))
              exact ⟨⟨4, by omega, rfl, congrArg Value.string hON.out, hb.alloc hb.size _⟩, by simp [intOf]⟩
        · have hT := Lib.hid (Pl.specText_off t d hb0)
          rw [hb0] at hak
          have r0 : (bits .and .i64 (n : Int) 64 == 0) = true := hak
          have p0 := bT r0; have q0 := nT r0
          clear hak hkb hb0 ht hd
          go_wp2_with (first | (go_at_call 88; refine (l15Keys_any _).mono ?_; rintro e w' ⟨rfl, rfl⟩) | (go_at_call 100; refine (l15Order_any _).mono ?_; rintro e w' ⟨rfl, rfl⟩))
          exact ⟨⟨4, by omega, rfl, congrArg Value.string hT.out.symm, hb.alloc hb.size _⟩, by simp [intOf]⟩
      · have hts := Pl.specText_size t d n 4
        have hkb := Pl.kbit_nat n 4 hn
        have hak := Pl.and_key n 4 hn
        rw [← hkb] at hak
        rcases Bool.eq_false_or_eq_true (Pl.kbit n 4) with hb0 | hb0
        · rw [hb0] at hak
          have r0 : (bits .and .i64 (n : Int) 256 == 0) = false := hak
          have p0 := bF r0; have q0 := nF r0
          clear hak hkb
          cases d
          · have p5 := bT hd; have q5 := nT hd
            cases t
            · have p6 := bT ht; have q6 := nT ht
              have hON := Lib.hid (on_ff hb0 (by omega))
              clear hb0
              go_wp2_with (first | (go_at_call 88; refine (l15Keys_any _).mono ?_; rintro e w' ⟨rfl, rfl⟩) | (go_at_call 100; refine (l15Order_any _).mono ?_; rintro e w' ⟨rfl, rfl⟩))
              exact ⟨⟨5, by omega, rfl, congrArg Value.string hON.out, hb.alloc hb.size _⟩, by simp [intOf]⟩
            · have p6 := bF ht; have q6 := nF ht
              have hON := Lib.hid (on_tf hb0 (by omega))
              clear hb0
              go_wp2_with (first | (go_at_call 88; refine (l15Keys_any _).mono ?_; rintro e w' ⟨rfl, rfl⟩) | (go_at_call 100; refine (l15Order_any _).mono ?_; rintro e w' ⟨rfl, rfl⟩))
              exact ⟨⟨5, by omega, rfl, congrArg Value.string hON.out, hb.alloc hb.size _⟩, by simp [intOf]⟩
          · have p5 := bF hd; have q5 := nF hd
            cases t
            · have p6 := bT ht; have q6 := nT ht
              have hON := Lib.hid (on_ft hb0 (by omega))
              clear hb0
              go_wp2_with (first | (go_at_call 88; refine (l15Keys_any _).mono ?_; rintro e w' ⟨rfl, rfl⟩) | (go_at_call 100; refine (l15Order_any _).mono ?_; rintro e w' ⟨rfl, rfl⟩))
              exact ⟨⟨5, by omega, rfl, congrArg Value.string hON.out, hb.alloc hb.size _⟩, by simp [intOf]⟩
            · have p6 := bF ht; have q6 := nF ht
              have hON := Lib.hid (on_tt hb0 (by omega))
              clear hb0
              go_wp2_with (first | (go_at_call 88; refine (l15Keys_any _).mono ?_; rintro e w' ⟨rfl, rfl⟩) | (go_at_call 100; refine (l15Order_any _).mono ?_; rintro e w' ⟨rfl, rfl⟩))
              exact ⟨⟨5, by omega, rfl, congrArg Value.string hON.out, hb.alloc hb.size _⟩, by simp [intOf]⟩
        · have hT := Lib.hid (Pl.specText_off t d hb0)
          rw [hb0] at hak
          have r0 : (bits .and .i64 (n : Int) 256 == 0) = true := hak
          have p0 := bT r0; have q0 := nT r0
          clear hak hkb hb0 ht hd
          go_wp2_with (first | (go_at_call 88; refine (l15Keys_any _).mono ?_; rintro e w' ⟨rfl, rfl⟩) | (go_at_call 100; refine (l15Order_any _).mono ?_; rintro e w' ⟨rfl, rfl⟩))
          exact ⟨⟨5, by omega, rfl, congrArg Value.string hT.out.symm, hb.alloc hb.size _⟩, by simp [intOf]⟩
      · have hts := Pl.specText_size t d n 5
        have hkb := Pl.kbit_nat n 5 hn
        have hak := Pl.and_key n 5 hn
        rw [← hkb] at hak
        rcases Bool.eq_false_or_eq_true (Pl.kbit n 5) with hb0 | hb0
        · rw [hb0] at hak
          have r0 : (bits .and .i64 (n : Int) 512 == 0) = false := hak
          have p0 := bF r0; have q0 := nF r0
          clear hak hkb
          cases d
          · have p5 := bT hd; have q5 := nT hd
            cases t
            · have p6 := bT ht; have q6 := nT ht
              have hON := Lib.hid (on_ff hb0 (by omega))
              clear hb0
              go_wp2_with (first | (go_at_call 88; refine (l15Keys_any _).mono ?_; rintro e w' ⟨rfl, rfl⟩) | (go_at_call 100; refine (l15Order_any _).mono ?_; rintro e w' ⟨rfl, rfl⟩))
              exact ⟨⟨6, by omega, rfl, congrArg Value.string hON.out, hb.alloc hb.size _⟩, by simp [intOf]⟩
            · have p6 := bF ht; have q6 := nF ht
              have hON := Lib.hid (on_tf hb0 (by omega))
              clear hb0
              go_wp2_with (first | (go_at_call 88; refine (l15Keys_any _).mono ?_; rintro e w' ⟨rfl, rfl⟩) | (go_at_call 100; refine (l15Order_any _).mono ?_; rintro e w' ⟨rfl, rfl⟩))
              exact ⟨⟨6, by omega, rfl, congrArg Value.string hON.out, hb.alloc hb.size _⟩, by simp [intOf]⟩
          · have p5 := bF hd; have q5 := nF hd
            cases t
            · have p6 := bT ht; have q6 := nT ht
              have hON := Lib.hid (on_ft hb0 (by omega))
              clear hb0
              go_wp2_with (first | (go_at_call 88; refine (l15Keys_any _).mono ?_; rintro e w' ⟨rfl, rfl⟩) | (go_at_call 100; refine (l15Order_any _).mono ?_; rintro e w' ⟨rfl, rfl⟩))
              exact ⟨⟨6, by omega, rfl, congrArg Value.string hON.out, hb.alloc hb.size _⟩, by simp [intOf]⟩
            · have p6 := bF ht; have q6 := nF ht
              have hON := Lib.hid (on_tt hb0 (by omega))
              clear hb0
              go_wp2_with (first | (go_at_call 88; refine (l15Keys_any _).mono ?_; rintro e w' ⟨rfl, rfl⟩) | (go_at_call 100; refine (l15Order_any _).mono ?_; rintro e w' ⟨rfl, rfl⟩))
              exact ⟨⟨6, by omega, rfl, congrArg Value.string hON.out, hb.alloc hb.size _⟩, by simp [intOf]⟩
        · have hT := Lib.hid (Pl.specText_off t d hb0)
          rw [hb0] at hak
          have r0 : (bits .and .i64 (n : Int) 512 == 0) = true := hak
          have p0 := bT r0; have q0 := nT r0
          clear hak hkb hb0 ht hd
          go_wp2_with (first | (go_at_call 88; refine (l15Keys_any _).mono ?_; rintro e w' ⟨rfl, rfl⟩) | (go_at_call 100; refine (l15Order_any _).mono ?_; rintro e w' ⟨rfl, rfl⟩))
          exact ⟨⟨6, by omega, rfl, congrArg Value.string hT.out.symm, hb.alloc hb.size _⟩, by simp [intOf]⟩
      · have hts := Pl.specText_size t d n 6
        have hkb := Pl.kbit_nat n 6 hn
        have hak := Pl.and_key n 6 hn
        rw [← hkb] at hak
        rcases Bool.eq_false_or_eq_true (Pl.kbit n 6) with hb0 | hb0
        · rw [hb0] at hak
          have r0 : (bits .and .i64 (n : Int) 8192 == 0) = false := hak
          have p0 := bF r0; have q0 := nF r0
          clear hak hkb
          cases d
          · have p5 := bT hd; have q5 := nT hd
            cases t
            · have p6 := bT ht; have q6 := nT ht
              have hON := Lib.hid (on_ff hb0 (by omega))
              clear hb0
              go_wp2_with (first | (go_at_call 88; refine (l15Keys_any _).mono ?_; rintro e w' ⟨rfl, rfl⟩) | (go_at_call 100; refine (l15Order_any _).mono ?_; rintro e w' ⟨rfl, rfl⟩))
              exact ⟨⟨7, by omega, rfl, congrArg Value.string hON.out, hb.alloc hb.size _⟩, by simp [intOf]⟩
            · have p6 := bF ht; have q6 := nF ht
              have hON := Lib.hid (on_tf hb0 (by omega))
              clear hb0
              go_wp2_with (first | (go_at_call 88; refine (l15Keys_any _).mono ?_; rintro e w' ⟨rfl, rfl⟩) | (go_at_call 100; refine (l15Order_any _).mono ?_; rintro e w' ⟨rfl, rfl⟩))
              exact ⟨⟨7, by omega, rfl, congrArg Value.string hON.out, hb.alloc hb.size _⟩, by simp [intOf]⟩
          · have p5 := bF hd; have q5 := nF hd
            cases t
            · have p6 := bT ht; have q6 := nT ht
              have hON := Lib.hid (on_ft hb0 (by omega))
              clear hb0
              go_wp2_with (first | (go_at_call 88; refine (l15Keys_any _).mono ?_; rintro e w' ⟨rfl, rfl⟩) | (go_at_call 100; refine (l15Order_any _).mono ?_; rintro e w' ⟨rfl, rfl⟩))
              exact ⟨⟨7, by omega, rfl, congrArg Value.string hON.out, hb.alloc hb.size _⟩, by simp [intOf]⟩
            · have p6 := bF ht; have q6 := nF ht
              have hON := Lib.hid (on_tt hb0 (by omega))
              clear hb0
              go_wp2_with (first | (go_at_call 88; refine (l15Keys_any _).mono ?_; rintro e w' ⟨rfl, rfl⟩) | (go_at_call 100; refine (l15Order_any _).mono ?_; rintro e w' ⟨rfl, rfl⟩))
              exact ⟨⟨7, by omega, rfl, congrArg Value.string hON.out, hb.alloc hb.size _⟩, by simp [intOf]⟩
        · have hT := Lib.hid (Pl.specText_off t d hb0)
          rw [hb0] at hak
          have r0 : (bits .and .i64 (n : Int) 8192 == 0) = true := hak
          have p0 := bT r0; have q0 := nT r0
          clear hak hkb hb0 ht hd
          go_wp2_with (first | (go_at_call 88; refine (l15Keys_any _).mono ?_; rintro e w' ⟨rfl, rfl⟩) | (go_at_call 100; refine (l15Order_any _).mono ?_; rintro e w' ⟨rfl, rfl⟩))
          exact ⟨⟨7, by omega, rfl, congrArg Value.string hT.out.symm, hb.alloc hb.size _⟩, by simp [intOf]⟩
      · have hts := Pl.specText_size t d n 7
        have hkb := Pl.kbit_nat n 7 hn
        have hak := Pl.and_key n 7 hn
        rw [← hkb] at hak
        rcases Bool.eq_false_or_eq_true (Pl.kbit n 7) with hb0 | hb0
        · rw [hb0] at hak
          have r0 : (bits .and .i64 (n : Int) 32768 == 0) = false := hak
          have p0 := bF r0; have q0 := nF r0
          clear hak hkb
          cases d
          · have p5 := bT hd; have q5 := nT hd
            cases t
            · have p6 := bT ht; have q6 := nT ht
              have hON := Lib.hid (on_ff hb0 (by omega))
              clear hb0
              go_wp2_with (first | (go_at_call 88; refine (l15Keys_any _).mono ?_; rintro e w' ⟨rfl, rfl⟩) | (go_at_call 100; refine (l15Order_any _).mono ?_; rintro e w' ⟨rfl, rfl⟩))
              exact ⟨⟨8, by omega, rfl, congrArg Value.string hON.out, hb.alloc hb.size _⟩, by simp [intOf]⟩
            · have p6 := bF ht; have q6 := nF ht
              have hON := Lib.hid (on_tf hb0 (by omega))
              clear hb0
              go_wp2_with (first | (go_at_call 88; refine (l15Keys_any _).mono ?_; rintro e w' ⟨rfl, rfl⟩) | (go_at_call 100; refine (l15Order_any _).mono ?_; rintro e w' ⟨rfl, rfl⟩))
              exact ⟨⟨8, by omega, rfl, congrArg Value.string hON.out, hb.alloc hb.size _⟩, by simp [intOf]⟩
          · have p5 := bF hd; have q5 := nF hd
            cases t
            · have p6 := bT ht; have q6 := nT ht
              have hON := Lib.hid (on_ft hb0 (by omega))
              clear hb0
              go_wp2_with (first | (go_at_call 88; refine (l15Keys_any _).mono ?_; rintro e w' ⟨rfl, rfl⟩) | (go_at_call 100; refine (l15Order_any _).mono ?_; rintro e w' ⟨rfl, rfl⟩))
              exact ⟨⟨8, by omega, rfl, congrArg Value.string hON.out, hb.alloc hb.size _⟩, by simp [intOf]⟩
            · have p6 := bF ht; have q6 := nF ht
              have hON := Lib.hid (on_tt hb0 (by omega))
              clear hb0
              go_wp2_with (first | (go_at_call 88; refine (l15Keys_any _).mono ?_; rintro e w' ⟨rfl, rfl⟩) | (go_at_call 100; refine (l15Order_any _).mono ?_; rintro e w' ⟨rfl, rfl⟩))
              exact ⟨⟨8, by omega, rfl, congrArg Value.string hON.out, hb.alloc hb.size _⟩, by simp [intOf]⟩
        · have hT := Lib.hid (Pl.specText_off t d hb0)
          rw [hb0] at hak
          have r0 : (bits .and .i64 (n : Int) 32768 == 0) = true := hak
          have p0 := bT r0; have q0 := nT r0
          clear hak hkb hb0 ht hd
          go_wp2_with (first | (go_at_call 88; refine (l15Keys_any _).mono ?_; rintro e w' ⟨rfl, rfl⟩) | (go_at_call 100; refine (l15Order_any _).mono ?_; rintro e w' ⟨rfl, rfl⟩))
          exact ⟨⟨8, by omega, rfl, congrArg Value.string hT.out.symm, hb.alloc hb.size _⟩, by simp [intOf]⟩
      · have hts := Pl.specText_size t d n 8
        have hkb := Pl.kbit_nat n 8 hn
        have hak := Pl.and_key n 8 hn
        rw [← hkb] at hak
        rcases Bool.eq_false_or_eq_true (Pl.kbit n 8) with hb0 | hb0
        · rw [hb0] at hak
          have r0 : (bits .and .i64 (n : Int) 131072 == 0) = false := hak
          have p0 := bF r0; have q0 := nF r0
          clear hak hkb
          cases d
          · have p5 := bT hd; have q5 := nT hd
            cases t
            · have p6 := bT ht; have q6 := nT ht
              have hON := Lib.hid (on_ff hb0 (by omega))
              clear hb0
              go_wp2_with (first | (go_at_call 88; refine (l15Keys_any _).mono ?_; rintro e w' ⟨rfl, rfl⟩) | (go_at_call 100; refine (l15Order_any _).mono ?_; rintro e w' ⟨rfl, rfl⟩))
              exact ⟨⟨9, by omega, rfl, congrArg Value.string hON.out, hb.alloc hb.size _⟩, by simp [intOf]⟩
            · have p6 := bF ht; have q6 := nF ht
              have hON := Lib.hid (on_tf hb0 (by omega))
              clear hb0
              go_wp2_with (first | (go_at_call 88; refine (l15Keys_any _).mono ?_; rintro e w' ⟨rfl, rfl⟩) | (go_at_call 100; refine (l15Order_any _).mono ?_; rintro e w' ⟨rfl, rfl⟩))
              exact ⟨⟨9, by omega, rfl, congrArg Value.string hON.out, hb.alloc hb.size _⟩, by simp [intOf]⟩
          · have p5 := bF hd; have q5 := nF hd
            cases t
            · have p6 := bT ht; have q6 := nT ht
              have hON := Lib.hid (on_ft hb0 (by omega))
              clear hb0
              go_wp2_with (first | (go_at_call 88; refine (l15Keys_any _).mono ?_; rintro e w' ⟨rfl, rfl⟩) | (go_at_call 100; refine (l15Order_any _).mono ?_; rintro e w' ⟨rfl, rfl⟩))
              exact ⟨⟨9, by omega, rfl, congrArg Value.string hON.out, hb.alloc hb.size _⟩, by simp [intOf]⟩
            · have p6 := bF ht; have q6 := nF ht
              have hON := Lib.hid (on_tt hb0 (by omega))
              clear hb0
              go_wp2_with (first | (go_at_call 88; refine (l15Keys_any _).mono ?_; rintro e w' ⟨rfl, rfl⟩) | (go_at_call 100; refine (l15Order_any _).mono ?_; rintro e w' ⟨rfl, rfl⟩))
              exact ⟨⟨9, by omega, rfl, congrArg Value.string hON.out, hb.alloc hb.size _⟩, by simp [intOf]⟩
        · have hT := Lib.hid (Pl.specText_off t d hb0)
          rw [hb0] at hak
          have r0 : (bits .and .i64 (n : Int) 131072 == 0) = true := hak
          have p0 := bT r0; have q0 := nT r0
          clear hak hkb hb0 ht hd
          go_wp2_with (first | (go_at_call 88; refine (l15Keys_any _).mono ?_; rintro e w' ⟨rfl, rfl⟩) | (go_at_call 100; refine (l15Order_any _).mono ?_; rintro e w' ⟨rfl, rfl⟩))
          exact ⟨⟨9, by omega, rfl, congrArg Value.string hT.out.symm, hb.alloc hb.size _⟩, by simp [intOf]⟩
      · have hts := Pl.specText_size t d n 9
        have hkb := Pl.kbit_nat n 9 hn
        have hak := Pl.and_key n 9 hn
        rw [← hkb] at hak
        rcases Bool.eq_false_or_eq_true (Pl.kbit n 9) with hb0 | hb0
        · rw [hb0] at hak
          have r0 : (bits .and .i64 (n : Int) 524288 == 0) = false := hak
          have p0 := bF r0; have q0 := nF r0
          clear hak hkb
          cases d
          · have p5 := bT hd; have q5 := nT hd
            cases t
            · have p6 := bT ht; have q6 := nT ht
              have hON := Lib.hid (on_ff hb0 (by omega))
              clear hb0
              go_wp2_with (first | (go_at_call 88; refine (l15Keys_any _).mono ?_; rintro e w' ⟨rfl, rfl⟩) | (go_at_call 100; refine (l15Order_any _).mono ?_; rintro e w' ⟨rfl, rfl⟩))
              exact ⟨⟨10, by omega, rfl, congrArg Value.string hON.out, hb.alloc hb.size _⟩, by simp [intOf]⟩
            · have p6 := bF ht; have q6 := nF ht
              have hON := Lib.hid (on_tf hb0 (by omega))
              clear hb0
              go_wp2_with (first | (go_at_call 88; refine (l15Keys_any _).mono ?_; rintro e w' ⟨rfl, rfl⟩) | (go_at_call 100; refine (l15Order_any _).mono ?_; rintro e w' ⟨rfl, rfl⟩))
              exact ⟨⟨10, by omega, rfl, congrArg Value.string hON.out, hb.alloc hb.size _⟩, by simp [intOf]⟩
          · have p5 := bF hd; have q5 := nF hd
            cases t
            · have p6 := bT ht; have q6 := nT ht
              have hON := Lib.hid (on_ft hb0 (by omega))
              clear hb0
              go_wp2_with (first | (go_at_call 88; refine (l15Keys_any _).mono ?_; rintro e w' ⟨rfl, rfl⟩) | (go_at_call 100; refine (l15Order_any _).mono ?_; rintro e w' ⟨rfl, rfl⟩))
              exact ⟨⟨10, by omega, rfl, congrArg Value.string hON.out, hb.alloc hb.size _⟩, by simp [intOf]⟩
            · have p6 := bF ht; have q6 := nF ht
              have hON := Lib.hid (on_tt hb0 (by omega))
              clear hb0
              go_wp2_with (first | (go_at_call 88; refine (l15Keys_any _).mono ?_; rintro e w' ⟨rfl, rfl⟩) | (go_at_call 100; refine (l15Order_any _).mono ?_; rintro e w' ⟨rfl, rfl⟩))
              exact ⟨⟨10, by omega, rfl, congrArg Value.string hON.out, hb.alloc hb.size _⟩, by simp [intOf]⟩
        · have hT := Lib.hid (Pl.specText_off t d hb0)
          rw [hb0] at hak
          have r0 : (bits .and .i64 (n : Int) 524288 == 0) = true := hak
          have p0 := bT r0; have q0 := nT r0
          clear hak hkb hb0 ht hd
          go_wp2_with (first | (go_at_call 88; refine (l15Keys_any _).mono ?_; rintro e w' ⟨rfl, rfl⟩) | (go_at_call 100; refine (l15Order_any _).mono ?_; rintro e w' ⟨rfl, rfl⟩))
          exact ⟨⟨10, by omega, rfl, congrArg Value.string hT.out.symm, hb.alloc hb.size _⟩, by simp [intOf]⟩
    · have hk10 : k = 10 := by omega
      subst hk10
      go_wp2
      go_ret
      exact ⟨ret_str h10.out, hb⟩

theorem written_yes {s : Int} (h : Pl.isNum s = true) : ∃ n : Nat, n < 8388608 ∧ s = n ∧ Pl.doubledText n (Pl.turnedText n (Pl.textTo n 10)) = Pl.written n := by
  have h2 := h
  rw [Pl.isNum_eq] at h
  simp only [Bool.and_eq_true] at h
  have hc := h.1
  have hv := hc
  unfold Pl.canWrite at hv
  simp only [Bool.and_eq_true, Pl.strokeB, Pl.inB, decide_eq_true_iff] at hv
  obtain ⟨n, rfl⟩ := Int.eq_ofNat_of_zero_le (show 0 ≤ s by omega)
  exact ⟨n, by omega, rfl, by unfold Pl.written; rw [if_pos hc]⟩
theorem written_no {s : Int} (h : Pl.isNum s = false) : Pl.written s = ⟨#[]⟩ := by
  have := written_empty s
  rw [h, Bool.not_false, List.isEmpty_iff, Pl.ba_toList] at this
  exact Pl.ba_ext this

set_option maxHeartbeats 400000 in
theorem specStrokeDigits_any (s : Int) (w : World) :
    Calls Try.prog 34 #[.int .i64 s] w fun e w' => e = .returned (.tuple #[.string (Pl.written s), .bool (Pl.isNum s)]) ∧ Below w.heap.size w w' := by
  go_enter Try.func34, Try.ntmps34
  cases hn : Pl.isNum s
  · have hE := Lib.hid (written_no hn)
    go_wp2_with ((go_at_call 15; refine (specIsNumberStroke_any s _).mono ?_; rintro e w1 ⟨rfl, hb1⟩; have hcf := bcell hb1; have hz1 := hb1.size; (repeat (first | simp only [World.size_alloc] at hz1 hcf | simp only [size_setCell] at hz1 hcf | simp only [size_drewN] at hz1 hcf | simp only [size_drew] at hz1 hcf)); obtain ⟨hc1, hf1⟩ := hcf; (try have hn1a : _ < w1.heap.size := Nat.lt_of_lt_of_le hn1a (by omega)); (try have hn1b : _ < w1.heap.size := Nat.lt_of_lt_of_le hn1b (by omega)); (try have hn1c : _ < w1.heap.size := Nat.lt_of_lt_of_le hn1c (by omega)); (try have hn1d : _ < w1.heap.size := Nat.lt_of_lt_of_le hn1d (by omega)); (try have hn1e : _ < w1.heap.size := Nat.lt_of_lt_of_le hn1e (by omega)); (try have ho1a : _ < w1.heap.size := Nat.lt_of_lt_of_le ho1a (by omega)); (try have ho1b : _ < w1.heap.size := Nat.lt_of_lt_of_le ho1b (by omega)); (try have ho1c : _ < w1.heap.size := Nat.lt_of_lt_of_le ho1c (by omega)); (try have ho1d : _ < w1.heap.size := Nat.lt_of_lt_of_le ho1d (by omega)); (try have ho1e : _ < w1.heap.size := Nat.lt_of_lt_of_le ho1e (by omega)); (try have ho1a := hn1a); (try have ho1b := hn1b); (try have ho1c := hn1c); (try have ho1d := hn1d); (try have ho1e := hn1e); (try have hn1a := Nat.lt_of_succ_le hz1); (try have hn1b := Nat.lt_of_succ_lt hn1a); (try have hn1c := Nat.lt_of_succ_lt hn1b); (try have hn1d := Nat.lt_of_succ_lt hn1c); (try have hn1e := Nat.lt_of_succ_lt hn1d); (try have htA : w.heap.size < w1.heap.size := by omega)))
    all_goals go_ret2
    all_goals exact ⟨ret_strb hE.out.symm rfl, hb1⟩
  · obtain ⟨n, hlt, rfl, hw⟩ := written_yes hn
    have hE := Lib.hid hw
    go_wp2_with (first | (go_at_call 15; refine (specIsNumberStroke_any _ _).mono ?_; rintro e w1 ⟨rfl, hb1⟩; have hcf := bcell hb1; have hz1 := hb1.size; (repeat (first | simp only [World.size_alloc] at hz1 hcf | simp only [size_setCell] at hz1 hcf | simp only [size_drewN] at hz1 hcf | simp only [size_drew] at hz1 hcf)); obtain ⟨hc1, hf1⟩ := hcf; (try have hn1a : _ < w1.heap.size := Nat.lt_of_lt_of_le hn1a (by omega)); (try have hn1b : _ < w1.heap.size := Nat.lt_of_lt_of_le hn1b (by omega)); (try have hn1c : _ < w1.heap.size := Nat.lt_of_lt_of_le hn1c (by omega)); (try have hn1d : _ < w1.heap.size := Nat.lt_of_lt_of_le hn1d (by omega)); (try have hn1e : _ < w1.heap.size := Nat.lt_of_lt_of_le hn1e (by omega)); (try have ho1a : _ < w1.heap.size := Nat.lt_of_lt_of_le ho1a (by omega)); (try have ho1b : _ < w1.heap.size := Nat.lt_of_lt_of_le ho1b (by omega)); (try have ho1c : _ < w1.heap.size := Nat.lt_of_lt_of_le ho1c (by omega)); (try have ho1d : _ < w1.heap.size := Nat.lt_of_lt_of_le ho1d (by omega)); (try have ho1e : _ < w1.heap.size := Nat.lt_of_lt_of_le ho1e (by omega)); (try have hn2a : _ < w1.heap.size := Nat.lt_of_lt_of_le hn2a (by omega)); (try have hn2b : _ < w1.heap.size := Nat.lt_of_lt_of_le hn2b (by omega)); (try have hn2c : _ < w1.heap.size := Nat.lt_of_lt_of_le hn2c (by omega)); (try have hn2d : _ < w1.heap.size := Nat.lt_of_lt_of_le hn2d (by omega)); (try have hn2e : _ < w1.heap.size := Nat.lt_of_lt_of_le hn2e (by omega)); (try have ho2a : _ < w1.heap.size := Nat.lt_of_lt_of_le ho2a (by omega)); (try have ho2b : _ < w1.heap.size := Nat.lt_of_lt_of_le ho2b (by omega)); (try have ho2c : _ < w1.heap.size := Nat.lt_of_lt_of_le ho2c (by omega)); (try have ho2d : _ < w1.heap.size := Nat.lt_of_lt_of_le ho2d (by omega)); (try have ho2e : _ < w1.heap.size := Nat.lt_of_lt_of_le ho2e (by omega)); (try have ho1a := hn1a); (try have ho1b := hn1b); (try have ho1c := hn1c); (try have ho1d := hn1d); (try have ho1e := hn1e); (try have hn1a := Nat.lt_of_succ_le hz1); (try have hn1b := Nat.lt_of_succ_lt hn1a); (try have hn1c := Nat.lt_of_succ_lt hn1b); (try have hn1d := Nat.lt_of_succ_lt hn1c); (try have hn1e := Nat.lt_of_succ_lt hn1d); (try have htA : w.heap.size < w1.heap.size := by omega)) | (go_at_call 74; refine (l15Digits_any n hlt _).mono ?_; rintro e w2 ⟨rfl, hb2⟩; have hcf := bcell hb2; have hz2 := hb2.size; (repeat (first | simp only [World.size_alloc] at hz2 hcf | simp only [size_setCell] at hz2 hcf | simp only [size_drewN] at hz2 hcf | simp only [size_drew] at hz2 hcf)); obtain ⟨hc2, hf2⟩ := hcf; (try have hn1a : _ < w2.heap.size := Nat.lt_of_lt_of_le hn1a (by omega)); (try have hn1b : _ < w2.heap.size := Nat.lt_of_lt_of_le hn1b (by omega)); (try have hn1c : _ < w2.heap.size := Nat.lt_of_lt_of_le hn1c (by omega)); (try have hn1d : _ < w2.heap.size := Nat.lt_of_lt_of_le hn1d (by omega)); (try have hn1e : _ < w2.heap.size := Nat.lt_of_lt_of_le hn1e (by omega)); (try have ho1a : _ < w2.heap.size := Nat.lt_of_lt_of_le ho1a (by omega)); (try have ho1b : _ < w2.heap.size := Nat.lt_of_lt_of_le ho1b (by omega)); (try have ho1c : _ < w2.heap.size := Nat.lt_of_lt_of_le ho1c (by omega)); (try have ho1d : _ < w2.heap.size := Nat.lt_of_lt_of_le ho1d (by omega)); (try have ho1e : _ < w2.heap.size := Nat.lt_of_lt_of_le ho1e (by omega)); (try have hn2a : _ < w2.heap.size := Nat.lt_of_lt_of_le hn2a (by omega)); (try have hn2b : _ < w2.heap.size := Nat.lt_of_lt_of_le hn2b (by omega)); (try have hn2c : _ < w2.heap.size := Nat.lt_of_lt_of_le hn2c (by omega)); (try have hn2d : _ < w2.heap.size := Nat.lt_of_lt_of_le hn2d (by omega)); (try have hn2e : _ < w2.heap.size := Nat.lt_of_lt_of_le hn2e (by omega)); (try have ho2a : _ < w2.heap.size := Nat.lt_of_lt_of_le ho2a (by omega)); (try have ho2b : _ < w2.heap.size := Nat.lt_of_lt_of_le ho2b (by omega)); (try have ho2c : _ < w2.heap.size := Nat.lt_of_lt_of_le ho2c (by omega)); (try have ho2d : _ < w2.heap.size := Nat.lt_of_lt_of_le ho2d (by omega)); (try have ho2e : _ < w2.heap.size := Nat.lt_of_lt_of_le ho2e (by omega)); (try have ho2a := hn2a); (try have ho2b := hn2b); (try have ho2c := hn2c); (try have ho2d := hn2d); (try have ho2e := hn2e); (try have hn2a := Nat.lt_of_succ_le hz2); (try have hn2b := Nat.lt_of_succ_lt hn2a); (try have hn2c := Nat.lt_of_succ_lt hn2b); (try have hn2d := Nat.lt_of_succ_lt hn2c); (try have hn2e := Nat.lt_of_succ_lt hn2d); (try have htA : w.heap.size < w2.heap.size := by omega)))
    all_goals go_ret2
    all_goals exact ⟨ret_strb rfl rfl, Below.trans hb1 (hb2.mono (by assumption))⟩

end Go.Proofs.Ytmlckocmfoiobaa
