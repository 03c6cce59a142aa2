/-
  CONTRACTS: JoinSuffix of the program and of the reference.
-/
import Derived.Test.YtkbbcmbeafjpaabSufRule
import Derived.Test.YtkbbcmbeafjpaabPlainJoin
namespace Go.Proofs.Ytkbbcmbeafjpaab
open Go.RowKit

set_option maxRecDepth 20000 in
set_option maxHeartbeats 1600000 in
theorem l9Join_any (s t : ByteArray) (w : World) (hs : s.size ≤ maxLen) (ht : t.size ≤ maxLen) (h1 : Pl.isWord s = true) (h2 : Pl.isWord t = true) :
    Calls Try.prog 106 #[.string s, .string t] w fun x w' => x = .returned (.string (Pl.join s t)) ∧ w = w' := by
  have z1 := Pl.isWord_size h1
  have z2 := Pl.isWord_size h2
  have HL := Lib.hid (l9Rule_any s t w hs ht z2.1)
  clear h1 h2 hs ht
  rcases Pl.rule_cases s t with hr | hr | hr | hr | hr | hr | hr
  · have hj := Lib.hid (Pl.join0 hr)
    have hq := hr
    (try have h3 := Pl.rule3_size hr)
    rw [hr] at HL
    clear hr
    go_enter Try.func106, Try.ntmps106
    go_wp2_with (go_at_call 112; refine HL.out.mono ?_; rintro e w' ⟨rfl, rfl⟩)
    all_goals go_ret
    all_goals exact ⟨ret_str hj.out.symm, rfl⟩
  · have hj := Lib.hid (Pl.join1 hr)
    have hq := hr
    (try have h3 := Pl.rule3_size hr)
    rw [hr] at HL
    clear hr
    go_enter Try.func106, Try.ntmps106
    go_wp2_with (go_at_call 112; refine HL.out.mono ?_; rintro e w' ⟨rfl, rfl⟩)
    all_goals go_ret
    all_goals exact ⟨ret_str hj.out.symm, rfl⟩
  · have hj := Lib.hid (Pl.join2 hr)
    have hq := hr
    (try have h3 := Pl.rule3_size hr)
    rw [hr] at HL
    clear hr
    go_enter Try.func106, Try.ntmps106
    go_wp2_with (go_at_call 112; refine HL.out.mono ?_; rintro e w' ⟨rfl, rfl⟩)
    all_goals go_ret
    all_goals exact ⟨ret_str hj.out.symm, rfl⟩
  · have hj := Lib.hid (Pl.join3 hr)
    have hq := hr
    (try have h3 := Pl.rule3_size hr)
    rw [hr] at HL
    clear hr
    go_enter Try.func106, Try.ntmps106
    go_wp2_with (go_at_call 112; refine HL.out.mono ?_; rintro e w' ⟨rfl, rfl⟩)
    all_goals go_ret
    all_goals exact ⟨ret_str hj.out.symm, rfl⟩
  · have hj := Lib.hid (Pl.join4 hr)
    have hq := hr
    (try have h3 := Pl.rule3_size hr)
    rw [hr] at HL
    clear hr
    go_enter Try.func106, Try.ntmps106
    go_wp2_with (go_at_call 112; refine HL.out.mono ?_; rintro e w' ⟨rfl, rfl⟩)
    all_goals go_ret
    all_goals exact ⟨ret_str hj.out.symm, rfl⟩
  · have hj := Lib.hid (Pl.join5 hr)
    have hq := hr
    (try have h3 := Pl.rule3_size hr)
    rw [hr] at HL
    clear hr
    go_enter Try.func106, Try.ntmps106
    go_wp2_with (go_at_call 112; refine HL.out.mono ?_; rintro e w' ⟨rfl, rfl⟩)
    all_goals go_ret
    all_goals exact ⟨ret_str hj.out.symm, rfl⟩
  · have hj := Lib.hid (Pl.join6 hr)
    have hq := hr
    (try have h3 := Pl.rule3_size hr)
    rw [hr] at HL
    clear hr
    go_enter Try.func106, Try.ntmps106
    go_wp2_with (go_at_call 112; refine HL.out.mono ?_; rintro e w' ⟨rfl, rfl⟩)
    all_goals go_ret
    all_goals exact ⟨ret_str hj.out.symm, rfl⟩

set_option maxRecDepth 20000 in
set_option maxHeartbeats 1600000 in
theorem specJoinSuffix_any (s t : ByteArray) (w : World) (hs : s.size ≤ maxLen) (ht : t.size ≤ maxLen) :
    Calls Try.prog 90 #[.string s, .string t] w fun x w' => x = .returned (.tuple #[.string (Pl.joinOut s t), .bool (Pl.joinOk s t)]) ∧ w = w' := by
  cases h1 : Pl.isWord s
  · have E := Lib.hid (Pl.join_bad (s := s) (t := t) (by rw [h1]; rfl))
    go_enter Try.func90, Try.ntmps90
    go_wp2_with (go_at_call 105; refine (l9Word_any _ _ ?_).mono ?_; (first | exact hs | exact ht); rintro e w' ⟨rfl, rfl⟩)
    all_goals go_ret2
    all_goals exact ⟨ret_strb E.out.1.symm E.out.2.symm, rfl⟩
  · cases h2 : Pl.isWord t
    · have E := Lib.hid (Pl.join_bad (s := s) (t := t) (by rw [h2, Bool.and_false]))
      go_enter Try.func90, Try.ntmps90
      go_wp2_with (go_at_call 105; refine (l9Word_any _ _ ?_).mono ?_; (first | exact hs | exact ht); rintro e w' ⟨rfl, rfl⟩)
      all_goals go_ret2
      all_goals exact ⟨ret_strb E.out.1.symm E.out.2.symm, rfl⟩
    · have HJ := Lib.hid (l9Join_any s t w hs ht h1 h2)
      generalize hx : Pl.join s t = x at HJ
      by_cases hz : x.size ≤ 24
      · have E := Lib.hid (Pl.join_yes h1 h2 hx hz)
        clear hx
        go_enter Try.func90, Try.ntmps90
        go_wp2_with (first | (go_at_call 105; refine (l9Word_any _ _ ?_).mono ?_; (first | exact hs | exact ht); rintro e w' ⟨rfl, rfl⟩) | (go_at_call 106; refine HJ.out.mono ?_; rintro e w' ⟨rfl, rfl⟩))
        all_goals go_ret2
        all_goals exact ⟨ret_strb E.out.1.symm E.out.2.symm, rfl⟩
      · have E := Lib.hid (Pl.join_no hx hz)
        clear hx
        go_enter Try.func90, Try.ntmps90
        go_wp2_with (first | (go_at_call 105; refine (l9Word_any _ _ ?_).mono ?_; (first | exact hs | exact ht); rintro e w' ⟨rfl, rfl⟩) | (go_at_call 106; refine HJ.out.mono ?_; rintro e w' ⟨rfl, rfl⟩))
        all_goals go_ret2
        all_goals exact ⟨ret_strb E.out.1.symm E.out.2.symm, rfl⟩

set_option maxRecDepth 20000 in
set_option maxHeartbeats 3200000 in
theorem JoinSuffix_any (s t : ByteArray) (w : World) (hs : s.size ≤ maxLen) (ht : t.size ≤ maxLen) :
    Calls Try.prog 94 #[.string s, .string t] w fun x w' => x = .returned (.tuple #[.string (Pl.joinOut s t), .bool (Pl.joinOk s t)]) ∧ Below w.heap.size w w' := by
  cases h1 : Pl.isWord s
  · have E := Lib.hid (Pl.join_bad (s := s) (t := t) (by rw [h1]; rfl))
    go_enter Try.func94, Try.ntmps94
    go_wp2_with (go_at_call 107; refine (IsWord_any _ _ ?_).mono ?_; (first | exact hs | exact ht); rintro e w' ⟨rfl, rfl⟩)
    all_goals go_ret2
    all_goals exact ⟨ret_strb E.out.1.symm E.out.2.symm, Below.refl _ _⟩
  cases h2 : Pl.isWord t
  · have E := Lib.hid (Pl.join_bad (s := s) (t := t) (by rw [h2, Bool.and_false]))
    go_enter Try.func94, Try.ntmps94
    go_wp2_with (go_at_call 107; refine (IsWord_any _ _ ?_).mono ?_; (first | exact hs | exact ht); rintro e w' ⟨rfl, rfl⟩)
    all_goals go_ret2
    all_goals exact ⟨ret_strb E.out.1.symm E.out.2.symm, Below.refl _ _⟩
  have z1 := Pl.isWord_size h1
  have z2 := Pl.isWord_size h2
  have HR := Lib.hid (rule_any s t w hs ht z2.1)
  rcases Pl.rule_cases s t with hr | hr | hr | hr | hr | hr | hr
  · have hj := Pl.join0 hr
    (try have h3 := Pl.rule3_size hr)
    rw [hr] at HR
    clear hr
    by_cases hz : (s ++ t).size ≤ 24
    · have E := Lib.hid (Pl.join_yes h1 h2 hj hz)
      have hz2 := hz
      simp only [ByteArray.size_append] at hz2
      (try simp only [ByteArray.size_extract] at hz2)
      clear hj
      go_enter Try.func94, Try.ntmps94
      go_wp2_with (first | (go_at_call 107; refine (IsWord_any _ _ ?_).mono ?_; (first | exact hs | exact ht); rintro e w' ⟨rfl, rfl⟩) | (go_at_call 108; refine HR.out.mono ?_; rintro e w1 ⟨rfl, hb1⟩))
      all_goals go_ret2
      all_goals first | exact ⟨ret_strb E.out.1.symm E.out.2.symm, hb1⟩ | (exfalso; have k1 : (⟨#[105, 101, 115]⟩ : ByteArray).size = 3 := rfl; have k2 : (⟨#[101, 115]⟩ : ByteArray).size = 2 := rfl; have k3 : (⟨#[121, 105, 110, 103]⟩ : ByteArray).size = 4 := rfl; have k4 : (⟨#[105]⟩ : ByteArray).size = 1 := rfl; omega)
    · have E := Lib.hid (Pl.join_no hj hz)
      have hz2 := hz
      simp only [ByteArray.size_append] at hz2
      (try simp only [ByteArray.size_extract] at hz2)
      clear hj
      go_enter Try.func94, Try.ntmps94
      go_wp2_with (first | (go_at_call 107; refine (IsWord_any _ _ ?_).mono ?_; (first | exact hs | exact ht); rintro e w' ⟨rfl, rfl⟩) | (go_at_call 108; refine HR.out.mono ?_; rintro e w1 ⟨rfl, hb1⟩))
      all_goals go_ret2
      all_goals first | exact ⟨ret_strb E.out.1.symm E.out.2.symm, hb1⟩ | (exfalso; have k1 : (⟨#[105, 101, 115]⟩ : ByteArray).size = 3 := rfl; have k2 : (⟨#[101, 115]⟩ : ByteArray).size = 2 := rfl; have k3 : (⟨#[121, 105, 110, 103]⟩ : ByteArray).size = 4 := rfl; have k4 : (⟨#[105]⟩ : ByteArray).size = 1 := rfl; omega)
  · have hj := Pl.join1 hr
    (try have h3 := Pl.rule3_size hr)
    rw [hr] at HR
    clear hr
    by_cases hz : (s.extract 0 (s.size - 1) ++ ⟨#[105, 101, 115]⟩).size ≤ 24
    · have E := Lib.hid (Pl.join_yes h1 h2 hj hz)
      have hz2 := hz
      simp only [ByteArray.size_append] at hz2
      (try simp only [ByteArray.size_extract] at hz2)
      clear hj
      go_enter Try.func94, Try.ntmps94
      go_wp2_with (first | (go_at_call 107; refine (IsWord_any _ _ ?_).mono ?_; (first | exact hs | exact ht); rintro e w' ⟨rfl, rfl⟩) | (go_at_call 108; refine HR.out.mono ?_; rintro e w1 ⟨rfl, hb1⟩))
      all_goals go_ret2
      all_goals first | exact ⟨ret_strb E.out.1.symm E.out.2.symm, hb1⟩ | (exfalso; have k1 : (⟨#[105, 101, 115]⟩ : ByteArray).size = 3 := rfl; have k2 : (⟨#[101, 115]⟩ : ByteArray).size = 2 := rfl; have k3 : (⟨#[121, 105, 110, 103]⟩ : ByteArray).size = 4 := rfl; have k4 : (⟨#[105]⟩ : ByteArray).size = 1 := rfl; omega)
    · have E := Lib.hid (Pl.join_no hj hz)
      have hz2 := hz
      simp only [ByteArray.size_append] at hz2
      (try simp only [ByteArray.size_extract] at hz2)
      clear hj
      go_enter Try.func94, Try.ntmps94
      go_wp2_with (first | (go_at_call 107; refine (IsWord_any _ _ ?_).mono ?_; (first | exact hs | exact ht); rintro e w' ⟨rfl, rfl⟩) | (go_at_call 108; refine HR.out.mono ?_; rintro e w1 ⟨rfl, hb1⟩))
      all_goals go_ret2
      all_goals first | exact ⟨ret_strb E.out.1.symm E.out.2.symm, hb1⟩ | (exfalso; have k1 : (⟨#[105, 101, 115]⟩ : ByteArray).size = 3 := rfl; have k2 : (⟨#[101, 115]⟩ : ByteArray).size = 2 := rfl; have k3 : (⟨#[121, 105, 110, 103]⟩ : ByteArray).size = 4 := rfl; have k4 : (⟨#[105]⟩ : ByteArray).size = 1 := rfl; omega)
  · have hj := Pl.join2 hr
    (try have h3 := Pl.rule3_size hr)
    rw [hr] at HR
    clear hr
    by_cases hz : (s ++ ⟨#[101, 115]⟩).size ≤ 24
    · have E := Lib.hid (Pl.join_yes h1 h2 hj hz)
      have hz2 := hz
      simp only [ByteArray.size_append] at hz2
      (try simp only [ByteArray.size_extract] at hz2)
      clear hj
      go_enter Try.func94, Try.ntmps94
      go_wp2_with (first | (go_at_call 107; refine (IsWord_any _ _ ?_).mono ?_; (first | exact hs | exact ht); rintro e w' ⟨rfl, rfl⟩) | (go_at_call 108; refine HR.out.mono ?_; rintro e w1 ⟨rfl, hb1⟩))
      all_goals go_ret2
      all_goals first | exact ⟨ret_strb E.out.1.symm E.out.2.symm, hb1⟩ | (exfalso; have k1 : (⟨#[105, 101, 115]⟩ : ByteArray).size = 3 := rfl; have k2 : (⟨#[101, 115]⟩ : ByteArray).size = 2 := rfl; have k3 : (⟨#[121, 105, 110, 103]⟩ : ByteArray).size = 4 := rfl; have k4 : (⟨#[105]⟩ : ByteArray).size = 1 := rfl; omega)
    · have E := Lib.hid (Pl.join_no hj hz)
      have hz2 := hz
      simp only [ByteArray.size_append] at hz2
      (try simp only [ByteArray.size_extract] at hz2)
      clear hj
      go_enter Try.func94, Try.ntmps94
      go_wp2_with (first | (go_at_call 107; refine (IsWord_any _ _ ?_).mono ?_; (first | exact hs | exact ht); rintro e w' ⟨rfl, rfl⟩) | (go_at_call 108; refine HR.out.mono ?_; rintro e w1 ⟨rfl, hb1⟩))
      all_goals go_ret2
      all_goals first | exact ⟨ret_strb E.out.1.symm E.out.2.symm, hb1⟩ | (exfalso; have k1 : (⟨#[105, 101, 115]⟩ : ByteArray).size = 3 := rfl; have k2 : (⟨#[101, 115]⟩ : ByteArray).size = 2 := rfl; have k3 : (⟨#[121, 105, 110, 103]⟩ : ByteArray).size = 4 := rfl; have k4 : (⟨#[105]⟩ : ByteArray).size = 1 := rfl; omega)
  · have hj := Pl.join3 hr
    (try have h3 := Pl.rule3_size hr)
    rw [hr] at HR
    clear hr
    by_cases hz : (s.extract 0 (s.size - 2) ++ ⟨#[121, 105, 110, 103]⟩).size ≤ 24
    · have E := Lib.hid (Pl.join_yes h1 h2 hj hz)
      have hz2 := hz
      simp only [ByteArray.size_append] at hz2
      (try simp only [ByteArray.size_extract] at hz2)
      clear hj
      go_enter Try.func94, Try.ntmps94
      go_wp2_with (first | (go_at_call 107; refine (IsWord_any _ _ ?_).mono ?_; (first | exact hs | exact ht); rintro e w' ⟨rfl, rfl⟩) | (go_at_call 108; refine HR.out.mono ?_; rintro e w1 ⟨rfl, hb1⟩))
      all_goals go_ret2
      all_goals first | exact ⟨ret_strb E.out.1.symm E.out.2.symm, hb1⟩ | (exfalso; have k1 : (⟨#[105, 101, 115]⟩ : ByteArray).size = 3 := rfl; have k2 : (⟨#[101, 115]⟩ : ByteArray).size = 2 := rfl; have k3 : (⟨#[121, 105, 110, 103]⟩ : ByteArray).size = 4 := rfl; have k4 : (⟨#[105]⟩ : ByteArray).size = 1 := rfl; omega)
    · have E := Lib.hid (Pl.join_no hj hz)
      have hz2 := hz
      simp only [ByteArray.size_append] at hz2
      (try simp only [ByteArray.size_extract] at hz2)
      clear hj
      go_enter Try.func94, Try.ntmps94
      go_wp2_with (first | (go_at_call 107; refine (IsWord_any _ _ ?_).mono ?_; (first | exact hs | exact ht); rintro e w' ⟨rfl, rfl⟩) | (go_at_call 108; refine HR.out.mono ?_; rintro e w1 ⟨rfl, hb1⟩))
      all_goals go_ret2
      all_goals first | exact ⟨ret_strb E.out.1.symm E.out.2.symm, hb1⟩ | (exfalso; have k1 : (⟨#[105, 101, 115]⟩ : ByteArray).size = 3 := rfl; have k2 : (⟨#[101, 115]⟩ : ByteArray).size = 2 := rfl; have k3 : (⟨#[121, 105, 110, 103]⟩ : ByteArray).size = 4 := rfl; have k4 : (⟨#[105]⟩ : ByteArray).size = 1 := rfl; omega)
  · have hj := Pl.join4 hr
    (try have h3 := Pl.rule3_size hr)
    rw [hr] at HR
    clear hr
    by_cases hz : (s.extract 0 (s.size - 1) ++ ⟨#[105]⟩ ++ t).size ≤ 24
    · have E := Lib.hid (Pl.join_yes h1 h2 hj hz)
      have hz2 := hz
      simp only [ByteArray.size_append] at hz2
      (try simp only [ByteArray.size_extract] at hz2)
      clear hj
      go_enter Try.func94, Try.ntmps94
      go_wp2_with (first | (go_at_call 107; refine (IsWord_any _ _ ?_).mono ?_; (first | exact hs | exact ht); rintro e w' ⟨rfl, rfl⟩) | (go_at_call 108; refine HR.out.mono ?_; rintro e w1 ⟨rfl, hb1⟩))
      all_goals go_ret2
      all_goals first | exact ⟨ret_strb E.out.1.symm E.out.2.symm, hb1⟩ | (exfalso; have k1 : (⟨#[105, 101, 115]⟩ : ByteArray).size = 3 := rfl; have k2 : (⟨#[101, 115]⟩ : ByteArray).size = 2 := rfl; have k3 : (⟨#[121, 105, 110, 103]⟩ : ByteArray).size = 4 := rfl; have k4 : (⟨#[105]⟩ : ByteArray).size = 1 := rfl; omega)
    · have E := Lib.hid (Pl.join_no hj hz)
      have hz2 := hz
      simp only [ByteArray.size_append] at hz2
      (try simp only [ByteArray.size_extract] at hz2)
      clear hj
      go_enter Try.func94, Try.ntmps94
      go_wp2_with (first | (go_at_call 107; refine (IsWord_any _ _ ?_).mono ?_; (first | exact hs | exact ht); rintro e w' ⟨rfl, rfl⟩) | (go_at_call 108; refine HR.out.mono ?_; rintro e w1 ⟨rfl, hb1⟩))
      all_goals go_ret2
      all_goals first | exact ⟨ret_strb E.out.1.symm E.out.2.symm, hb1⟩ | (exfalso; have k1 : (⟨#[105, 101, 115]⟩ : ByteArray).size = 3 := rfl; have k2 : (⟨#[101, 115]⟩ : ByteArray).size = 2 := rfl; have k3 : (⟨#[121, 105, 110, 103]⟩ : ByteArray).size = 4 := rfl; have k4 : (⟨#[105]⟩ : ByteArray).size = 1 := rfl; omega)
  · have hj := Pl.join5 hr
    (try have h3 := Pl.rule3_size hr)
    rw [hr] at HR
    clear hr
    by_cases hz : (s.extract 0 (s.size - 1) ++ t).size ≤ 24
    · have E := Lib.hid (Pl.join_yes h1 h2 hj hz)
      have hz2 := hz
      simp only [ByteArray.size_append] at hz2
      (try simp only [ByteArray.size_extract] at hz2)
      clear hj
      go_enter Try.func94, Try.ntmps94
      go_wp2_with (first | (go_at_call 107; refine (IsWord_any _ _ ?_).mono ?_; (first | exact hs | exact ht); rintro e w' ⟨rfl, rfl⟩) | (go_at_call 108; refine HR.out.mono ?_; rintro e w1 ⟨rfl, hb1⟩))
      all_goals go_ret2
      all_goals first | exact ⟨ret_strb E.out.1.symm E.out.2.symm, hb1⟩ | (exfalso; have k1 : (⟨#[105, 101, 115]⟩ : ByteArray).size = 3 := rfl; have k2 : (⟨#[101, 115]⟩ : ByteArray).size = 2 := rfl; have k3 : (⟨#[121, 105, 110, 103]⟩ : ByteArray).size = 4 := rfl; have k4 : (⟨#[105]⟩ : ByteArray).size = 1 := rfl; omega)
    · have E := Lib.hid (Pl.join_no hj hz)
      have hz2 := hz
      simp only [ByteArray.size_append] at hz2
      (try simp only [ByteArray.size_extract] at hz2)
      clear hj
      go_enter Try.func94, Try.ntmps94
      go_wp2_with (first | (go_at_call 107; refine (IsWord_any _ _ ?_).mono ?_; (first | exact hs | exact ht); rintro e w' ⟨rfl, rfl⟩) | (go_at_call 108; refine HR.out.mono ?_; rintro e w1 ⟨rfl, hb1⟩))
      all_goals go_ret2
      all_goals first | exact ⟨ret_strb E.out.1.symm E.out.2.symm, hb1⟩ | (exfalso; have k1 : (⟨#[105, 101, 115]⟩ : ByteArray).size = 3 := rfl; have k2 : (⟨#[101, 115]⟩ : ByteArray).size = 2 := rfl; have k3 : (⟨#[121, 105, 110, 103]⟩ : ByteArray).size = 4 := rfl; have k4 : (⟨#[105]⟩ : ByteArray).size = 1 := rfl; omega)
  · have hj := Pl.join6 hr
    (try have h3 := Pl.rule3_size hr)
    rw [hr] at HR
    clear hr
    by_cases hz : (s ++ s.extract (s.size - 1) s.size ++ t).size ≤ 24
    · have E := Lib.hid (Pl.join_yes h1 h2 hj hz)
      have hz2 := hz
      simp only [ByteArray.size_append] at hz2
      (try simp only [ByteArray.size_extract] at hz2)
      clear hj
      go_enter Try.func94, Try.ntmps94
      go_wp2_with (first | (go_at_call 107; refine (IsWord_any _ _ ?_).mono ?_; (first | exact hs | exact ht); rintro e w' ⟨rfl, rfl⟩) | (go_at_call 108; refine HR.out.mono ?_; rintro e w1 ⟨rfl, hb1⟩))
      all_goals go_ret2
      all_goals first | exact ⟨ret_strb E.out.1.symm E.out.2.symm, hb1⟩ | (exfalso; have k1 : (⟨#[105, 101, 115]⟩ : ByteArray).size = 3 := rfl; have k2 : (⟨#[101, 115]⟩ : ByteArray).size = 2 := rfl; have k3 : (⟨#[121, 105, 110, 103]⟩ : ByteArray).size = 4 := rfl; have k4 : (⟨#[105]⟩ : ByteArray).size = 1 := rfl; omega)
    · have E := Lib.hid (Pl.join_no hj hz)
      have hz2 := hz
      simp only [ByteArray.size_append] at hz2
      (try simp only [ByteArray.size_extract] at hz2)
      clear hj
      go_enter Try.func94, Try.ntmps94
      go_wp2_with (first | (go_at_call 107; refine (IsWord_any _ _ ?_).mono ?_; (first | exact hs | exact ht); rintro e w' ⟨rfl, rfl⟩) | (go_at_call 108; refine HR.out.mono ?_; rintro e w1 ⟨rfl, hb1⟩))
      all_goals go_ret2
      all_goals first | exact ⟨ret_strb E.out.1.symm E.out.2.symm, hb1⟩ | (exfalso; have k1 : (⟨#[105, 101, 115]⟩ : ByteArray).size = 3 := rfl; have k2 : (⟨#[101, 115]⟩ : ByteArray).size = 2 := rfl; have k3 : (⟨#[121, 105, 110, 103]⟩ : ByteArray).size = 4 := rfl; have k4 : (⟨#[105]⟩ : ByteArray).size = 1 := rfl; omega)

end Go.Proofs.Ytkbbcmbeafjpaab
