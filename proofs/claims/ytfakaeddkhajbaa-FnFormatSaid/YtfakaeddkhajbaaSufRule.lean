/-
  CONTRACTS: SuffixRule of the program and of the reference.
-/
import Derived.Test.YtfakaeddkhajbaaRule
namespace Go.Proofs.Ytfakaeddkhajbaa
open Go.RowKit

set_option maxRecDepth 20000 in
set_option maxHeartbeats 800000 in
theorem SuffixRule_any (s t : ByteArray) (w : World) (hs : s.size ≤ maxLen) (ht : t.size ≤ maxLen) :
    Calls Try.prog 32 #[.string s, .string t] w fun x w' => x = .returned (.tuple #[.int .i64 (Pl.ruleOut s t), .bool (Pl.ruleOk s t)]) ∧ Below w.heap.size w w' := by
  have E := Lib.hid (show Pl.ruleOut s t = if (Pl.isWord s && Pl.isWord t) = true then Pl.rule s t else 0 from rfl)
  have K := Lib.hid (show Pl.ruleOk s t = (Pl.isWord s && Pl.isWord t) from rfl)
  cases h1 : Pl.isWord s
  · rw [h1] at E K
    go_enter Try.func32, Try.ntmps32
    go_wp2_with (first | (go_at_call 81; refine (IsWord_any _ _ ?_).mono ?_; (first | exact hs | exact ht); rintro e w' ⟨rfl, rfl⟩) | (go_at_call 82; refine (rule_any _ _ _ hs ht hz).mono ?_; rintro e w1 ⟨rfl, hb1⟩))
    all_goals go_ret2
    all_goals exact ⟨ret_intb E.out.symm K.out.symm, Below.refl _ _⟩
  · cases h2 : Pl.isWord t
    · rw [h1, h2] at E K
      go_enter Try.func32, Try.ntmps32
      go_wp2_with (first | (go_at_call 81; refine (IsWord_any _ _ ?_).mono ?_; (first | exact hs | exact ht); rintro e w' ⟨rfl, rfl⟩) | (go_at_call 82; refine (rule_any _ _ _ hs ht hz).mono ?_; rintro e w1 ⟨rfl, hb1⟩))
      all_goals go_ret2
      all_goals exact ⟨ret_intb E.out.symm K.out.symm, Below.refl _ _⟩
    · have hz := (Pl.isWord_size h2).1
      rw [h1, h2] at E K
      go_enter Try.func32, Try.ntmps32
      go_wp2_with (first | (go_at_call 81; refine (IsWord_any _ _ ?_).mono ?_; (first | exact hs | exact ht); rintro e w' ⟨rfl, rfl⟩) | (go_at_call 82; refine (rule_any _ _ _ hs ht hz).mono ?_; rintro e w1 ⟨rfl, hb1⟩))
      all_goals go_ret2
      all_goals exact ⟨ret_intb E.out.symm K.out.symm, by first | exact Below.refl _ _ | exact hb1⟩

set_option maxRecDepth 20000 in
set_option maxHeartbeats 800000 in
theorem specSuffixRule_any (s t : ByteArray) (w : World) (hs : s.size ≤ maxLen) (ht : t.size ≤ maxLen) :
    Calls Try.prog 33 #[.string s, .string t] w fun x w' => x = .returned (.tuple #[.int .i64 (Pl.ruleOut s t), .bool (Pl.ruleOk s t)]) ∧ Below w.heap.size w w' := by
  have E := Lib.hid (show Pl.ruleOut s t = if (Pl.isWord s && Pl.isWord t) = true then Pl.rule s t else 0 from rfl)
  have K := Lib.hid (show Pl.ruleOk s t = (Pl.isWord s && Pl.isWord t) from rfl)
  cases h1 : Pl.isWord s
  · rw [h1] at E K
    go_enter Try.func33, Try.ntmps33
    go_wp2_with (first | (go_at_call 79; refine (l9Word_any _ _ ?_).mono ?_; (first | exact hs | exact ht); rintro e w' ⟨rfl, rfl⟩) | (go_at_call 86; refine (l9Rule_any _ _ _ hs ht hz).mono ?_; rintro e w' ⟨rfl, rfl⟩))
    all_goals go_ret2
    all_goals exact ⟨ret_intb E.out.symm K.out.symm, Below.refl _ _⟩
  · cases h2 : Pl.isWord t
    · rw [h1, h2] at E K
      go_enter Try.func33, Try.ntmps33
      go_wp2_with (first | (go_at_call 79; refine (l9Word_any _ _ ?_).mono ?_; (first | exact hs | exact ht); rintro e w' ⟨rfl, rfl⟩) | (go_at_call 86; refine (l9Rule_any _ _ _ hs ht hz).mono ?_; rintro e w' ⟨rfl, rfl⟩))
      all_goals go_ret2
      all_goals exact ⟨ret_intb E.out.symm K.out.symm, Below.refl _ _⟩
    · have hz := (Pl.isWord_size h2).1
      rw [h1, h2] at E K
      go_enter Try.func33, Try.ntmps33
      go_wp2_with (first | (go_at_call 79; refine (l9Word_any _ _ ?_).mono ?_; (first | exact hs | exact ht); rintro e w' ⟨rfl, rfl⟩) | (go_at_call 86; refine (l9Rule_any _ _ _ hs ht hz).mono ?_; rintro e w' ⟨rfl, rfl⟩))
      all_goals go_ret2
      all_goals exact ⟨ret_intb E.out.symm K.out.symm, by first | exact Below.refl _ _ | exact hb1⟩

end Go.Proofs.Ytfakaeddkhajbaa
