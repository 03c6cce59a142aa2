/-
  CONTRACTS: the spelling rule of the program.
  CONTRACTS: SuffixRule of the program and of the reference.
  CONTRACTS: JoinSuffix of the program and of the reference.
  CONTRACTS: IsValidState, LastWord of the program and the reference.
  CONTRACTS: isWordText, IsValidAtom, upper, lower of the program; l5Word, l5Good, l12Case of the reference.
-/
import Derived.Test.YtibchndfndgdeaaSpell
import Derived.Test.YtibchndfndgdeaaPlainJoin
import Derived.Test.YtibchndfndgdeaaStrA
import Derived.Test.YtibchndfndgdeaaPlainAtom
namespace Go.Proofs.Ytibchndfndgdeaa
open Go.RowKit

end Go.Proofs.Ytibchndfndgdeaa

namespace Go.Proofs.Ytibchndfndgdeaa
open Go.RowKit

end Go.Proofs.Ytibchndfndgdeaa

namespace Go.Proofs.Ytibchndfndgdeaa
open Go.RowKit

end Go.Proofs.Ytibchndfndgdeaa

namespace Go.Proofs.Ytibchndfndgdeaa
open Go.RowKit

end Go.Proofs.Ytibchndfndgdeaa

namespace Go.Proofs.Ytibchndfndgdeaa
open Go.RowKit

theorem Pl.allB_of_bad (p : Int → Bool) (s : ByteArray) (k : Nat) (h : k < s.size) (hb : p (s[k].toNat : Int) = false) : (s.data.toList.all fun c => p (c.toNat : Int)) = false := by
  rw [List.all_eq_false]
  refine ⟨s[k], ?_, by rw [hb]; simp⟩
  have : s[k] = s.data.toList[k]'(by simpa using h) := rfl
  rw [this]; exact List.getElem_mem _
theorem Pl.allB_take_ok (p : Int → Bool) (s : ByteArray) (k : Nat) (h : k < s.size) (ha : ((s.data.toList.take k).all fun c => p (c.toNat : Int)) = true) (hb : p (s[k].toNat : Int) = true) : ((s.data.toList.take (k + 1)).all fun c => p (c.toNat : Int)) = true := by
  have e : s.data.toList.take (k + 1) = s.data.toList.take k ++ [s[k]] := by
    rw [List.take_succ_eq_append_getElem (by simpa using h)]; rfl
  rw [e, List.all_append, ha]; simp [hb]
theorem Pl.allB_take_all (p : Int → Bool) (s : ByteArray) (k : Nat) (h : s.size ≤ k) (ha : ((s.data.toList.take k).all fun c => p (c.toNat : Int)) = true) : (s.data.toList.all fun c => p (c.toNat : Int)) = true := by
  rwa [List.take_of_length_le (by simpa using h)] at ha

theorem Pl.bad_index_byte (b : UInt8) : decide (0 ≤ Lib.indexByte [123, 125, 94, 38, 35, 62] b) = (b == 123 || b == 125 || b == 94 || b == 38 || b == 35 || b == 62) := by
  have key : ∀ n, n < 256 → decide (0 ≤ Lib.indexByte [123, 125, 94, 38, 35, 62] (UInt8.ofNat n)) = (UInt8.ofNat n == 123 || UInt8.ofNat n == 125 || UInt8.ofNat n == 94 || UInt8.ofNat n == 38 || UInt8.ofNat n == 35 || UInt8.ofNat n == 62) := by decide +kernel
  have h := key b.toNat b.toNat_lt
  rwa [UInt8.ofNat_toNat] at h
theorem Pl.bad_index (c : Int) (h0 : 0 ≤ c) (h1 : c < 256) : Pl.badB c = decide (0 ≤ Lib.indexByte [123, 125, 94, 38, 35, 62] c.toNat.toUInt8) := by
  obtain ⟨n, rfl⟩ := Int.eq_ofNat_of_zero_le h0
  have hn : n < 256 := by omega
  have ht : (n.toUInt8).toNat = n := by simp; omega
  rw [Int.toNat_natCast, Pl.bad_index_byte]
  have e : ∀ k : UInt8, (n.toUInt8 == k) = decide ((n : Int) = (k.toNat : Int)) := fun k => by
    rw [Bool.eq_iff_iff, beq_iff_eq, decide_eq_true_iff]
    constructor
    · intro h; rw [← h, ht]
    · intro h; exact UInt8.toNat.inj (by omega)
  simp [Pl.badB, e, Bool.beq_eq_decide_eq]
theorem Pl.bad_index' (b : UInt8) : Pl.badB (b.toNat : Int) = decide (0 ≤ Lib.indexByte [123, 125, 94, 38, 35, 62] b) := by
  have h := Pl.bad_index (b.toNat : Int) (by omega) (by have := b.toNat_lt; omega)
  simpa using h
theorem Pl.good_no {c : Int} (h : c < 33 ∨ 126 < c ∨ Pl.badB c = true) : Pl.goodB c = false := by
  unfold Pl.goodB
  rcases h with h | h | h
  · rw [decide_eq_false (by omega)]; rfl
  · rw [decide_eq_false (p := c ≤ 126) (by omega)]; simp
  · rw [h]; simp
theorem Pl.good_yes {c : Int} (h1 : 33 ≤ c) (h2 : c ≤ 126) (h : Pl.badB c = false) : Pl.goodB c = true := by
  unfold Pl.goodB
  rw [h, decide_eq_true h1, decide_eq_true h2]; rfl
theorem Pl.wordT_no {s : ByteArray} (k : Nat) (h : k < s.size) (hb : Pl.goodB (s[k].toNat : Int) = false) : Pl.wordT s = false := by
  unfold Pl.wordT Pl.allGood; rw [Pl.allB_of_bad Pl.goodB s k h hb]; rfl
theorem Pl.wordT_in {s : ByteArray} (h : Pl.allGood s.data.toList = true) : Pl.wordT s = Pl.inB s.size 1 20 := by
  unfold Pl.wordT; rw [h]; rfl

theorem bF' {x y : Int} (h : (x == y) = false) : ¬ x = y := by simpa using h

set_option maxRecDepth 20000 in
set_option maxHeartbeats 800000 in
theorem l5Word_any (s : ByteArray) (w : World) (hs : s.size ≤ maxLen) :
    Calls Try.prog 57 #[.string s] w fun e w' => e = .returned (.bool (Pl.wordT s)) ∧ w = w' := by
  unfold maxLen at hs
  go_enter Try.func57, Try.ntmps57
  go_wp2
  go_loop [3] (fun i => ∃ k : Nat, k ≤ s.size ∧ i = .int .i64 k ∧ Hid (Pl.allGood (s.data.toList.take k) = true)) (fun i => s.size - (intOf i).toNat)
  case atStart => exact ⟨0, Nat.zero_le _, rfl, Lib.hid rfl⟩
  case round =>
    obtain ⟨k, hk, rfl, HA⟩ := hrel
    by_cases hlt : k < s.size
    · have hbd : (s[k].toNat : Int) < 256 := by have := s[k].toNat_lt; omega
      by_cases h1 : s[k].toNat < 33 ∨ 126 < s[k].toNat
      · have HV := Lib.hid (Pl.wordT_no k hlt (Pl.good_no (by omega)))
        have hi : Pl.inB s[k].toNat 33 126 = false := by simp [Pl.inB]; omega
        go_wp2_with ((go_at_call 27; refine (l1In_any _ _ _ _).mono ?_; rintro e w' ⟨rfl, rfl⟩))
        all_goals go_ret
        all_goals exact ⟨ret_bool HV.out.symm, rfl⟩
      · have h2 : 33 ≤ s[k].toNat ∧ s[k].toNat ≤ 126 := by omega
        clear h1
        have hi : Pl.inB s[k].toNat 33 126 = true := by simp [Pl.inB]; omega
        cases hb : Pl.badB s[k].toNat
        · have HG := Lib.hid (Pl.good_yes (by omega) (by omega) hb)
          simp only [Pl.badB, Bool.or_eq_false_iff] at hb
          obtain ⟨⟨⟨⟨⟨b1, b2⟩, b3⟩, b4⟩, b5⟩, b6⟩ := hb
          have c1 := bF' b1; have c2 := bF' b2; have c3 := bF' b3; have c4 := bF' b4; have c5 := bF' b5; have c6 := bF' b6
          go_wp2_with ((go_at_call 27; refine (l1In_any _ _ _ _).mono ?_; rintro e w' ⟨rfl, rfl⟩))
          go_round
          case rel => exact ⟨k + 1, by omega, by go_num, Lib.hid (Pl.allB_take_ok Pl.goodB s k hlt HA.out HG.out)⟩
          case measure => simp [intOf]; omega
        · have HV := Lib.hid (Pl.wordT_no k hlt (Pl.good_no (.inr (.inr hb))))
          simp only [Pl.badB, Bool.or_eq_true, beq_iff_eq] at hb
          rcases hb with ((((hb | hb) | hb) | hb) | hb) | hb
          all_goals go_wp2_with ((go_at_call 27; refine (l1In_any _ _ _ _).mono ?_; rintro e w' ⟨rfl, rfl⟩))
          all_goals go_ret
          all_goals exact ⟨ret_bool HV.out.symm, rfl⟩
    · have HT := Lib.hid (Pl.wordT_in (Pl.allB_take_all Pl.goodB s k (by omega) HA.out))
      go_wp2_with ((go_at_call 27; refine (l1In_any _ _ _ _).mono ?_; rintro e w' ⟨rfl, rfl⟩))
      go_ret
      exact ⟨ret_bool HT.out.symm, rfl⟩

theorem Pl.enc_one (n : Nat) (h : n < 128) : Utf8.encode (n : Int) = ⟨#[UInt8.ofNat n]⟩ := by
  have hv : Utf8.valid (n : Int) = true := by simp [Utf8.valid]; omega
  unfold Utf8.encode
  simp only [hv, if_true, Int.toNat_natCast]
  rw [if_pos (by omega)]

theorem Pl.wrap8 {x : Int} (h0 : 0 ≤ x) (h1 : x < 256) : IntKind.u8.wrap x = x := by simp [IntKind.wrap, IntKind.bits, IntKind.signed]; omega
theorem Pl.wrap32 {x : Int} (h0 : 0 ≤ x) (h1 : x < 256) : IntKind.i32.wrap x = x := by simp [IntKind.wrap, IntKind.bits, IntKind.signed]; omega
theorem Pl.upper_enc (c : UInt8) (h1 : 97 ≤ c.toNat) (h2 : c.toNat ≤ 122) : Utf8.encode (IntKind.i32.wrap (IntKind.u8.wrap (IntKind.u8.wrap ((c.toNat : Int) - 97) + 65))) = ⟨#[c - 32]⟩ := by
  rw [Pl.wrap8 (x := (c.toNat : Int) - 97) (by omega) (by omega), Pl.wrap8 (by omega) (by omega), Pl.wrap32 (by omega) (by omega), show ((c.toNat : Int) - 97 + 65) = ((c.toNat - 32 : Nat) : Int) by omega, Pl.enc_one _ (by omega)]
  congr 3
  apply UInt8.toNat_inj.1
  have : (c - 32).toNat = c.toNat - 32 := by
    rw [UInt8.toNat_sub_of_le]; rfl
    show (32 : UInt8).toNat ≤ c.toNat
    have : (32 : UInt8).toNat = 32 := rfl
    omega
  rw [this]
  show (c.toNat - 32) % 2 ^ 8 = c.toNat - 32
  omega
theorem Pl.lower_enc (c : UInt8) (h1 : 65 ≤ c.toNat) (h2 : c.toNat ≤ 90) : Utf8.encode (IntKind.i32.wrap (IntKind.u8.wrap (IntKind.u8.wrap ((c.toNat : Int) - 65) + 97))) = ⟨#[c + 32]⟩ := by
  rw [Pl.wrap8 (x := (c.toNat : Int) - 65) (by omega) (by omega), Pl.wrap8 (by omega) (by omega), Pl.wrap32 (by omega) (by omega), show ((c.toNat : Int) - 65 + 97) = ((c.toNat + 32 : Nat) : Int) by omega, Pl.enc_one _ (by omega)]
  congr 3

theorem Pl.one_byte {x : ByteArray} (h : x.size = 1) : ∃ b : UInt8, x = ⟨#[b]⟩ := by
  cases x with | mk d => cases d with | mk l => match l, h with
    | [b], _ => exact ⟨b, rfl⟩
theorem Pl.stop_index (b : UInt8) : Pl.isStop ⟨#[b]⟩ = decide (0 ≤ Lib.indexByte [46, 33, 63] b) := by
  have key : ∀ n, n < 256 → decide (0 ≤ Lib.indexByte [46, 33, 63] (UInt8.ofNat n)) = (UInt8.ofNat n == 46 || UInt8.ofNat n == 33 || UInt8.ofNat n == 63) := by decide +kernel
  have h := key b.toNat b.toNat_lt
  rw [UInt8.ofNat_toNat] at h
  rw [h]
  simp [Pl.isStop, ba_toList]
theorem Pl.pause_index (b : UInt8) : Pl.isPause ⟨#[b]⟩ = decide (0 ≤ Lib.indexByte [44, 59, 58] b) := by
  have key : ∀ n, n < 256 → decide (0 ≤ Lib.indexByte [44, 59, 58] (UInt8.ofNat n)) = (UInt8.ofNat n == 44 || UInt8.ofNat n == 59 || UInt8.ofNat n == 58) := by decide +kernel
  have h := key b.toNat b.toNat_lt
  rw [UInt8.ofNat_toNat] at h
  rw [h]
  simp [Pl.isPause, ba_toList]
theorem Pl.stop_one {x : ByteArray} (h : ¬ x.size = 1) : Pl.isStop x = false := by
  cases he : Pl.isStop x
  · rfl
  · exact absurd (Pl.stop_prt he).2 h
theorem Pl.pause_one {x : ByteArray} (h : ¬ x.size = 1) : Pl.isPause x = false := by
  cases he : Pl.isPause x
  · rfl
  · exact absurd (Pl.pause_prt he).2 h
theorem Pl.atomOk1 {a : Int} {x : ByteArray} (h : a = 1 ∨ a = 2 ∨ a = 3 ∨ a = 4 ∨ a = 5) : Pl.atomOk a x = Pl.wordT x := by unfold Pl.atomOk; rw [if_pos h]
theorem Pl.atomOk6 (x : ByteArray) : Pl.atomOk 6 x = Pl.isStop x := rfl
theorem Pl.atomOk7 (x : ByteArray) : Pl.atomOk 7 x = Pl.isPause x := rfl
theorem Pl.atomOkE {a : Int} {x : ByteArray} (h : ¬ (a = 1 ∨ a = 2 ∨ a = 3 ∨ a = 4 ∨ a = 5)) (h6 : ¬ a = 6) (h7 : ¬ a = 7) : Pl.atomOk a x = (Pl.inB a 8 10 && x.toList.isEmpty) := by unfold Pl.atomOk; rw [if_neg h, if_neg h6, if_neg h7]

theorem Pl.stop_tests (x : ByteArray) : Pl.isStop x = (x.toList == [46] || x.toList == [33] || x.toList == [63]) := rfl
theorem Pl.pause_tests (x : ByteArray) : Pl.isPause x = (x.toList == [44] || x.toList == [59] || x.toList == [58]) := rfl
theorem Pl.inB_no {a : Int} (h1 : ¬ a = 8) (h2 : ¬ a = 9) (h3 : ¬ a = 10) : Pl.inB a 8 10 = false := by
  simp [Pl.inB]; omega

set_option maxRecDepth 20000 in
set_option maxHeartbeats 1600000 in
theorem l5Good_any (a : Int) (x : ByteArray) (w : World) (hs : x.size ≤ maxLen) :
    Calls Try.prog 54 #[.agg #[.int .i64 a, .string x]] w fun e w' => e = .returned (.bool (Pl.atomOk a x)) ∧ Below w.heap.size w w' := by
  have hs' := hs
  unfold maxLen at hs
  by_cases h1 : a = 1 ∨ a = 2 ∨ a = 3 ∨ a = 4 ∨ a = 5
  · have E := Lib.hid (Pl.atomOk1 (x := x) h1)
    rcases h1 with rfl | rfl | rfl | rfl | rfl
    all_goals
      go_enter Try.func54, Try.ntmps54
      go_wp2_with ((go_at_call 57; refine (l5Word_any _ _ hs').mono ?_; rintro e w' ⟨rfl, rfl⟩))
      go_ret
      exact ⟨ret_bool E.out.symm, (by repeat (first | with_reducible exact Below.refl _ _ | with_reducible assumption | with_reducible refine Below.alloc ?_ ?_ _ | with_reducible refine Below.setCell ?_ ?_ _ | with_reducible refine Below.drew ?_ | with_reducible refine below_drewN ?_ _ | with_reducible refine Below.trans ?_ (Below.mono (by assumption) ?_) | omega | ((repeat (first | rw [World.size_alloc] | rw [size_setCell] | rw [size_drewN] | rw [size_drew])); omega) | exact Nat.le_refl _ | (dsimp only; omega) | (simp [World.setCell]; omega)))⟩
  by_cases h6 : a = 6
  · subst h6
    have E := Lib.hid (Pl.stop_tests x)
    clear h1
    go_enter Try.func54, Try.ntmps54
    go_wp2
    all_goals go_ret
    all_goals exact ⟨ret_bool (by rw [Pl.atomOk6, E.out]; first | done | simp_all), (by repeat (first | with_reducible exact Below.refl _ _ | with_reducible assumption | with_reducible refine Below.alloc ?_ ?_ _ | with_reducible refine Below.setCell ?_ ?_ _ | with_reducible refine Below.drew ?_ | with_reducible refine below_drewN ?_ _ | with_reducible refine Below.trans ?_ (Below.mono (by assumption) ?_) | omega | ((repeat (first | rw [World.size_alloc] | rw [size_setCell] | rw [size_drewN] | rw [size_drew])); omega) | exact Nat.le_refl _ | (dsimp only; omega) | (simp [World.setCell]; omega)))⟩
  by_cases h7 : a = 7
  · subst h7
    have E := Lib.hid (Pl.pause_tests x)
    clear h1
    go_enter Try.func54, Try.ntmps54
    go_wp2
    all_goals go_ret
    all_goals exact ⟨ret_bool (by rw [Pl.atomOk7, E.out]; first | done | simp_all), (by repeat (first | with_reducible exact Below.refl _ _ | with_reducible assumption | with_reducible refine Below.alloc ?_ ?_ _ | with_reducible refine Below.setCell ?_ ?_ _ | with_reducible refine Below.drew ?_ | with_reducible refine below_drewN ?_ _ | with_reducible refine Below.trans ?_ (Below.mono (by assumption) ?_) | omega | ((repeat (first | rw [World.size_alloc] | rw [size_setCell] | rw [size_drewN] | rw [size_drew])); omega) | exact Nat.le_refl _ | (dsimp only; omega) | (simp [World.setCell]; omega)))⟩
  have E := Lib.hid (Pl.atomOkE (x := x) h1 h6 h7)
  have h1' : ¬ a = 1 ∧ ¬ a = 2 ∧ ¬ a = 3 ∧ ¬ a = 4 ∧ ¬ a = 5 := by omega
  obtain ⟨n1, n2, n3, n4, n5⟩ := h1'
  clear h1
  by_cases h8 : a = 8 ∨ a = 9 ∨ a = 10
  · rw [show Pl.inB a 8 10 = true by simp [Pl.inB]; omega, Bool.true_and] at E
    rcases h8 with rfl | rfl | rfl
    all_goals
      clear n1 n2 n3 n4 n5
      go_enter Try.func54, Try.ntmps54
      go_wp2
      go_ret
      exact ⟨ret_bool E.out.symm, (by repeat (first | with_reducible exact Below.refl _ _ | with_reducible assumption | with_reducible refine Below.alloc ?_ ?_ _ | with_reducible refine Below.setCell ?_ ?_ _ | with_reducible refine Below.drew ?_ | with_reducible refine below_drewN ?_ _ | with_reducible refine Below.trans ?_ (Below.mono (by assumption) ?_) | omega | ((repeat (first | rw [World.size_alloc] | rw [size_setCell] | rw [size_drewN] | rw [size_drew])); omega) | exact Nat.le_refl _ | (dsimp only; omega) | (simp [World.setCell]; omega)))⟩
  · have h8' : ¬ a = 8 ∧ ¬ a = 9 ∧ ¬ a = 10 := by omega
    obtain ⟨n8, n9, n10⟩ := h8'
    rw [Pl.inB_no n8 n9 n10, Bool.false_and] at E
    clear h8
    go_enter Try.func54, Try.ntmps54
    go_wp2
    go_ret
    exact ⟨ret_bool E.out.symm, (by repeat (first | with_reducible exact Below.refl _ _ | with_reducible assumption | with_reducible refine Below.alloc ?_ ?_ _ | with_reducible refine Below.setCell ?_ ?_ _ | with_reducible refine Below.drew ?_ | with_reducible refine below_drewN ?_ _ | with_reducible refine Below.trans ?_ (Below.mono (by assumption) ?_) | omega | ((repeat (first | rw [World.size_alloc] | rw [size_setCell] | rw [size_drewN] | rw [size_drew])); omega) | exact Nat.le_refl _ | (dsimp only; omega) | (simp [World.setCell]; omega)))⟩

theorem Pl.caseB_up {c : UInt8} (h1 : 97 ≤ c.toNat) (h2 : c.toNat ≤ 122) : UInt8.ofNat (IntKind.u8.wrap ((c.toNat : Int) - 32)).toNat = c - 32 := by
  rw [Pl.wrap8 (by omega) (by omega)]
  apply UInt8.toNat_inj.1
  have : (c - 32).toNat = c.toNat - 32 := by
    rw [UInt8.toNat_sub_of_le]; rfl
    show (32 : UInt8).toNat ≤ c.toNat
    have : (32 : UInt8).toNat = 32 := rfl
    omega
  rw [this]
  show ((c.toNat : Int) - 32).toNat % 2 ^ 8 = c.toNat - 32
  omega
theorem Pl.caseB_low {c : UInt8} (h1 : 65 ≤ c.toNat) (h2 : c.toNat ≤ 90) : UInt8.ofNat (IntKind.u8.wrap ((c.toNat : Int) + 32)).toNat = c + 32 := by
  rw [Pl.wrap8 (by omega) (by omega)]
  apply UInt8.toNat_inj.1
  have : (c + 32).toNat = c.toNat + 32 := by
    rw [UInt8.toNat_add]
    have : (32 : UInt8).toNat = 32 := rfl
    omega
  rw [this]
  show ((c.toNat : Int) + 32).toNat % 2 ^ 8 = c.toNat + 32
  omega

theorem conv_one (w : World) (d : UInt8) (T : TypeId) :
    (convert 22 9 (.slice (some ⟨w.heap.size, 0, none⟩) 1 1)).run Try.prog ((w.alloc (.cells #[.int .u8 (d.toNat : Int)] T)).drew) = .ok (.string ⟨#[d]⟩) ((w.alloc (.cells #[.int .u8 (d.toNat : Int)] T)).drew) := by
  have h := run_convert_bytes_back (P := Try.prog) ((w.alloc (.cells #[.int .u8 (d.toNat : Int)] T)).drew) 22 9 5 ⟨w.heap.size, 0, none⟩ 1 [d] Try.underlying22 Try.underlying5 Try.underlying9 (fun j hj => by
    have hj0 : j = 0 := by simp at hj; exact hj
    subst hj0
    show (w.alloc (.cells #[.int .u8 (d.toNat : Int)] T)).cell? ⟨w.heap.size, 0 + 0, none⟩ = _
    rw [World.cell?_alloc_mark]; rfl)
  exact h

theorem Pl.case_num (how : Int) (x : ByteArray) (h : 0 < x.size) : Pl.caseB how x = ⟨#[if how = 1 then Pl.upB x[0] else if how = 2 then Pl.lowB x[0] else x[0]]⟩ ++ x.extract 1 x.size := by
  unfold Pl.caseB
  split
  · exact Pl.onHead_split Pl.upB x h
  · split
    · exact Pl.onHead_split Pl.lowB x h
    · exact Pl.same_split h
theorem Pl.wrap_up {c : UInt8} (h1 : 97 ≤ c.toNat) (h2 : c.toNat ≤ 122) : IntKind.u8.wrap ((c.toNat : Int) - 32) = ((c - 32).toNat : Int) := by
  have : (c - 32).toNat = c.toNat - 32 := by
    rw [UInt8.toNat_sub_of_le]; rfl
    show (32 : UInt8).toNat ≤ c.toNat
    have : (32 : UInt8).toNat = 32 := rfl
    omega
  rw [this, Pl.wrap8 (by omega) (by omega)]; omega
theorem Pl.wrap_low {c : UInt8} (h1 : 65 ≤ c.toNat) (h2 : c.toNat ≤ 90) : IntKind.u8.wrap ((c.toNat : Int) + 32) = ((c + 32).toNat : Int) := by
  have : (c + 32).toNat = c.toNat + 32 := by
    rw [UInt8.toNat_add]
    have : (32 : UInt8).toNat = 32 := rfl
    omega
  rw [this, Pl.wrap8 (by omega) (by omega)]; omega

end Go.Proofs.Ytibchndfndgdeaa
