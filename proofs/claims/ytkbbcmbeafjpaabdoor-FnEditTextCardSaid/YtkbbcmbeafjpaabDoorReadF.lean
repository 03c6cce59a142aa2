/-
  CONTRACT: the reference's l1Read.
-/
import Derived.Test.YtkbbcmbeafjpaabDoorReadE
import Derived.IntWalk
import Derived.Deep.DeepCutAuto
import Derived.Deep.RegionLaw
namespace Go.Proofs.YtkbbcmbeafjpaabDoor
open Go.RowKit

theorem text_ne {q s : ByteArray} (h : ¬ q = s) : (q.toList == s.toList) = false := by
  rw [beq_eq_false_iff_ne]
  intro e
  exact h (Pl.ba_ext (by rw [← Pl.ba_toList, ← Pl.ba_toList]; exact e))
/-- a number, as reading tells it -/
def RetRD (s : ByteArray) (w : World) (e : Ending) (w' : World) : Prop := ∃ n y, e = .returned (.tuple #[.int .i64 n, .bool y]) ∧ Pl.RD s n y ∧ Drew w w'

set_option maxRecDepth 20000 in
set_option maxHeartbeats 1600000 in
theorem l1Read_any (s : ByteArray) (w : World) (hs : s.size ≤ 1048576) :
    Calls Tryd.prog 17 #[.string s] w (RetRD s w) := by
  by_cases hm : 1 < s.size ∧ (∃ h : 0 < s.size, s[0] = 45)
  · obtain ⟨h1, h0, h45⟩ := hm
    have h45n : (s[0].toNat : Int) = 45 := by rw [h45]; rfl
    have hs1 : (1 : Int) < (s.size : Int) := by omega
    have HNO := Lib.hid (fun (hn : Pl.isN s) => show False by have := Pl.isN_at hn h0; rw [h45] at this; exact absurd this.1 (by decide))
    go_enter Tryd.func17, Tryd.ntmps17
    go_upto_region 4 with fail
    obtain ⟨t, ht⟩ : ∃ t, s.extract 1 s.size = t := ⟨_, rfl⟩
    rw [ht]
    have htz : t.size + 1 = s.size := by rw [← ht, ByteArray.size_extract]; omega
    have HNI := Lib.hid (fun (hn : Pl.isN s) => show Pl.isN t from (HNO.out hn).elim)
    clear ht h45 h45n
    by_cases hin : Pl.inB (t.size : Int) 1 6 = true
    · have HIN := Lib.hid (l1In_any (t.size : Int) 1 6 w)
      rw [hin] at HIN
      have hin2 : 1 ≤ t.size ∧ t.size ≤ 6 := by simp [Pl.inB] at hin; omega
      clear hin
      go_upto_region 8 with (go_at_call 29; refine HIN.out.mono ?_; rintro e w' ⟨rfl, rfl⟩)
      go_loopw [5, 6] (fun n i wr => ∃ (k m : Nat), k ≤ t.size ∧ i = .int .i64 k ∧ n = .int .i64 m ∧ Hid (Lib.decFrom 0 (t.data.toList.take k) = some m) ∧ Hid (m < 10 ^ k) ∧ ∃ d, wr = w.drewN d) (fun _ i _ => t.size - (intOf i).toNat)
      case atStart => exact ⟨0, 0, Nat.zero_le _, rfl, rfl, Lib.hid rfl, Lib.hid (by decide), 0, rfl⟩
      case round =>
        obtain ⟨k, m, hk, rfl, rfl, HD, HP, d, rfl⟩ := hrel
        by_cases hlt : k < t.size
        · have hki : (k : Int) < (t.size : Int) := by omega
          have hbd : (t[k].toNat : Int) < 256 := by have := t[k].toNat_lt; omega
          by_cases h1 : t[k].toNat < 48
          · have hb1 : (t[k].toNat : Int) < 48 := by omega
            have HX := Lib.hid (Pl.RD.bad (s := s) (fun hn => by have := Pl.isN_at (HNI.out hn) hlt; omega))
            go_wp2
            go_ret2
            exact ⟨_, _, rfl, HX.out, ⟨_, rfl⟩⟩
          by_cases h2 : 57 < t[k].toNat
          · have hb1 : ¬ (t[k].toNat : Int) < 48 := by omega
            have hb2 : (57 : Int) < (t[k].toNat : Int) := by omega
            have HX := Lib.hid (Pl.RD.bad (s := s) (fun hn => by have := Pl.isN_at (HNI.out hn) hlt; omega))
            go_wp2
            go_ret2
            exact ⟨_, _, rfl, HX.out, ⟨_, rfl⟩⟩
          have hp : m < 100000 := Nat.lt_of_lt_of_le HP.out (Nat.le_trans (Nat.pow_le_pow_right (by omega) (show k ≤ 5 by omega)) (by decide))
          have HD2 := Lib.hid (Lib.decFrom_take t.data.toList k 0 m t[k] (t[k].toNat - 48) HD.out (by rw [Array.getElem?_toList]; exact Array.getElem?_eq_getElem hlt) (by unfold Lib.digitVal; rw [if_pos ⟨by omega, by omega⟩]))
          have HP2 := Lib.hid (show m * 10 + (t[k].toNat - 48) < 10 ^ (k + 1) by have := HP.out; rw [Nat.pow_succ]; omega)
          have hb1 : ¬ (t[k].toNat : Int) < 48 := by omega
          have hb2 : ¬ (57 : Int) < (t[k].toNat : Int) := by omega
          have hw8 : IntKind.u8.wrap ((t[k].toNat : Int) - 48) = (t[k].toNat : Int) - 48 := by simp [IntKind.wrap, IntKind.bits, IntKind.signed]; omega
          have hw6 : IntKind.i64.wrap ((t[k].toNat : Int) - 48) = (t[k].toNat : Int) - 48 := IntWalk.i64_in _ (by omega)
          have hw7 : IntKind.i64.wrap (10 * (m : Int)) = 10 * (m : Int) := IntWalk.i64_in _ (by omega)
          have hw9 : IntKind.i64.wrap (10 * (m : Int) + ((t[k].toNat : Int) - 48)) = 10 * (m : Int) + ((t[k].toNat : Int) - 48) := IntWalk.i64_in _ (by omega)
          go_wp2
          go_roundw
          case rel => exact ⟨k + 1, m * 10 + (t[k].toNat - 48), by omega, by go_num, congrArg (Value.int .i64) (by omega), HD2, HP2, d, rfl⟩
          case measure => simp [intOf]; omega
        · obtain rfl : k = t.size := by omega
          have hp : m < 1000000 := Nat.lt_of_lt_of_le HP.out (Nat.le_trans (Nat.pow_le_pow_right (by omega) hin2.2) (by decide))
          have HV := Lib.hid (show Lib.decFrom 0 t.data.toList = some m by have h := HD.out; rwa [List.take_of_length_le (by rw [← Pl.ba_size]; exact Nat.le_refl _)] at h)
          have hlt2 : (t.size : Int) < (s.size : Int) := by omega
          have HL := Lib.hid (fun W => l1Num_any (-(m : Int)) W (by omega) (by omega))
          obtain ⟨q, hq⟩ : ∃ q, Pl.num (-(m : Int)) = q := ⟨_, rfl⟩
          rw [hq] at HL
          have HQ := Lib.hid hq
          clear hq
          by_cases hqs : q = s
          · subst hqs
            go_wp2_with (go_at_call 25; (with_reducible refine (HL.out _).mono ?_); rintro e w2 ⟨rfl, n2, rfl⟩)
            go_ret2
            exact ⟨_, _, rfl, ⟨fun _ => HQ.out.symm, (fun b hb e => (HNO.out ⟨b, hb, e⟩).elim), by omega, by omega⟩, ⟨_, rfl⟩⟩
          · have hqs2 : (q.toList == s.toList) = false := text_ne hqs
            go_wp2_with (go_at_call 25; (with_reducible refine (HL.out _).mono ?_); rintro e w2 ⟨rfl, n2, rfl⟩)
            go_ret2
            exact ⟨_, _, rfl, Pl.RD.bad HNO.out, ⟨_, rfl⟩⟩
    · have hin : Pl.inB (t.size : Int) 1 6 = false := by simpa using hin
      have HIN := Lib.hid (l1In_any (t.size : Int) 1 6 w)
      rw [hin] at HIN
      have HX := Lib.hid (Pl.RD.bad (s := s) (fun hn => by
        have := Pl.isN_told (HNI.out hn)
        simp [Pl.inB] at hin
        omega))
      go_wp2_with (go_at_call 29; refine HIN.out.mono ?_; rintro e w' ⟨rfl, rfl⟩)
      go_ret2
      exact ⟨_, _, rfl, HX.out, ⟨0, rfl⟩⟩
  · have HNI := Lib.hid (fun (h : Pl.isN s) => h)
    have hstep : ∀ h : 0 < s.size, 1 < s.size → ¬ (s[0].toNat : Int) = 45 := fun h h1 e => hm ⟨h1, h, UInt8.toNat_inj.1 (show s[0].toNat = 45 by omega)⟩
    by_cases hs1 : 1 < s.size
    · have hs2 : (1 : Int) < (s.size : Int) := by omega
      have h45 := hstep (by omega) hs1
      clear hm hstep
      go_enter Tryd.func17, Tryd.ntmps17
      go_upto_region 4 with fail
      by_cases hin : Pl.inB (s.size : Int) 1 6 = true
      · have HIN := Lib.hid (l1In_any (s.size : Int) 1 6 w)
        rw [hin] at HIN
        have hin2 : 1 ≤ s.size ∧ s.size ≤ 6 := by simp [Pl.inB] at hin; omega
        clear hin
        go_upto_region 8 with (go_at_call 29; refine HIN.out.mono ?_; rintro e w' ⟨rfl, rfl⟩)
        go_loopw [5, 6] (fun n i wr => ∃ (k m : Nat), k ≤ s.size ∧ i = .int .i64 k ∧ n = .int .i64 m ∧ Hid (Lib.decFrom 0 (s.data.toList.take k) = some m) ∧ Hid (m < 10 ^ k) ∧ ∃ d, wr = w.drewN d) (fun _ i _ => s.size - (intOf i).toNat)
        case atStart => exact ⟨0, 0, Nat.zero_le _, rfl, rfl, Lib.hid rfl, Lib.hid (by decide), 0, rfl⟩
        case round =>
          obtain ⟨k, m, hk, rfl, rfl, HD, HP, d, rfl⟩ := hrel
          by_cases hlt : k < s.size
          · have hki : (k : Int) < (s.size : Int) := by omega
            have hbd : (s[k].toNat : Int) < 256 := by have := s[k].toNat_lt; omega
            by_cases h1 : s[k].toNat < 48
            · have hb1 : (s[k].toNat : Int) < 48 := by omega
              have HX := Lib.hid (Pl.RD.bad (s := s) (fun hn => by have := Pl.isN_at (HNI.out hn) hlt; omega))
              go_wp2
              go_ret2
              exact ⟨_, _, rfl, HX.out, ⟨_, rfl⟩⟩
            by_cases h2 : 57 < s[k].toNat
            · have hb1 : ¬ (s[k].toNat : Int) < 48 := by omega
              have hb2 : (57 : Int) < (s[k].toNat : Int) := by omega
              have HX := Lib.hid (Pl.RD.bad (s := s) (fun hn => by have := Pl.isN_at (HNI.out hn) hlt; omega))
              go_wp2
              go_ret2
              exact ⟨_, _, rfl, HX.out, ⟨_, rfl⟩⟩
            have hp : m < 100000 := Nat.lt_of_lt_of_le HP.out (Nat.le_trans (Nat.pow_le_pow_right (by omega) (show k ≤ 5 by omega)) (by decide))
            have HD2 := Lib.hid (Lib.decFrom_take s.data.toList k 0 m s[k] (s[k].toNat - 48) HD.out (by rw [Array.getElem?_toList]; exact Array.getElem?_eq_getElem hlt) (by unfold Lib.digitVal; rw [if_pos ⟨by omega, by omega⟩]))
            have HP2 := Lib.hid (show m * 10 + (s[k].toNat - 48) < 10 ^ (k + 1) by have := HP.out; rw [Nat.pow_succ]; omega)
            have hb1 : ¬ (s[k].toNat : Int) < 48 := by omega
            have hb2 : ¬ (57 : Int) < (s[k].toNat : Int) := by omega
            have hw8 : IntKind.u8.wrap ((s[k].toNat : Int) - 48) = (s[k].toNat : Int) - 48 := by simp [IntKind.wrap, IntKind.bits, IntKind.signed]; omega
            have hw6 : IntKind.i64.wrap ((s[k].toNat : Int) - 48) = (s[k].toNat : Int) - 48 := IntWalk.i64_in _ (by omega)
            have hw7 : IntKind.i64.wrap (10 * (m : Int)) = 10 * (m : Int) := IntWalk.i64_in _ (by omega)
            have hw9 : IntKind.i64.wrap (10 * (m : Int) + ((s[k].toNat : Int) - 48)) = 10 * (m : Int) + ((s[k].toNat : Int) - 48) := IntWalk.i64_in _ (by omega)
            go_wp2
            go_roundw
            case rel => exact ⟨k + 1, m * 10 + (s[k].toNat - 48), by omega, by go_num, congrArg (Value.int .i64) (by omega), HD2, HP2, d, rfl⟩
            case measure => simp [intOf]; omega
          · obtain rfl : k = s.size := by omega
            have hp : m < 1000000 := Nat.lt_of_lt_of_le HP.out (Nat.le_trans (Nat.pow_le_pow_right (by omega) hin2.2) (by decide))
            have HV := Lib.hid (show Lib.decFrom 0 s.data.toList = some m by have h := HD.out; rwa [List.take_of_length_le (by rw [← Pl.ba_size]; exact Nat.le_refl _)] at h)
            have hlt2 : ¬ (s.size : Int) < (s.size : Int) := by omega
            have HL := Lib.hid (fun W => l1Num_any (m : Int) W (by omega) (by omega))
            obtain ⟨q, hq⟩ : ∃ q, Pl.num (m : Int) = q := ⟨_, rfl⟩
            rw [hq] at HL
            have HQ := Lib.hid hq
            clear hq
            by_cases hqs : q = s
            · subst hqs
              go_wp2_with (go_at_call 25; (with_reducible refine (HL.out _).mono ?_); rintro e w2 ⟨rfl, n2, rfl⟩)
              go_ret2
              exact ⟨_, _, rfl, ⟨fun _ => HQ.out.symm, (fun b hb e => ⟨by rw [Pl.RD.val HV.out b e], rfl⟩), by omega, by omega⟩, ⟨_, rfl⟩⟩
            · have hqs2 : (q.toList == s.toList) = false := text_ne hqs
              have HX := Lib.hid (Pl.RD.bad (s := s) (fun ⟨b, hb, e⟩ => hqs (by rw [← HQ.out, Pl.RD.val HV.out b e]; exact e.symm)))
              go_wp2_with (go_at_call 25; (with_reducible refine (HL.out _).mono ?_); rintro e w2 ⟨rfl, n2, rfl⟩)
              go_ret2
              exact ⟨_, _, rfl, HX.out, ⟨_, rfl⟩⟩
      · have hin : Pl.inB (s.size : Int) 1 6 = false := by simpa using hin
        have HIN := Lib.hid (l1In_any (s.size : Int) 1 6 w)
        rw [hin] at HIN
        have HX := Lib.hid (Pl.RD.bad (s := s) (fun hn => by
          have := Pl.isN_told (HNI.out hn)
          simp [Pl.inB] at hin
          omega))
        go_wp2_with (go_at_call 29; refine HIN.out.mono ?_; rintro e w' ⟨rfl, rfl⟩)
        go_ret2
        exact ⟨_, _, rfl, HX.out, ⟨0, rfl⟩⟩
    · have hs2 : ¬ (1 : Int) < (s.size : Int) := by omega
      clear hm hstep
      go_enter Tryd.func17, Tryd.ntmps17
      go_upto_region 4 with fail
      by_cases hin : Pl.inB (s.size : Int) 1 6 = true
      · have HIN := Lib.hid (l1In_any (s.size : Int) 1 6 w)
        rw [hin] at HIN
        have hin2 : 1 ≤ s.size ∧ s.size ≤ 6 := by simp [Pl.inB] at hin; omega
        clear hin
        go_upto_region 8 with (go_at_call 29; refine HIN.out.mono ?_; rintro e w' ⟨rfl, rfl⟩)
        go_loopw [5, 6] (fun n i wr => ∃ (k m : Nat), k ≤ s.size ∧ i = .int .i64 k ∧ n = .int .i64 m ∧ Hid (Lib.decFrom 0 (s.data.toList.take k) = some m) ∧ Hid (m < 10 ^ k) ∧ ∃ d, wr = w.drewN d) (fun _ i _ => s.size - (intOf i).toNat)
        case atStart => exact ⟨0, 0, Nat.zero_le _, rfl, rfl, Lib.hid rfl, Lib.hid (by decide), 0, rfl⟩
        case round =>
          obtain ⟨k, m, hk, rfl, rfl, HD, HP, d, rfl⟩ := hrel
          by_cases hlt : k < s.size
          · have hki : (k : Int) < (s.size : Int) := by omega
            have hbd : (s[k].toNat : Int) < 256 := by have := s[k].toNat_lt; omega
            by_cases h1 : s[k].toNat < 48
            · have hb1 : (s[k].toNat : Int) < 48 := by omega
              have HX := Lib.hid (Pl.RD.bad (s := s) (fun hn => by have := Pl.isN_at (HNI.out hn) hlt; omega))
              go_wp2
              go_ret2
              exact ⟨_, _, rfl, HX.out, ⟨_, rfl⟩⟩
            by_cases h2 : 57 < s[k].toNat
            · have hb1 : ¬ (s[k].toNat : Int) < 48 := by omega
              have hb2 : (57 : Int) < (s[k].toNat : Int) := by omega
              have HX := Lib.hid (Pl.RD.bad (s := s) (fun hn => by have := Pl.isN_at (HNI.out hn) hlt; omega))
              go_wp2
              go_ret2
              exact ⟨_, _, rfl, HX.out, ⟨_, rfl⟩⟩
            have hp : m < 100000 := Nat.lt_of_lt_of_le HP.out (Nat.le_trans (Nat.pow_le_pow_right (by omega) (show k ≤ 5 by omega)) (by decide))
            have HD2 := Lib.hid (Lib.decFrom_take s.data.toList k 0 m s[k] (s[k].toNat - 48) HD.out (by rw [Array.getElem?_toList]; exact Array.getElem?_eq_getElem hlt) (by unfold Lib.digitVal; rw [if_pos ⟨by omega, by omega⟩]))
            have HP2 := Lib.hid (show m * 10 + (s[k].toNat - 48) < 10 ^ (k + 1) by have := HP.out; rw [Nat.pow_succ]; omega)
            have hb1 : ¬ (s[k].toNat : Int) < 48 := by omega
            have hb2 : ¬ (57 : Int) < (s[k].toNat : Int) := by omega
            have hw8 : IntKind.u8.wrap ((s[k].toNat : Int) - 48) = (s[k].toNat : Int) - 48 := by simp [IntKind.wrap, IntKind.bits, IntKind.signed]; omega
            have hw6 : IntKind.i64.wrap ((s[k].toNat : Int) - 48) = (s[k].toNat : Int) - 48 := IntWalk.i64_in _ (by omega)
            have hw7 : IntKind.i64.wrap (10 * (m : Int)) = 10 * (m : Int) := IntWalk.i64_in _ (by omega)
            have hw9 : IntKind.i64.wrap (10 * (m : Int) + ((s[k].toNat : Int) - 48)) = 10 * (m : Int) + ((s[k].toNat : Int) - 48) := IntWalk.i64_in _ (by omega)
            go_wp2
            go_roundw
            case rel => exact ⟨k + 1, m * 10 + (s[k].toNat - 48), by omega, by go_num, congrArg (Value.int .i64) (by omega), HD2, HP2, d, rfl⟩
            case measure => simp [intOf]; omega
          · obtain rfl : k = s.size := by omega
            have hp : m < 1000000 := Nat.lt_of_lt_of_le HP.out (Nat.le_trans (Nat.pow_le_pow_right (by omega) hin2.2) (by decide))
            have HV := Lib.hid (show Lib.decFrom 0 s.data.toList = some m by have h := HD.out; rwa [List.take_of_length_le (by rw [← Pl.ba_size]; exact Nat.le_refl _)] at h)
            have hlt2 : ¬ (s.size : Int) < (s.size : Int) := by omega
            have HL := Lib.hid (fun W => l1Num_any (m : Int) W (by omega) (by omega))
            obtain ⟨q, hq⟩ : ∃ q, Pl.num (m : Int) = q := ⟨_, rfl⟩
            rw [hq] at HL
            have HQ := Lib.hid hq
            clear hq
            by_cases hqs : q = s
            · subst hqs
              go_wp2_with (go_at_call 25; (with_reducible refine (HL.out _).mono ?_); rintro e w2 ⟨rfl, n2, rfl⟩)
              go_ret2
              exact ⟨_, _, rfl, ⟨fun _ => HQ.out.symm, (fun b hb e => ⟨by rw [Pl.RD.val HV.out b e], rfl⟩), by omega, by omega⟩, ⟨_, rfl⟩⟩
            · have hqs2 : (q.toList == s.toList) = false := text_ne hqs
              have HX := Lib.hid (Pl.RD.bad (s := s) (fun ⟨b, hb, e⟩ => hqs (by rw [← HQ.out, Pl.RD.val HV.out b e]; exact e.symm)))
              go_wp2_with (go_at_call 25; (with_reducible refine (HL.out _).mono ?_); rintro e w2 ⟨rfl, n2, rfl⟩)
              go_ret2
              exact ⟨_, _, rfl, HX.out, ⟨_, rfl⟩⟩
      · have hin : Pl.inB (s.size : Int) 1 6 = false := by simpa using hin
        have HIN := Lib.hid (l1In_any (s.size : Int) 1 6 w)
        rw [hin] at HIN
        have HX := Lib.hid (Pl.RD.bad (s := s) (fun hn => by
          have := Pl.isN_told (HNI.out hn)
          simp [Pl.inB] at hin
          omega))
        go_wp2_with (go_at_call 29; refine HIN.out.mono ?_; rintro e w' ⟨rfl, rfl⟩)
        go_ret2
        exact ⟨_, _, rfl, HX.out, ⟨0, rfl⟩⟩

end Go.Proofs.YtkbbcmbeafjpaabDoor
