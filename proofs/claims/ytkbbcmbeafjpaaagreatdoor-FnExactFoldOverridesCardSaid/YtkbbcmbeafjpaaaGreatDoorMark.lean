/-
  CONTRACTS: the laws' own markText, markFoldS, heldFoldS.
-/
import Derived.Test.YtkbbcmbeafjpaaaGreatDoorBasB
import Derived.Test.YtkbbcmbeafjpaaaGreatDoorBasA
namespace Go.Proofs.YtkbbcmbeafjpaaaGreatDoor
open Go.RowKit

/-- the digits of n ahead of some bytes -/
def Pl.dec (n : Nat) (acc : List UInt8) : List UInt8 := if h : n = 0 then acc else Pl.dec (n / 10) (UInt8.ofNat (48 + n % 10) :: acc)
termination_by n
decreasing_by omega
theorem Pl.dec_zero (acc : List UInt8) : Pl.dec 0 acc = acc := by rw [Pl.dec]; rfl
theorem Pl.dec_step {n : Nat} (h : n ≠ 0) (acc : List UInt8) : Pl.dec n acc = Pl.dec (n / 10) (UInt8.ofNat (48 + n % 10) :: acc) := by rw [Pl.dec, dif_neg h]
def Pl.markT (k : Int) : ByteArray := if k ≤ 0 then ⟨#[109, 48]⟩ else ⟨#[109]⟩ ++ ⟨(Pl.dec k.toNat []).toArray⟩
theorem ba_cons (c : UInt8) (acc : List UInt8) : (⟨#[c]⟩ : ByteArray) ++ ⟨acc.toArray⟩ = ⟨(c :: acc).toArray⟩ := by
  apply Pl.ba_ext
  simp

theorem one_digit (w : World) (n : Nat) :
    (convert 37 9 (.slice (some ⟨w.heap.size, 0, none⟩) 1 1)).run Tryz.prog (w.alloc (.cells #[.int .u8 (48 + (n : Int) % 10)] 5)) = .ok (.string ⟨#[UInt8.ofNat (48 + n % 10)]⟩) (w.alloc (.cells #[.int .u8 (48 + (n : Int) % 10)] 5)) := by
  have hc : ((UInt8.ofNat (48 + n % 10)).toNat : Int) = 48 + (n : Int) % 10 := by
    simp only [UInt8.toNat_ofNat']
    omega
  exact run_convert_bytes_back (P := Tryz.prog) _ 37 9 5 ⟨w.heap.size, 0, none⟩ 1 [UInt8.ofNat (48 + n % 10)] Tryz.underlying37 Tryz.underlying5 Tryz.underlying9 (fun j hj => by
    have hj0 : j = 0 := by simpa using hj
    subst hj0
    rw [Addr.add_lit, Nat.zero_add, World.cell?_alloc_mark]
    show some (Value.int .u8 (48 + (n : Int) % 10)) = some (.int .u8 ((UInt8.ofNat (48 + n % 10)).toNat : Int))
    rw [hc])

set_option maxRecDepth 20000 in
set_option maxHeartbeats 800000 in
theorem markText_any (k : Int) (w : World) (h0 : 0 ≤ k) (h1 : k ≤ 1000000000000) :
    Calls Tryz.prog 95 #[.int .i64 k] w fun e w' => e = .returned (.string (Pl.markT k)) ∧ Below w.heap.size w w' := by
  by_cases hk : k ≤ 0
  · have E := Lib.hid (show Pl.markT k = ⟨#[109, 48]⟩ from if_pos hk)
    go_enter Tryz.func95, Tryz.ntmps95
    go_wp2
    go_ret
    exact ⟨ret_str E.out.symm, Below.refl _ _⟩
  · have E := Lib.hid (show Pl.markT k = ⟨#[109]⟩ ++ ⟨(Pl.dec k.toNat []).toArray⟩ from if_neg hk)
    go_enter Tryz.func95, Tryz.ntmps95
    go_wp2
    go_loopw [0, 3] (fun q o wr => ∃ (n : Nat) (acc : List UInt8), q = .int .i64 n ∧ o = .string ⟨acc.toArray⟩ ∧ (acc.length : Int) + (n : Int) ≤ k ∧ Hid (Pl.dec n acc = Pl.dec k.toNat []) ∧ Below w.heap.size w wr) (fun q _ _ => (intOf q).toNat)
    case atStart => exact ⟨k.toNat, [], by rw [Int.toNat_of_nonneg h0], rfl, by simp; omega, Lib.hid rfl, Below.refl _ _⟩
    case round =>
      obtain ⟨n, acc, rfl, rfl, hnk, HD, hb⟩ := hrel
      have HB := Lib.hid hb; clear hb
      by_cases hn : n = 0
      · have hF := Lib.hid ((Pl.dec_zero acc).symm.trans (hn ▸ HD.out))
        have hn0 : ¬ (0 : Int) < (n : Int) := by omega
        clear HD
        go_wp2
        go_ret
        exact ⟨ret_str (by rw [E.out, hF.out]), HB.out⟩
      · have HD2 := Lib.hid ((Pl.dec_step hn acc).symm.trans HD.out)
        have hcv := one_digit wr n
        have hsz : (⟨acc.toArray⟩ : ByteArray).size = acc.length := List.size_toArray
        have hnp : (0 : Int) < (n : Int) := by omega
        have HC := Lib.hid (ba_cons (UInt8.ofNat (48 + n % 10)) acc)
        clear HD
        go_wp2
        go_roundw
        case rel => exact ⟨n / 10, UInt8.ofNat (48 + n % 10) :: acc, by go_num, congrArg Value.string (Eq.trans (by simp) HC.out), by simp only [List.length_cons]; omega, HD2, HB.out.alloc HB.out.size _⟩
        case measure => simp [intOf]; omega

/-- the cells of n marks -/
def marksF (k0 : Int) (n : Nat) : List (Int × ByteArray) := (List.range n).map fun (i : Nat) => (k0 + 2 * (i : Int), Pl.markT (k0 + 2 * (i : Int) + 1))
theorem marksF_length (k0 : Int) (n : Nat) : (marksF k0 n).length = n := by simp [marksF]
theorem marksF_at (k0 : Int) (n i : Nat) (h : i < (marksF k0 n).length) : (marksF k0 n)[i] = (k0 + 2 * (i : Int), Pl.markT (k0 + 2 * (i : Int) + 1)) := by simp [marksF]
theorem below_grown {w w' : World} (h : Below w.heap.size w w') (row : Option Nat) : w.grownBy w' row := ⟨h.os, h.tape, h.output, h.size, fun i hi _ => h.block i hi⟩

set_option maxHeartbeats 1600000 in
theorem markFoldS_any (v : Value) (xs : List Value) (n base : Nat) (k0 : Int) (w : World) (hr : w.ownsRow base 91 2 v n xs) (hpos : 0 < n) (hn : n ≤ 1048576) (h0 : 0 ≤ k0) (h1 : k0 ≤ 1000000000) :
    Calls Tryz.prog 48 #[v, .int .i64 k0] w fun e w' => e = .returned (.int .i64 (k0 + 2 * n)) ∧ Wrote 91 2 base w v n (folds (marksF k0 n)) w' := by
  obtain ⟨g, cap, rfl⟩ := Joins.ownsRow_form hr hpos
  have hxl : (folds (marksF k0 n)).length = xs.length := by rw [folds_length, marksF_length, hr.1]
  have HR := Lib.hid hr; have HL := Lib.hid hxl
  have hml := marksF_length k0 n
  clear hr hxl
  go_enter Tryz.func48, Tryz.ntmps48
  go_wp2
  go_loopw [1, 5] (fun q i wr => ∃ k : Nat, k ≤ n ∧ i = .int .i64 k ∧ q = .int .i64 (k0 + 2 * (k : Int)) ∧ Wrote 91 2 base w (.slice (some ⟨g, 0, none⟩) n cap) n (half (folds (marksF k0 n)) xs (k * 2)) wr) (fun _ i _ => n - (intOf i).toNat)
  case atStart => exact ⟨0, Nat.zero_le _, rfl, by simp, by rw [Nat.zero_mul, half_zero]; exact HR.out, World.grownBy.refl _ _⟩
  case round =>
    obtain ⟨k, hk, rfl, rfl, hwr⟩ := hrel
    have HW := Lib.hid hwr; clear hwr
    by_cases hlt : k < n
    · have hlen : (half (folds (marksF k0 n)) xs (k * 2)).length = n * 2 := by rw [half_length _ _ _ HL.out, folds_length, hml]
      have HS := Lib.hid (half_set2 (marksF k0 n) xs k HL.out (by rw [hml]; exact hlt))
      rw [marksF_at] at HS
      have hki : (k : Int) < (n : Int) := by omega
      have hk00 : (0 : Int) ≤ (k : Int) := by omega
      have m0 : (0 : Int) ≤ k0 + 2 * (k : Int) + 1 := by omega
      have m1 : k0 + 2 * (k : Int) + 1 ≤ 1000000000000 := by omega
      obtain ⟨z1, d1⟩ : ∃ z, wr.cell? ⟨g, k * 2, none⟩ = some z := by
        rw [HW.out.1.cellAt (k * 2) (by omega)]
        exact ⟨_, List.getElem?_eq_getElem (by omega)⟩
      have f1 := HW.out.1.frozenAt (k * 2)
      have HO1 := Lib.hid (HW.out.1.stored (k * 2) (.int .i64 (k0 + 2 * (k : Int))))
      clear hlen
      go_wp2_with (go_at_call 95; refine (markText_any _ _ m0 m1).mono ?_; rintro e w1 ⟨rfl, hb1⟩; have HO2 := Lib.hid (own_keep HO1.out.1 hb1); obtain ⟨z2, d2⟩ : ∃ z, w1.cell? ⟨g, k * 2 + 1, none⟩ = some z := (by rw [HO2.out.cellAt (k * 2 + 1) (by omega)]; exact ⟨_, List.getElem?_eq_getElem (by rw [List.length_set, half_length _ _ _ HL.out, folds_length, hml]; omega)⟩); have f2 := HO2.out.frozenAt (k * 2 + 1))
      go_roundw
      case rel =>
        have h3 := HO2.out.stored (k * 2 + 1) (.string (Pl.markT (k0 + 2 * (k : Int) + 1)))
        have h4 := h3.1
        rw [HS.out] at h4
        exact ⟨k + 1, by omega, by go_num, by go_num, h4, grownBy_trans HW.out.2 (grownBy_trans HO1.out.2 (grownBy_trans (below_grown hb1 _) h3.2))⟩
      case measure => simp [intOf]; omega
    · obtain rfl : k = n := by omega
      go_wp2
      go_ret
      have h := HW.out.1
      rw [half_all' _ _ (k * 2) HL.out (by rw [folds_length, hml])] at h
      exact ⟨rfl, h, HW.out.2⟩

end Go.Proofs.YtkbbcmbeafjpaaaGreatDoor
