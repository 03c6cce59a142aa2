/-
  CONTRACTS: the laws' own markText, markFoldS, heldFoldS.
-/
import Derived.Test.YtfjdbchffhbidaaFoldS
import Derived.Test.YtfjdbchffhbidaaPlainNum
namespace Go.Proofs.Ytfjdbchffhbidaa
open Go.RowKit

/-- the digits of n ahead of some bytes -/
def Pl.dec (n : Nat) (acc : List UInt8) : List UInt8 := if h : n = 0 then acc else Pl.dec (n / 10) (UInt8.ofNat (48 + n % 10) :: acc)
termination_by n
decreasing_by omega
theorem Pl.dec_zero (acc : List UInt8) : Pl.dec 0 acc = acc := by rw [Pl.dec]; rfl
theorem Pl.dec_step {n : Nat} (h : n ≠ 0) (acc : List UInt8) : Pl.dec n acc = Pl.dec (n / 10) (UInt8.ofNat (48 + n % 10) :: acc) := by rw [Pl.dec, dif_neg h]
def Pl.markT (k : Int) : ByteArray := if k ≤ 0 then ⟨#[109, 48]⟩ else ⟨#[109]⟩ ++ ⟨(Pl.dec k.toNat []).toArray⟩
theorem ba_cons (c : UInt8) (acc : List UInt8) : (⟨#[c]⟩ : ByteArray) ++ ⟨acc.toArray⟩ = ⟨(c :: acc).toArray⟩ := by
  apply Pl.ba_ext
  simp

theorem one_digit (w : World) (n : Nat) :
    (convert 22 9 (.slice (some ⟨w.heap.size, 0, none⟩) 1 1)).run Try.prog (w.alloc (.cells #[.int .u8 (48 + (n : Int) % 10)] 5)) = .ok (.string ⟨#[UInt8.ofNat (48 + n % 10)]⟩) (w.alloc (.cells #[.int .u8 (48 + (n : Int) % 10)] 5)) := by
  have hc : ((UInt8.ofNat (48 + n % 10)).toNat : Int) = 48 + (n : Int) % 10 := by
    simp only [UInt8.toNat_ofNat']
    omega
  exact run_convert_bytes_back (P := Try.prog) _ 22 9 5 ⟨w.heap.size, 0, none⟩ 1 [UInt8.ofNat (48 + n % 10)] Try.underlying22 Try.underlying5 Try.underlying9 (fun j hj => by
    have hj0 : j = 0 := by simpa using hj
    subst hj0
    rw [Addr.add_lit, Nat.zero_add, World.cell?_alloc_mark]
    show some (Value.int .u8 (48 + (n : Int) % 10)) = some (.int .u8 ((UInt8.ofNat (48 + n % 10)).toNat : Int))
    rw [hc])

set_option maxRecDepth 20000 in
set_option maxHeartbeats 800000 in
theorem markText_any (k : Int) (w : World) (h0 : 0 ≤ k) (h1 : k ≤ 1000000000000) :
    Calls Try.prog 51 #[.int .i64 k] w fun e w' => e = .returned (.string (Pl.markT k)) ∧ Below w.heap.size w w' := by
  by_cases hk : k ≤ 0
  · have E := Lib.hid (show Pl.markT k = ⟨#[109, 48]⟩ from if_pos hk)
    go_enter Try.func51, Try.ntmps51
    go_wp2
    go_ret
    exact ⟨ret_str E.out.symm, Below.refl _ _⟩
  · have E := Lib.hid (show Pl.markT k = ⟨#[109]⟩ ++ ⟨(Pl.dec k.toNat []).toArray⟩ from if_neg hk)
    go_enter Try.func51, Try.ntmps51
    go_wp2
    go_loopw [0, 3] (fun q o wr => ∃ (n : Nat) (acc : List UInt8), q = .int .i64 n ∧ o = .string ⟨acc.toArray⟩ ∧ (acc.length : Int) + (n : Int) ≤ k ∧ Hid (Pl.dec n acc = Pl.dec k.toNat []) ∧ Below w.heap.size w wr) (fun q _ _ => (intOf q).toNat)
    case atStart => exact ⟨k.toNat, [], by rw [Int.toNat_of_nonneg h0], rfl, by simp; omega, Lib.hid rfl, Below.refl _ _⟩
    case round =>
      obtain ⟨n, acc, rfl, rfl, hnk, HD, hb⟩ := hrel
      have HB := Lib.hid hb; clear hb
      by_cases hn : n = 0
      · have hF := Lib.hid ((Pl.dec_zero acc).symm.trans (hn ▸ HD.out))
        have hn0 : ¬ (0 : Int) < (n : Int) := by omega
        clear HD
        go_wp2
        go_ret
        exact ⟨ret_str (by rw [E.out, hF.out]), HB.out⟩
      · have HD2 := Lib.hid ((Pl.dec_step hn acc).symm.trans HD.out)
        have hcv := one_digit wr n
        have hsz : (⟨acc.toArray⟩ : ByteArray).size = acc.length := List.size_toArray
        have hnp : (0 : Int) < (n : Int) := by omega
        have HC := Lib.hid (ba_cons (UInt8.ofNat (48 + n % 10)) acc)
        clear HD
        go_wp2
        go_roundw
        case rel => exact ⟨n / 10, UInt8.ofNat (48 + n % 10) :: acc, by go_num, congrArg Value.string (Eq.trans (by simp) HC.out), by simp only [List.length_cons]; omega, HD2, HB.out.alloc HB.out.size _⟩
        case measure => simp [intOf]; omega

/-- the cells of n marks -/
def marksF (k0 : Int) (n : Nat) : List (Int × ByteArray) := (List.range n).map fun (i : Nat) => (k0 + 2 * (i : Int), Pl.markT (k0 + 2 * (i : Int) + 1))
theorem marksF_length (k0 : Int) (n : Nat) : (marksF k0 n).length = n := by simp [marksF]
theorem marksF_at (k0 : Int) (n i : Nat) (h : i < (marksF k0 n).length) : (marksF k0 n)[i] = (k0 + 2 * (i : Int), Pl.markT (k0 + 2 * (i : Int) + 1)) := by simp [marksF]
theorem below_grown {w w' : World} (h : Below w.heap.size w w') (row : Option Nat) : w.grownBy w' row := ⟨h.os, h.tape, h.output, h.size, fun i hi _ => h.block i hi⟩

end Go.Proofs.Ytfjdbchffhbidaa
