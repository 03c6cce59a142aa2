/-
  CONTRACTS: strconv.Itoa, FormatInt, FormatEdit of the program and the reference.
-/
import Derived.Test.YtkbbcmbeafjpaabDoorEditOps
import Derived.Test.YtkbbcmbeafjpaabDoorNumText
import Derived.Test.YtkbbcmbeafjpaabDoorShelf
import Derived.Lib.AppendIntMem
import Derived.Lib.SmallJoins
namespace Go.Proofs.YtkbbcmbeafjpaabDoor
open Go.RowKit

/-- the table of powers of ten of the library lies as its text lays it -/
def Tab10 (w : World) : Prop := Lib.TabIs Tryd.prog w "internal/strconv.uint64pow10" .u64 Lib.pow10Tab
theorem Tab10.keep {w w' : World} (h : Tab10 w) (hb : Below w.heap.size w w') : Tab10 w' :=
  Joins.tab_stays (show Tryd.prog.globalNamed "internal/strconv.uint64pow10" = some 3 by kernel_rfl) h hb (Nat.le_refl _)

theorem keepcF {w w' : World} (hb : Below w.heap.size w w') {b o : Nat} {u : Value} (h : w.cell? ⟨b, o, none⟩ = some u) : w'.cell? ⟨b, o, none⟩ = some u := by
  rw [hb.cell (World.block_lt_of_cell? _ _ h)]; exact h

theorem Itoa_any (n : Int) (w : World) (h0 : -1000000000 ≤ n) (h1 : n ≤ 1000000000) (ht : Tab10 w) :
    Calls Tryd.prog 36 #[.int .i64 n] w fun e w' => e = .returned (.string (Pl.num n)) ∧ Below w.heap.size w w' := by
  refine (Tryd.strconv_Itoa n (by omega) (by omega) w ht).mono ?_
  rintro e w' ⟨rfl, k, os, rfl⟩
  exact ⟨rfl, Lib.below_grow _ _ (Nat.le_refl _) k os⟩

theorem FormatInt_any (n : Int) (w : World) (h0 : -999999 ≤ n) (h1 : n ≤ 999999) (ht : Tab10 w) :
    Calls Tryd.prog 24 #[.int .i64 n] w fun e w' => e = .returned (.tuple #[.string (Pl.num n), .bool true]) ∧ Below w.heap.size w w' := by
  have hin : Pl.inB n (-999999) 999999 = true := by simp [Pl.inB]; omega
  have HI := Lib.hid (Itoa_any n w (by omega) (by omega) ht)
  have HN := Lib.hid (in_any n (-999999) 999999 w)
  rw [hin] at HN
  go_enter Tryd.func24, Tryd.ntmps24
  go_wp2_with (first
    | (go_at_call 34; refine HN.out.mono ?_; rintro e w' ⟨rfl, rfl⟩)
    | (go_at_call 36; refine HI.out.mono ?_; rintro e w1 ⟨rfl, hb1⟩; have HB1 := Lib.hid hb1; clear hb1))
  go_ret2
  exact ⟨rfl, HB1.out⟩

namespace Pl
def edText (b : Int) (t : ByteArray) : ByteArray := ⟨#[45]⟩ ++ num b ++ ⟨#[43]⟩ ++ t
def feOut (b : Int) (t : ByteArray) : ByteArray := if validEdit b t = true then edText b t else ⟨#[]⟩
theorem validEdit_told {b : Int} {t : ByteArray} (h : validEdit b t = true) : 0 ≤ b ∧ b ≤ 2000 ∧ t.size ≤ 2000 := by
  simp [validEdit, isScreen, inB] at h
  omega
theorem num_small_len {b : Int} (h0 : 0 ≤ b) (h1 : b ≤ 2000) : (num b).size ≤ 2001 := by
  have := num_size_int h0
  omega
end Pl

set_option maxHeartbeats 800000 in
theorem FormatEdit_any (b : Int) (t : ByteArray) (w : World) (hs : t.size ≤ maxLen) (ht : Tab10 w) :
    Calls Tryd.prog 11 #[.agg #[.int .i64 b, .string t]] w fun e w' => e = .returned (.tuple #[.string (Pl.feOut b t), .bool (Pl.validEdit b t)]) ∧ Below w.heap.size w w' := by
  have HV := Lib.hid (fun W => IsValidEdit_any b t W hs)
  have HB0 := Lib.hid (Joins.below_alloc1 w (.cells #[.int .i64 b, .string t] 23))
  have E := Lib.hid (show Pl.feOut b t = if Pl.validEdit b t = true then Pl.edText b t else ⟨#[]⟩ from rfl)
  have HC := Lib.hid (show (w.alloc (.cells #[.int .i64 b, .string t] 23)).cell? ⟨w.heap.size, 0, none⟩ = some (.int .i64 b) ∧ (w.alloc (.cells #[.int .i64 b, .string t] 23)).cell? ⟨w.heap.size, 1, none⟩ = some (.string t) by constructor <;> simp [go_sem])
  cases hv : Pl.validEdit b t
  · rw [hv] at HV E
    have E1 := Lib.hid (show Pl.feOut b t = ⟨#[]⟩ from E.out)
    clear E
    go_enter Tryd.func11, Tryd.ntmps11
    go_wp2_with (go_at_call 23; (with_reducible refine (HV.out _).mono ?_); rintro e w1 ⟨rfl, hb1⟩; have HB1 := Lib.hid (HB0.out.trans (hb1.mono HB0.out.size)); clear hb1)
    go_ret2
    exact ⟨ret_strb E1.out.symm rfl, HB1.out⟩
  · rw [hv] at HV E
    obtain ⟨b0, b1, hz⟩ := Pl.validEdit_told hv
    have hn := Pl.num_small_len b0 b1
    have E1 := Lib.hid (show Pl.feOut b t = Pl.edText b t from E.out)
    have E2 := Lib.hid (show Pl.edText b t = ⟨#[45]⟩ ++ Pl.num b ++ ⟨#[43]⟩ ++ t from rfl)
    have HT := Lib.hid (ht.keep HB0.out)
    have HF := Lib.hid (fun W h => FormatInt_any b W (by omega) (by omega) h)
    generalize Pl.num b = q at hn E2 HF
    clear E hv
    go_enter Tryd.func11, Tryd.ntmps11
    go_wp2_with (first
      | (go_at_call 24; have hx := HB1; (with_reducible refine (HF.out _ HT1.out).mono ?_); rintro e w2 ⟨rfl, hb2⟩; have HB2 := Lib.hid (HB1.out.trans (hb2.mono HB1.out.size)); have lt2 := World.block_lt_of_cell? _ _ d1; have d0 := keepcF hb2 d0; have d1 := keepcF hb2 d1; clear hx hb2)
      | (go_at_call 23; (with_reducible refine (HV.out _).mono ?_); rintro e w1 ⟨rfl, hb1⟩; have HB1 := Lib.hid (HB0.out.trans (hb1.mono HB0.out.size)); have HT1 := Lib.hid (HT.out.keep hb1); have d0 := keepcF hb1 HC.out.1; have d1 := keepcF hb1 HC.out.2; have lt1 := World.block_lt_of_cell? _ _ d1; clear hb1))
    go_ret2
    exact ⟨ret_strb (E1.out.trans E2.out).symm rfl, HB2.out⟩

set_option maxHeartbeats 800000 in
theorem specFormatEdit_any (b : Int) (t : ByteArray) (w : World) (hs : t.size ≤ maxLen) :
    Calls Tryd.prog 12 #[.agg #[.int .i64 b, .string t]] w fun e w' => e = .returned (.tuple #[.string (Pl.feOut b t), .bool (Pl.validEdit b t)]) ∧ Below w.heap.size w w' := by
  have HV := Lib.hid (fun W => l13Good_any b t W hs)
  have HB0 := Lib.hid (Joins.below_alloc1 w (.cells #[.int .i64 b, .string t] 23))
  have E := Lib.hid (show Pl.feOut b t = if Pl.validEdit b t = true then Pl.edText b t else ⟨#[]⟩ from rfl)
  have HC := Lib.hid (show (w.alloc (.cells #[.int .i64 b, .string t] 23)).cell? ⟨w.heap.size, 0, none⟩ = some (.int .i64 b) ∧ (w.alloc (.cells #[.int .i64 b, .string t] 23)).cell? ⟨w.heap.size, 1, none⟩ = some (.string t) by constructor <;> simp [go_sem])
  cases hv : Pl.validEdit b t
  · rw [hv] at HV E
    have E1 := Lib.hid (show Pl.feOut b t = ⟨#[]⟩ from E.out)
    clear E
    go_enter Tryd.func12, Tryd.ntmps12
    go_wp2_with (go_at_call 18; (with_reducible refine (HV.out _).mono ?_); rintro e w1 ⟨rfl, hb1⟩; have HB1 := Lib.hid (HB0.out.trans (hb1.mono HB0.out.size)); clear hb1)
    go_ret2
    exact ⟨ret_strb E1.out.symm rfl, HB1.out⟩
  · rw [hv] at HV E
    obtain ⟨b0, b1, hz⟩ := Pl.validEdit_told hv
    have hn := Pl.num_small_len b0 b1
    have E1 := Lib.hid (show Pl.feOut b t = Pl.edText b t from E.out)
    have E2 := Lib.hid (show Pl.edText b t = ⟨#[45]⟩ ++ Pl.num b ++ ⟨#[43]⟩ ++ t from rfl)
    have HF := Lib.hid (fun W => l1Num_any b W (by omega) (by omega))
    generalize Pl.num b = q at hn E2 HF
    clear E hv
    go_enter Tryd.func12, Tryd.ntmps12
    go_wp2_with (go_at_call 18; (with_reducible refine (HV.out _).mono ?_); rintro e w1 ⟨rfl, hb1⟩; have HB1 := Lib.hid (HB0.out.trans (hb1.mono HB0.out.size)); have d0 := keepcF hb1 HC.out.1; have d1 := keepcF hb1 HC.out.2; have lt1 := World.block_lt_of_cell? _ _ d1; clear hb1)
    go_quiet ((go_at_call 25; exact Calls.quiet_of (HF.out _)))
    go_wp2
    go_ret2
    have hB := HB1.out
    exact ⟨ret_strb (E1.out.trans E2.out).symm rfl, (by repeat (first | with_reducible exact Below.refl _ _ | with_reducible assumption | with_reducible refine Below.alloc ?_ ?_ _ | with_reducible refine Below.setCell ?_ ?_ _ | with_reducible refine Below.drew ?_ | with_reducible refine below_drewN ?_ _ | with_reducible refine Below.trans ?_ (Below.mono (by assumption) ?_) | omega | ((repeat (first | rw [World.size_alloc] | rw [size_setCell] | rw [size_drewN] | rw [size_drew])); omega) | exact Nat.le_refl _ | (dsimp only; omega) | (simp [World.setCell]; omega)))⟩

end Go.Proofs.YtkbbcmbeafjpaabDoor
