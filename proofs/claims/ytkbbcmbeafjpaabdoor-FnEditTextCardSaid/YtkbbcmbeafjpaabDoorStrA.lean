/-
  CONTRACTS of small functions over strings: in, l1In, areLetters, IsWord, l9Word.
-/
import Derived.Test.YtkbbcmbeafjpaabDoorPlain
import Derived.Test.YtkbbcmbeafjpaabDoorProg
import Derived.WalkKit
import Derived.WalkSpells
import Derived.WalkLawsBesides
import Derived.Lib.Hide
namespace Go.Proofs.YtkbbcmbeafjpaabDoor
open Go.RowKit

theorem ret_bool {a b : Bool} (h : a = b) : Ending.returned (.bool a) = .returned (.bool b) := by rw [h]
theorem ret_int {a b : Int} (h : a = b) : Ending.returned (.int .i64 a) = .returned (.int .i64 b) := by rw [h]

theorem ret_str {a b : ByteArray} (h : a = b) : Ending.returned (.string a) = .returned (.string b) := by rw [h]
theorem ret_strb {a b : ByteArray} {x y : Bool} (h : a = b) (k : x = y) : Ending.returned (.tuple #[.string a, .bool x]) = .returned (.tuple #[.string b, .bool y]) := by rw [h, k]
theorem ret_intb {a b : Int} {x y : Bool} (h : a = b) (k : x = y) : Ending.returned (.tuple #[.int .i64 a, .bool x]) = .returned (.tuple #[.int .i64 b, .bool y]) := by rw [h, k]

theorem size_setCell (w : World) (a : Addr) (v : Value) : (w.setCell a v).heap.size = w.heap.size := by simp [World.setCell]
theorem size_drewN (w : World) (n : Nat) : (w.drewN n).heap.size = w.heap.size := rfl
theorem size_drew (w : World) : w.drew.heap.size = w.heap.size := rfl

/-- nothing but draws -/
def Drew (w w' : World) : Prop := ∃ n, w' = w.drewN n
theorem Drew.refl (w : World) : Drew w w := ⟨0, rfl⟩
theorem Drew.below {w w' : World} (h : Drew w w') : Below w.heap.size w w' := by
  obtain ⟨n, rfl⟩ := h
  exact ⟨rfl, rfl, rfl, Nat.le_refl _, fun _ _ => rfl⟩

/-- a callee that leaves the world alone, met in a region that draws its order -/
theorem quiet_eq {P : Program} {f : FuncId} {args : Array Value} {w : World} {n : Nat} {v : Value} (h : Calls P f args (w.drewN n) fun e w' => e = .returned v ∧ w.drewN n = w') :
    Calls P f args (w.drewN n) fun e w'' => e = .returned v ∧ ∃ m, w'' = w.drewN m := h.mono fun _ _ ⟨he, hm⟩ => ⟨he, n, hm.symm⟩

/-- what was there before a call that makes memory reads as before behind it -/
theorem bcell {W w1 : World} (hb : Below W.heap.size W w1) : (∀ b o, b < W.heap.size → w1.cell? ⟨b, o, none⟩ = W.cell? ⟨b, o, none⟩) ∧ (∀ b o, b < W.heap.size → w1.frozen? ⟨b, o, none⟩ = W.frozen? ⟨b, o, none⟩) :=
  ⟨fun b o h => hb.cell (p := ⟨b, o, none⟩) h, fun b o h => hb.frozen (p := ⟨b, o, none⟩) h⟩

set_option maxHeartbeats 400000 in
theorem in_any (n a b : Int) (w : World) :
    Calls Tryd.prog 34 #[.int .i64 n, .int .i64 a, .int .i64 b] w fun e w' => e = .returned (.bool (Pl.inB n a b)) ∧ w = w' := by
  go_enter Tryd.func34, Tryd.ntmps34
  go_wp2
  all_goals go_ret
  all_goals exact ⟨by simp_all [Pl.inB]; try omega, rfl⟩

set_option maxHeartbeats 400000 in
theorem l1In_any (n a b : Int) (w : World) :
    Calls Tryd.prog 29 #[.int .i64 n, .int .i64 a, .int .i64 b] w fun e w' => e = .returned (.bool (Pl.inB n a b)) ∧ w = w' := by
  go_enter Tryd.func29, Tryd.ntmps29
  go_wp2
  all_goals go_ret
  all_goals exact ⟨by simp_all [Pl.inB]; try omega, rfl⟩

set_option maxHeartbeats 400000 in
theorem isPrintable_any (s : ByteArray) (w : World) (hs : s.size ≤ maxLen) :
    Calls Tryd.prog 46 #[.string s] w fun e w' => e = .returned (.bool (Pl.allIn 32 126 s.data.toList)) ∧ w = w' := by
  unfold maxLen at hs
  go_enter Tryd.func46, Tryd.ntmps46
  go_wp2
  go_loop [6] (fun i => ∃ k : Nat, k ≤ s.size ∧ i = .int .i64 k ∧ Pl.allIn 32 126 (s.data.toList.take k) = true) (fun i => s.size - (intOf i).toNat)
  case atStart => exact ⟨0, Nat.zero_le _, rfl, rfl⟩
  case round =>
    obtain ⟨k, hk, rfl, hall⟩ := hrel
    have HA := Lib.hid hall; clear hall
    by_cases hlt : k < s.size
    · by_cases h1 : s[k].toNat < 32 ∨ 126 < s[k].toNat
      · have HV := Lib.hid (Pl.allIn_of_bad 32 126 s k hlt h1)
        go_wp2
        all_goals go_ret
        all_goals exact ⟨ret_bool (HV.out.symm), rfl⟩
      · have HT := Lib.hid (Pl.allIn_take_ok 32 126 s k hlt HA.out (by omega) (by omega))
        go_wp2
        go_round
        case rel => exact ⟨k + 1, by omega, by go_num, HT.out⟩
        case measure => simp [intOf]; omega
    · have HT := Lib.hid (Pl.allIn_take_all 32 126 s k (by omega) HA.out)
      go_wp2
      go_ret
      exact ⟨ret_bool (HT.out.symm), rfl⟩

set_option maxHeartbeats 400000 in
theorem l12Plain_any (s : ByteArray) (w : World) (hs : s.size ≤ maxLen) :
    Calls Tryd.prog 41 #[.string s] w fun e w' => e = .returned (.bool (Pl.allIn 32 126 s.data.toList)) ∧ w = w' := by
  unfold maxLen at hs
  go_enter Tryd.func41, Tryd.ntmps41
  go_wp2
  go_loop [3] (fun i => ∃ k : Nat, k ≤ s.size ∧ i = .int .i64 k ∧ Pl.allIn 32 126 (s.data.toList.take k) = true) (fun i => s.size - (intOf i).toNat)
  case atStart => exact ⟨0, Nat.zero_le _, rfl, rfl⟩
  case round =>
    obtain ⟨k, hk, rfl, hall⟩ := hrel
    have HA := Lib.hid hall; clear hall
    by_cases hlt : k < s.size
    · by_cases h1 : s[k].toNat < 32 ∨ 126 < s[k].toNat
      · have HV := Lib.hid (Pl.allIn_of_bad 32 126 s k hlt h1)
        have hbd : (s[k].toNat : Int) < 256 := by have := s[k].toNat_lt; omega
        have hib : Pl.inB (s[k].toNat : Int) 32 126 = false := by simp [Pl.inB]; omega
        go_wp2_with ((go_at_call 29; refine (l1In_any _ _ _ _).mono ?_; rintro e w' ⟨rfl, rfl⟩))
        all_goals go_ret
        all_goals exact ⟨ret_bool (HV.out.symm), rfl⟩
      · have HT := Lib.hid (Pl.allIn_take_ok 32 126 s k hlt HA.out (by omega) (by omega))
        have hbd : (s[k].toNat : Int) < 256 := by have := s[k].toNat_lt; omega
        have hib : Pl.inB (s[k].toNat : Int) 32 126 = true := by simp [Pl.inB]; omega
        go_wp2_with ((go_at_call 29; refine (l1In_any _ _ _ _).mono ?_; rintro e w' ⟨rfl, rfl⟩))
        go_round
        case rel => exact ⟨k + 1, by omega, by go_num, HT.out⟩
        case measure => simp [intOf]; omega
    · have HT := Lib.hid (Pl.allIn_take_all 32 126 s k (by omega) HA.out)
      go_wp2
      go_ret
      exact ⟨ret_bool (HT.out.symm), rfl⟩

end Go.Proofs.YtkbbcmbeafjpaabDoor
