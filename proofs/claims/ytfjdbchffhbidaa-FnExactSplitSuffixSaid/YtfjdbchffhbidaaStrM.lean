/-
  CONTRACTS: the laws' own eqStringS, markStringS, heldStringS.
-/
import Derived.Test.YtfjdbchffhbidaaMark
import Derived.Test.YtfjdbchffhbidaaFilterS
namespace Go.Proofs.Ytfjdbchffhbidaa
open Go.RowKit

set_option maxHeartbeats 800000 in
theorem eqStringS_same (v v' : Value) (l : List ByteArray) (w : World) (hr : Rows w v l.length 1 (strs l)) (hr' : Rows w v' l.length 1 (strs l)) (hl : l.length ≤ 1048576) :
    Calls Try.prog 17 #[v, v'] w fun e w' => e = .returned (.bool true) ∧ Drew w w' := by
  obtain ⟨a, cap, rfl, _, _, _, _, hcells⟩ := hr
  obtain ⟨a', cap', rfl, _, _, _, _, hcells'⟩ := hr'
  go_enter Try.func17, Try.ntmps17
  go_wp2
  go_loopw [5] (fun i wr => ∃ k : Nat, k ≤ l.length ∧ i = .int .i64 k ∧ ∃ n, wr = w.drewN n) (fun i _ => l.length - (intOf i).toNat)
  case atStart => exact ⟨0, Nat.zero_le _, rfl, 0, rfl⟩
  case round =>
    obtain ⟨k, hk, rfl, n, rfl⟩ := hrel
    by_cases hlt : k < l.length
    · obtain ⟨b, off, rfl, h1⟩ := hcells k _ (strs_at l k hlt)
      obtain ⟨b', off', rfl, h2⟩ := hcells' k _ (strs_at l k hlt)
      have hki : (k : Int) < (l.length : Int) := by omega
      go_wp2
      go_quiet (fail)
      go_wp2
      go_roundw
      case rel => exact ⟨k + 1, by omega, by go_num, _, rfl⟩
      case measure => simp [intOf]; omega
    · go_wp2
      go_ret
      exact ⟨rfl, ⟨_, rfl⟩⟩

/-- n marks, as texts -/
def marksS (k0 : Int) (n : Nat) : List ByteArray := (List.range n).map fun (i : Nat) => Pl.markT (k0 + (i : Int))
theorem marksS_length (k0 : Int) (n : Nat) : (marksS k0 n).length = n := by simp [marksS]
theorem marksS_at (k0 : Int) (n i : Nat) (h : i < (marksS k0 n).length) : (marksS k0 n)[i] = Pl.markT (k0 + (i : Int)) := by simp [marksS]

set_option maxRecDepth 20000 in
set_option maxHeartbeats 1600000 in
theorem heldStringS_any (v : Value) (n : Nat) (k0 : Int) (w : World) (hr : Rows w v n 1 (strs (marksS k0 n))) (hn : n ≤ 1048576) (h0 : 0 ≤ k0) (h1 : k0 ≤ 1000000000) :
    Calls Try.prog 19 #[v, .int .i64 k0] w fun e w' => e = .returned (.int .i64 (k0 + n)) ∧ Below w.heap.size w w' := by
  obtain ⟨a, cap, rfl, _, _, _, _, hcells⟩ := hr
  have HC := Lib.hid hcells; clear hcells
  go_enter Try.func19, Try.ntmps19
  go_wp2
  go_loopw [1, 5] (fun q i wr => ∃ k : Nat, k ≤ n ∧ i = .int .i64 k ∧ q = .int .i64 (k0 + k) ∧ Below w.heap.size w wr) (fun _ i _ => n - (intOf i).toNat)
  case atStart => exact ⟨0, Nat.zero_le _, rfl, by simp, Below.refl _ _⟩
  case round =>
    obtain ⟨k, hk, rfl, rfl, hb⟩ := hrel
    have HB := Lib.hid hb; clear hb
    by_cases hlt : k < n
    · obtain ⟨b, off, rfl, c1⟩ := (HC.out.keep HB.out) k _ (strs_at _ k (by rw [marksS_length]; exact hlt))
      rw [marksS_at] at c1
      have hki : (k : Int) < (n : Int) := by omega
      have hk00 : (0 : Int) ≤ (k : Int) := by omega
      have m0 : (0 : Int) ≤ k0 + (k : Int) := by omega
      have m1 : k0 + (k : Int) ≤ 1000000000000 := by omega
      generalize hT : Pl.markT (k0 + (k : Int)) = T at c1
      have HT := Lib.hid hT; clear hT
      go_upto_region 4 with fail
      go_region_held3 (fun w' => w'.cell? ⟨b, off + k, none⟩ = some (.string T)) (first | exact e1 | exact c1) (first
        | (go_at_call 51; refine (markText_any _ _ m0 m1).mono ?_; rintro e w1 ⟨he, hb1⟩; rw [HT.out] at he; subst he; have e1 := keepc hb1 c1))
      go_wp2
      go_roundw
      case rel => exact ⟨k + 1, by omega, by go_num, by go_num, (below_drew1 HB.out).trans (hb1.mono HB.out.size)⟩
      case measure => simp [intOf]; omega
    · obtain rfl : k = n := by omega
      go_wp2
      go_ret
      exact ⟨rfl, HB.out⟩

set_option maxHeartbeats 1600000 in
theorem markStringS_any (v : Value) (xs : List Value) (n base : Nat) (k0 : Int) (w : World) (hr : w.ownsRow base 9 1 v n xs) (hn : n ≤ 1048576) (h0 : 0 ≤ k0) (h1 : k0 ≤ 1000000000) :
    Calls Try.prog 18 #[v, .int .i64 k0] w fun e w' => e = .returned (.int .i64 (k0 + n)) ∧ Wrote 9 1 base w v n (strs (marksS k0 n)) w' := by
  by_cases hpos : 0 < n
  · obtain ⟨g, cap, rfl⟩ := Joins.ownsRow_form hr hpos
    have hxl : (strs (marksS k0 n)).length = xs.length := by rw [strs_length, marksS_length, hr.1, Nat.mul_one]
    have HR := Lib.hid hr; have HL := Lib.hid hxl
    have hml := marksS_length k0 n
    clear hr hxl
    go_enter Try.func18, Try.ntmps18
    go_wp2
    go_loopw [1, 5] (fun q i wr => ∃ k : Nat, k ≤ n ∧ i = .int .i64 k ∧ q = .int .i64 (k0 + k) ∧ Wrote 9 1 base w (.slice (some ⟨g, 0, none⟩) n cap) n (half (strs (marksS k0 n)) xs k) wr) (fun _ i _ => n - (intOf i).toNat)
    case atStart => exact ⟨0, Nat.zero_le _, rfl, by simp, by rw [half_zero]; exact HR.out, World.grownBy.refl _ _⟩
    case round =>
      obtain ⟨k, hk, rfl, rfl, hwr⟩ := hrel
      have HW := Lib.hid hwr; clear hwr
      by_cases hlt : k < n
      · have hlen : (half (strs (marksS k0 n)) xs k).length = n := by rw [half_length _ _ _ HL.out, strs_length, hml]
        have HS := Lib.hid (half_set (strs (marksS k0 n)) xs k (.string (Pl.markT (k0 + (k : Int)))) HL.out (by rw [strs_at _ k (by rw [hml]; exact hlt), marksS_at]))
        have hki : (k : Int) < (n : Int) := by omega
        have hk00 : (0 : Int) ≤ (k : Int) := by omega
        have m0 : (0 : Int) ≤ k0 + (k : Int) := by omega
        have m1 : k0 + (k : Int) ≤ 1000000000000 := by omega
        have HO1 := Lib.hid HW.out.1
        clear hlen
        go_wp2_with (go_at_call 51; refine (markText_any _ _ m0 m1).mono ?_; rintro e w1 ⟨rfl, hb1⟩; have HO2 := Lib.hid (own_keep HO1.out hb1); obtain ⟨z2, d2⟩ : ∃ z, w1.cell? ⟨g, k, none⟩ = some z := (by rw [HO2.out.cellAt k (by omega)]; exact ⟨_, List.getElem?_eq_getElem (by rw [half_length _ _ _ HL.out, strs_length, hml]; omega)⟩); have f2 := HO2.out.frozenAt k)
        go_roundw
        case rel =>
          have h3 := HO2.out.stored k (.string (Pl.markT (k0 + (k : Int))))
          have h4 := h3.1
          rw [HS.out] at h4
          exact ⟨k + 1, by omega, by go_num, by go_num, h4, grownBy_trans HW.out.2 (grownBy_trans (below_grown hb1 _) h3.2)⟩
        case measure => simp [intOf]; omega
      · obtain rfl : k = n := by omega
        go_wp2
        go_ret
        have h := HW.out.1
        rw [half_all' _ _ k HL.out (by rw [strs_length, hml])] at h
        exact ⟨rfl, h, HW.out.2⟩
  · obtain rfl : n = 0 := by omega
    have hx : xs = [] := List.length_eq_zero_iff.1 (by simpa using hr.1)
    subst hx
    obtain ⟨ao, co, rfl⟩ := row_formI hr
    have HR := Lib.hid hr
    clear hr
    go_enter Try.func18, Try.ntmps18
    go_wp2
    go_loop [1, 5] (fun q i => i = .int .i64 0 ∧ q = .int .i64 k0) (fun _ _ => 0)
    case atStart => exact ⟨rfl, rfl⟩
    case round =>
      obtain ⟨rfl, rfl⟩ := hrel
      go_wp2
      go_ret
      exact ⟨by simp, HR.out, World.grownBy.refl _ _⟩

end Go.Proofs.Ytfjdbchffhbidaa
