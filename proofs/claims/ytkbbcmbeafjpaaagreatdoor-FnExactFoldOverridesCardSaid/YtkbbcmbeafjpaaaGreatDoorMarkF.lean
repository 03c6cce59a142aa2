/-
  CONTRACT: the laws' own marks in a slice of folds, from any number on.
-/
import Derived.Test.YtkbbcmbeafjpaaaGreatDoorWid
import Derived.Test.YtkbbcmbeafjpaaaGreatDoorMarkD
import Derived.Test.YtkbbcmbeafjpaaaGreatDoorPlainLF
namespace Go.Proofs.YtkbbcmbeafjpaaaGreatDoor
open Go.RowKit

set_option maxRecDepth 20000 in
set_option maxHeartbeats 1600000 in
theorem markFoldS_w (v : Value) (n : Nat) (xs : List Value) (lo hi : Nat) (k0 : Int) (w : World) (hr : OwnRow 91 2 w lo hi v n xs) (hn : n ≤ 1048576) (h0 : 0 ≤ k0) (h1 : k0 ≤ 2000000000000000000) :
    Calls Tryz.prog 48 #[v, .int .i64 k0] w fun e w' => (∃ r : Int, e = .returned (.int .i64 r) ∧ k0 ≤ r ∧ r ≤ k0 + 2097152) ∧ Wid lo hi w w' := by
  obtain ⟨a, cap, rfl⟩ := row_formD hr.1
  rcases Nat.eq_zero_or_pos n with rfl | hpos
  · clear hr
    go_enter Tryz.func48, Tryz.ntmps48
    go_wp2
    go_loop [1, 5] (fun q i => i = .int .i64 0 ∧ q = .int .i64 k0) (fun _ _ => 0)
    case atStart => exact ⟨rfl, rfl⟩
    case round =>
      obtain ⟨rfl, rfl⟩ := hrel
      go_wp2
      go_ret
      exact ⟨⟨k0, rfl, by omega, by omega⟩, Wid.refl _ _ _⟩
  · obtain ⟨g, cap', e⟩ := Joins.ownsRow_form hr.1 hpos
    cases e
    have HO := Lib.hid hr.1
    have HI := Lib.hid (hr.2.1 g rfl)
    have HL := Lib.hid (hr.1.lt g rfl).1
    clear hr
    go_enter Tryz.func48, Tryz.ntmps48
    go_wp2
    go_loopw [1, 5] (fun q i wr => ∃ (k : Nat) (ys : List Value), k ≤ n ∧ i = .int .i64 k ∧ q = .int .i64 (k0 + 2 * (k : Int)) ∧ Hid (wr.ownsRow lo 91 2 (.slice (some ⟨g, 0, none⟩) n cap) n ys) ∧ Wid lo hi w wr) (fun _ i _ => n - (intOf i).toNat)
    case atStart => exact ⟨0, xs, Nat.zero_le _, rfl, by simp, HO, Wid.refl _ _ _⟩
    clear HO
    case round =>
      obtain ⟨k, ys, hk, rfl, rfl, HO, hw⟩ := hrel
      have HW := Lib.hid hw; clear hw
      by_cases hlt : k < n
      · have hki : (k : Int) < (n : Int) := by omega
        have hk00 : (0 : Int) ≤ (k : Int) := by omega
        have hx : ys.length = n * 2 := HO.out.1
        have m0 : (0 : Int) ≤ k0 + 2 * (k : Int) + 1 := by omega
        have m1 : k0 + 2 * (k : Int) + 1 ≤ 4000000000000000000 := by omega
        obtain ⟨z1, d1⟩ : ∃ z, wr.cell? ⟨g, k * 2, none⟩ = some z := by
          rw [HO.out.cellAt (k * 2) (by omega)]
          exact ⟨_, List.getElem?_eq_getElem (by omega)⟩
        have f1 := HO.out.frozenAt (k * 2)
        have HO1 := Lib.hid (HO.out.stored (k * 2) (.int .i64 (k0 + 2 * (k : Int))))
        have hxl : (ys.set (k * 2) (.int .i64 (k0 + 2 * (k : Int)))).length = n * 2 := by rw [List.length_set]; exact hx
        go_wp2_with (go_at_call 95; refine (markText_big _ _ m0 m1).mono ?_; rintro e w1 ⟨rfl, hb1⟩; have HO2 := Lib.hid (own_keep HO1.out.1 hb1); have HD := Lib.hid ((Wid.of_grown (lo := lo) (hi := hi) HO1.out.2 (fun b hb => by cases hb; exact ⟨HL.out, HI.out⟩)).trans (Wid.of_below lo hi hb1)); obtain ⟨z2, d2⟩ : ∃ z, w1.cell? ⟨g, k * 2 + 1, none⟩ = some z := (by rw [HO2.out.cellAt (k * 2 + 1) (by omega)]; exact ⟨_, List.getElem?_eq_getElem (by omega)⟩); have f2 := HO2.out.frozenAt (k * 2 + 1))
        go_roundw
        case rel =>
          have h3 := HO2.out.stored (k * 2 + 1) (.string (Pl.markT (k0 + 2 * (k : Int) + 1)))
          exact ⟨k + 1, _, by omega, by go_num, by go_num, Lib.hid h3.1, HW.out.trans (HD.out.trans (Wid.of_grown h3.2 (fun b hb => by cases hb; exact ⟨HL.out, HI.out⟩)))⟩
        case measure => simp [intOf]; omega
      · obtain rfl : k = n := by omega
        go_wp2
        go_ret
        exact ⟨⟨_, rfl, by omega, by omega⟩, HW.out⟩

theorem foOut_len (l : List Ent) (F : List Fo) : (foOut l F).length ≤ l.length := by
  unfold foOut
  split
  · exact fo_len l F l.length
  · exact Nat.zero_le _
theorem foOut_fit {l : List Ent} (h : EntsFit l) {F : List Fo} (q : List Int) (hq : q ∈ foOut l F) : q.length ≤ 1048576 := by
  unfold foOut at hq
  split at hq
  · unfold foTo at hq
    obtain ⟨p, hp, rfl⟩ := List.mem_map.1 hq
    exact (h.2 p (List.mem_of_mem_take (List.mem_filter.1 hp).1)).1
  · simp at hq

end Go.Proofs.YtkbbcmbeafjpaaaGreatDoor
