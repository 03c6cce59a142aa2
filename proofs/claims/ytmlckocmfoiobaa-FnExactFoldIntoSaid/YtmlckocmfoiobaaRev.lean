/-
  CONTRACTS: slices.Reverse on a row of bytes; reversed, doubled of the program.
-/
import Derived.Test.YtmlckocmfoiobaaSl
import Derived.Test.YtmlckocmfoiobaaStrA
import Derived.Test.YtmlckocmfoiobaaPlainBits
import Derived.Deep.QuietTactic
import Derived.BigQuiet
import Derived.BigRegion
import Derived.IntWalk
namespace Go.Proofs.Ytmlckocmfoiobaa
open Go.RowKit

/-- k bytes at each end have been exchanged -/
def RevAt (b n : Nat) (f : Nat → UInt8) (k : Nat) (w wr : World) : Prop :=
  (∀ j, j < n → wr.cell? ⟨b, j, none⟩ = some (.int .u8 (((if j < k ∨ n ≤ j + k then f (n - 1 - j) else f j).toNat : Nat) : Int))) ∧ (∀ j, j < n → wr.frozen? ⟨b, j, none⟩ = false) ∧ w.grownBy wr (some b)

theorem RevAt.step {b n : Nat} {f : Nat → UInt8} {k : Nat} {w wr : World} (h : RevAt b n f k w wr) (hk : k + k + 1 < n) :
    RevAt b n f (k + 1) w ((wr.setCell ⟨b, k, none⟩ (.int .u8 ((f (n - 1 - k)).toNat : Int))).setCell ⟨b, n - 1 - k, none⟩ (.int .u8 ((f k).toNat : Int))) := by
  obtain ⟨h1, h2, h3⟩ := h
  refine ⟨fun j hj => ?_, fun j hj => ?_, ?_⟩
  · have c1 := h1 k (by omega)
    have c2 := h1 (n - 1 - k) (by omega)
    by_cases e2 : j = n - 1 - k
    · subst e2
      have c2' : (wr.setCell ⟨b, k, none⟩ (.int .u8 ((f (n - 1 - k)).toNat : Int))).cell? ⟨b, n - 1 - k, none⟩ = some (.int .u8 (((if n - 1 - k < k ∨ n ≤ n - 1 - k + k then f (n - 1 - (n - 1 - k)) else f (n - 1 - k)).toNat : Nat) : Int)) := by
        rw [World.cell?_setCell_other _ _ _ _ (by intro h; injection h with _ h _; omega)]; exact c2
      rw [World.cell?_setCell_same _ _ _ c2', if_pos (by omega), show n - 1 - (n - 1 - k) = k by omega]
    · rw [World.cell?_setCell_other _ _ _ _ (by intro h; injection h with _ h _; omega)]
      by_cases e1 : j = k
      · subst e1
        rw [World.cell?_setCell_same _ _ _ c1, if_pos (by omega)]
      · rw [World.cell?_setCell_other _ _ _ _ (by intro h; injection h with _ h _; omega), h1 j hj]
        by_cases hj2 : j < k ∨ n ≤ j + k
        · rw [if_pos hj2, if_pos (by omega)]
        · rw [if_neg hj2, if_neg (by omega)]
  · have := h2 j hj
    simpa [go_sem] using this
  · exact ⟨h3.os, h3.tape, h3.output, by simpa [World.setCell] using h3.size, fun i hi hne => by
      have hb : i ≠ b := fun e => hne (by rw [e])
      rw [Below.heap_setCell _ _ _ _ hb, Below.heap_setCell _ _ _ _ hb]; exact h3.block i hi hne⟩

set_option maxHeartbeats 800000 in
theorem Reverse_any (b n cap : Nat) (f : Nat → UInt8) (w : World) (hn : n ≤ 1000) (hr : RevAt b n f 0 w w) :
    Calls Try.prog 111 #[.slice (some ⟨b, 0, none⟩) n cap] w fun e w' => e = .returned (.tuple #[]) ∧ ∃ k, n ≤ k + k + 1 ∧ RevAt b n f k w w' := by
  have HR := Lib.hid hr; clear hr
  go_enter Try.func111, Try.ntmps111
  go_wp2
  go_loopw [2, 3] (fun i j wr => ∃ k : Nat, k ≤ n ∧ k + k ≤ n + 1 ∧ i = .int .i64 k ∧ j = .int .i64 ((n : Int) - 1 - k) ∧ RevAt b n f k w wr) (fun i _ _ => n - (intOf i).toNat)
  case atStart => exact ⟨0, Nat.zero_le _, Nat.zero_le _, rfl, by simp, HR.out⟩
  case round =>
    obtain ⟨k, hk, hk2, rfl, rfl, hrv⟩ := hrel
    by_cases hlt : k + k + 1 < n
    · have c1 := hrv.1 k (by omega)
      rw [if_neg (by omega)] at c1
      have c2 := hrv.1 (n - 1 - k) (by omega)
      rw [if_neg (by omega)] at c2
      have f1 := hrv.2.1 k (by omega)
      have f2 := hrv.2.1 (n - 1 - k) (by omega)
      have hi : (k : Int) < (n : Int) - 1 - k := by omega
      have hj : ((n : Int) - 1 - (k : Int)).toNat = n - 1 - k := by omega
      go_wp2
      go_region
      all_goals go_wp2
      have hs := RevAt.step hrv hlt
      refine ⟨⟨k + 1, by omega, by omega, by simp, by simp; omega, ?_⟩, by simp [intOf]; omega⟩
      exact ⟨fun j hj => by simpa using hs.1 j hj, fun j hj => by simpa [go_sem] using hs.2.1 j hj, ⟨hs.2.2.os, hs.2.2.tape, hs.2.2.output, by simpa [go_sem] using hs.2.2.size, fun i hi hne => hs.2.2.block i hi hne⟩⟩
    · have hi : ¬ (k : Int) < (n : Int) - 1 - k := by omega
      go_wp2
      go_end0
      exact ⟨rfl, k, by omega, hrv⟩

/-- read back when all is exchanged -/
theorem rev_back {b k : Nat} {t : ByteArray} {w w' : World} (hk : t.size ≤ k + k + 1) (h : RevAt b t.size (fun j => t.data.getD j 0) k w w') (cap : Nat) :
    (convert 104 9 (.slice (some ⟨b, 0, none⟩) t.size cap)).run Try.prog w' = .ok (.string ⟨t.data.reverse⟩) w' := by
  have hl : t.data.toList.reverse.length = t.size := by rw [List.length_reverse, Array.length_toList]; rfl
  have := run_convert_bytes_back (P := Try.prog) w' 104 9 5 ⟨b, 0, none⟩ cap t.data.toList.reverse Try.underlying104 Try.underlying5 Try.underlying9 (fun j hj => by
    have hj' : j < t.size := by omega
    have e := h.1 j hj'
    have hx : t.data.toList.reverse[j] = t.data.getD (t.size - 1 - j) 0 := by
      rw [List.getElem_reverse, Array.getD_eq_getD_getElem?, Array.getElem?_eq_getElem (by show _ < t.size; omega)]
      simp only [Array.getElem_toList, Array.length_toList]
      rfl
    rw [hx]
    have ha : (Addr.add ⟨b, 0, none⟩ j) = ⟨b, j, none⟩ := by
      unfold Addr.add; split
      · rename_i h0; subst h0; rfl
      · simp
    rw [ha, e]
    by_cases hc : j < k ∨ t.size ≤ j + k
    · rw [if_pos hc]
    · rw [if_neg hc, show t.size - 1 - j = j by omega])
  rw [hl] at this
  rw [this, show t.data.toList.reverse.toArray = t.data.reverse by rw [← Array.toList_reverse, Array.toArray_toList]]

theorem heap_new (w : World) (o : Obj) : (w.alloc o).heap[w.heap.size]? = some o := by
  show (w.heap.push _)[w.heap.size]? = _; simp
theorem cell_new (w : World) (c : Array Value) (t : TypeId) (d : Nat × Nat) (i : Nat) : (w.alloc (.cells c t d)).cell? ⟨w.heap.size, i, none⟩ = c[i]? := by
  unfold World.cell?; rw [heap_new]; rfl
theorem frozen_new (w : World) (c : Array Value) (t : TypeId) (a b i : Nat) (h : i < a) : (w.alloc (.cells c t (a, b))).frozen? ⟨w.heap.size, i, none⟩ = false := by
  unfold World.frozen?; rw [heap_new]; simp; omega

/-- the bytes of t lie in the row -/
theorem bytesRow_rev (t : ByteArray) (cap : Nat) (w : World) :
    RevAt w.heap.size t.size (fun j => t.data.getD j 0) 0 (w.alloc (.cells (bytesRow t cap) 5 ((bytesRow t cap).size, (bytesRow t cap).size + 1))).drew (w.alloc (.cells (bytesRow t cap) 5 ((bytesRow t cap).size, (bytesRow t cap).size + 1))).drew := by
  refine ⟨fun j hj => ?_, fun j hj => ?_, World.grownBy.refl _ _⟩
  · have hj' : j < t.data.size := hj
    rw [World.cell?_drew, if_neg (by omega), cell_new]
    show (bytesRow t cap)[j]? = some (.int .u8 ((t.data.getD j 0).toNat : Int))
    rw [bytesRow_at t cap j hj', Array.getD_eq_getD_getElem?, Array.getElem?_eq_getElem hj']; rfl
  · have hj' : j < (bytesRow t cap).size := by
      have : j < t.data.size := hj
      simp [bytesRow]; omega
    show (w.alloc _).frozen? _ = _
    exact frozen_new _ _ _ _ _ _ hj'

set_option maxHeartbeats 800000 in
theorem reversed_any (t : ByteArray) (w : World) (ht : t.size ≤ 1000) :
    Calls Try.prog 91 #[.string t] w fun e w' => e = .returned (.string ⟨t.data.reverse⟩) ∧ Below w.heap.size w w' := by
  have hcv := fun w s => run_bytes_of_string (P := Try.prog) w 9 104 5 s Try.underlying9 Try.underlying104 Try.underlying5
  go_enter Try.func91, Try.ntmps91
  go_wp2_with (go_at_call 111; refine (Reverse_any w.heap.size t.size _ _ _ ht (bytesRow_rev t _ w)).mono ?_; rintro e w' ⟨rfl, k, hk, hrv⟩; have hbk := rev_back hk hrv (grownCap w t.size 0 5))
  go_ret
  exact ⟨rfl, (((Below.refl w.heap.size w).alloc (Nat.le_refl _) _).drew).grown hrv.2.2 (by rw [World.size_drew, World.size_alloc]; omega) (by intro k hk; injection hk with hk; omega)⟩

set_option maxHeartbeats 800000 in
theorem doubled_any (t : ByteArray) (w : World) (ht : t.size ≤ 1000) :
    Calls Try.prog 92 #[.string t] w fun e w' => e = .returned (.string (Pl.dbl t)) ∧ Drew w w' := by
  go_enter Try.func92, Try.ntmps92
  go_wp2
  go_loopw [3, 7] (fun o i wr => ∃ k : Nat, k ≤ t.size ∧ i = .int .i64 k ∧ o = .string (Pl.dupTo t k) ∧ Drew w wr) (fun _ i _ => t.size - (intOf i).toNat)
  case atStart => exact ⟨0, Nat.zero_le _, rfl, rfl, Drew.refl w⟩
  case round =>
    obtain ⟨k, hk, rfl, rfl, n, rfl⟩ := hrel
    by_cases hlt : k < t.size
    · have hes : (t.extract k (k + 1)).size = 1 := by simp; omega
      have hds := Pl.dupTo_size t k
      have hsum := Lib.hid (Pl.dupTo_succ t k hlt)
      go_wp2
      go_quiet (fail)
      go_wp2
      go_round
      case rel => exact ⟨k + 1, by omega, by go_num, by rw [hsum.out], n + nq, rfl⟩
      case measure => simp [intOf]; omega
    · have HE := Pl.dupTo_all t k (by omega)
      rw [HE]
      go_wp2
      go_ret
      exact ⟨rfl, n, rfl⟩

end Go.Proofs.Ytmlckocmfoiobaa
