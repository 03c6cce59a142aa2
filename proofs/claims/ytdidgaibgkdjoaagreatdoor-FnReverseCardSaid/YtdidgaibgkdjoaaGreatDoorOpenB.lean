/-
  READING ARGUMENTS: a row of bytes, opened as 'Rows'. No program is in sight.
-/
import Derived.Test.YtdidgaibgkdjoaaGreatDoorBasA
import Derived.Test.YtdidgaibgkdjoaaGreatDoorDraw
namespace Go.Proofs.YtdidgaibgkdjoaaGreatDoor
open Go.ChangeShapes Go.WideShapes Go.RowKit Go.Deep
section
variable {H : Type} {enc : TypeId × Value → H} {P : Program} {w : World} {base : Nat} {spare : Nat → Bool} {held : Bool}

theorem u8s_length (l : List Int) : (u8s l).length = l.length := by simp [u8s]
theorem byte_wf {n : Int} (h : (Lit.int .u8 n).wf = true) : isByte n := by
  have h2 : 0 ≤ n ∧ n ≤ 255 := by simpa [Lit.wf, IntKind.min, IntKind.max, IntKind.signed, IntKind.bits] using h
  exact ⟨h2.1, by omega⟩
theorem open_bytesR {r : Reach} {b0 : Nat} {t e : TypeId} {v : Value} {d : DataW H} {p : List MemPlace} (ht : P.underlying t = some (.slice e)) (he : P.underlying e = some (.int .u8)) (hc : P.cellsOf e = 1)
    (hv : Value.okWide P w r b0 t v) (h : DataW.Trod enc P w base spare held t v d p) :
    ∃ l : List Int, Rows w v l.length 1 (u8s l) ∧ allByte l := by
  obtain ⟨a0, len, cap, rfl⟩ := okWide_slice ht hv
  obtain ⟨fuel, hf⟩ := h
  rcases open_ints ht he hc hf with ⟨h1, _⟩ | ⟨a, len', cap', zs, h1, _, hl, hm, hz, _, hx, hw⟩
  · simp only [Value.cells, List.cons.injEq, and_true] at h1
    rw [h1]
    exact ⟨[], ⟨none, 0, rfl, Nat.le_refl _, Nat.zero_le _, rfl, fun _ => ⟨rfl, rfl⟩, fun j u hj => by simp [u8s] at hj⟩, fun n hn => by simp at hn⟩
  · simp only [Value.cells, List.cons.injEq, and_true] at h1
    rw [h1]
    have hle : len' ≤ zs.length := by rw [hz]; split <;> omega
    have hlen : (zs.take len').length = len' := by rw [List.length_take]; omega
    refine ⟨zs.take len', ⟨some a, cap', by rw [hlen], by omega, hm, by simp [u8s], (fun h => nomatch h), fun j u hj => ?_⟩, fun n hn => byte_wf (hw n (List.mem_of_mem_take hn))⟩
    have hj' : j < len' := by
      rcases Nat.lt_or_ge j len' with h' | h'
      · exact h'
      · rw [List.getElem?_eq_none (by rw [u8s_length, hlen]; exact h')] at hj; cases hj
    have hcell := hx j (by omega)
    have hs : a.spot = none := by
      have h0 := hx 0 (by omega)
      exact World.cell?_spot (by simpa [Addr.add] using h0)
    rw [add_spot a hs] at hcell
    refine ⟨a.block, a.off, by cases a; cases hs; rfl, ?_⟩
    rw [hcell, ← hj]
    simp only [u8s, List.getElem?_map, List.getElem?_take, if_pos hj', List.getD_eq_getElem?_getD, List.getElem?_eq_getElem (show j < zs.length by omega)]
    rfl
end
end Go.Proofs.YtdidgaibgkdjoaaGreatDoor
