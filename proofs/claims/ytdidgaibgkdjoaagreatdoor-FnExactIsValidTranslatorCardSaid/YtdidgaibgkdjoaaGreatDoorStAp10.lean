/-
  CONTRACT: the method apply of a state at the atom that turns the last word's first letter.
-/
import Derived.Test.YtdidgaibgkdjoaaGreatDoorStBlock
import Derived.Deep.RegionLaw
namespace Go.Proofs.YtdidgaibgkdjoaaGreatDoor
open Go.RowKit

set_option maxRecDepth 20000 in
set_option maxHeartbeats 3200000 in
theorem apply10_any (b : Nat) (t : ByteArray) (j g : Bool) (c k : Int) (x : ByteArray) (w : World) (h : St w b ⟨t, j, g, c, k⟩) (ht : t.size ≤ 1048576) (h0 : 0 ≤ k) (h1 : k ≤ t.size) :
    Calls Tryz.prog 208 #[.pointer (some ⟨b, 0, none⟩), .agg #[.int .i64 10, .string x]] w fun e w' => e = .returned (.tuple #[]) ∧ St w' b (Pl.ap ⟨t, j, g, c, k⟩ 10 x) ∧ w.grownBy w' (some b) := by
  have HS := Lib.hid h
  obtain ⟨c0, c1, c2, c3, c4, hf⟩ := h
  dsimp only at c0 c1 c2 c3 c4
  have f0 := hf 0; have f1 := hf 1; have f2 := hf 2; have f3 := hf 3; have f4 := hf 4
  have hlt := World.block_lt_of_cell? _ _ c0
  have hne : w.heap.size ≠ b := fun e => absurd hlt (by show ¬ b < w.heap.size; omega)
  have hne2 : b ≠ w.heap.size := fun e => hne e.symm
  have HG0 := Lib.hid (World.grownBy.refl w (some b))
  have HF : ∀ i, w.frozen? ⟨b, i, none⟩ = false := hf
  clear hf
  have hm : (t.extract k.toNat t.size).size ≤ maxLen := by rw [ByteArray.size_extract]; unfold maxLen; omega
  have hz := Pl.up_size (t.extract k.toNat t.size)
  have hadd2 := fun W : World => run_string_add_sum (P := Tryz.prog) W (t.extract 0 k.toNat) (Pl.up (t.extract k.toNat t.size)) (by rw [hz, ByteArray.size_extract, ByteArray.size_extract]; omega)
  go_enter Tryz.func208, Tryz.ntmps208
  go_wp2
  go_region_law (first | (go_simp; go_at_call 227; refine (upper_any _ _ hm).mono ?_; rintro e w1 ⟨rfl, n1, rfl⟩))
  all_goals go_wp2_with fail
  all_goals
    refine bodyPost_ret (v := .tuple #[]) (by simp [results, Tryz.results208, go_sem, *]) rfl ⟨rfl, ?_, ?_⟩
    · refine ⟨?_, ?_, ?_, ?_, ?_, fun i => ?_⟩
      all_goals simp [Pl.ap, go_sem, *]
    · repeat (first | with_reducible exact HG0.out | with_reducible apply grown_then | with_reducible apply grown_drew | with_reducible apply grown_to | with_reducible apply grown_al)

end Go.Proofs.YtdidgaibgkdjoaaGreatDoor
