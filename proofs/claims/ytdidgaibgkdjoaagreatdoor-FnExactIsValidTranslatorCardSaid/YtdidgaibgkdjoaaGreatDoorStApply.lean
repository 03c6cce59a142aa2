/-
  CONTRACT: the method apply of a state that lies in a block of memory.
-/
import Derived.Test.YtdidgaibgkdjoaaGreatDoorStAp10
namespace Go.Proofs.YtdidgaibgkdjoaaGreatDoor
open Go.RowKit

set_option maxRecDepth 20000 in
set_option maxHeartbeats 3200000 in
theorem apply_any (b : Nat) (t : ByteArray) (j g : Bool) (c k : Int) (a : Int) (x : ByteArray) (w : World) (h : St w b ⟨t, j, g, c, k⟩) (ht : t.size ≤ 1048576) (hx : x.size ≤ 1048576) (h0 : 0 ≤ k) (h1 : k ≤ t.size) (ha : Pl.atomOk a x = true) :
    Calls Tryz.prog 208 #[.pointer (some ⟨b, 0, none⟩), .agg #[.int .i64 a, .string x]] w fun e w' => e = .returned (.tuple #[]) ∧ St w' b (Pl.ap ⟨t, j, g, c, k⟩ a x) ∧ w.grownBy w' (some b) := by
  have HS := Lib.hid h
  obtain ⟨c0, c1, c2, c3, c4, hf⟩ := h
  dsimp only at c0 c1 c2 c3 c4
  have f0 := hf 0; have f1 := hf 1; have f2 := hf 2; have f3 := hf 3; have f4 := hf 4
  have hlt := World.block_lt_of_cell? _ _ c0
  have hne : w.heap.size ≠ b := fun e => absurd hlt (by show ¬ b < w.heap.size; omega)
  have hne2 : b ≠ w.heap.size := fun e => hne e.symm
  have HG0 := Lib.hid (World.grownBy.refl w (some b))
  have HF : ∀ i, w.frozen? ⟨b, i, none⟩ = false := hf
  have hadd := fun W : World => run_string_add_sum (P := Tryz.prog) W t x (by omega)
  have hc := Pl.atomOk_cases ha
  clear hf ha
  rcases hc with rfl | rfl | rfl | rfl | rfl | rfl | rfl | rfl | rfl | rfl
  · go_enter Tryz.func208, Tryz.ntmps208
    go_wp2_with (go_at_call 224; refine (put_any b t j g c k x _ (by repeat (first | with_reducible exact HS.out | with_reducible apply St.alloc | with_reducible apply St.drewN | with_reducible apply St.drew)) ht hx).mono ?_; rintro e w1 ⟨rfl, hst, hg⟩; have HS1 := Lib.hid hst; have HG := Lib.hid hg; have a0 := grown_cell (B := w.heap.size) (i := 0) (u := .int .i64 1) hg hne (by simp [go_sem]); have a1 := grown_cell (B := w.heap.size) (i := 1) (u := .string x) hg hne (by simp [go_sem]); clear hst hg; obtain ⟨d0, d1, d2, d3, d4, e0⟩ := HS1.out; have e00 := e0 0; have e01 := e0 1; have e02 := e0 2; have e03 := e0 3; have e04 := e0 4; have E0 : ∀ i, w1.frozen? ⟨b, i, none⟩ = false := e0)
    all_goals
      refine bodyPost_end (v := .tuple #[]) (by simp [results, Tryz.results208, go_sem, *]) rfl ⟨rfl, ?_, ?_⟩
      · refine ⟨?_, ?_, ?_, ?_, ?_, fun i => ?_⟩
        all_goals simp [Pl.ap, Pl.put, go_sem, *]
      · repeat (first | with_reducible exact HG0.out | with_reducible apply grown_then | with_reducible apply grown_drew | with_reducible apply grown_to | with_reducible apply grown_al | with_reducible refine grownBy_trans ?_ HG.out)
  · go_enter Tryz.func208, Tryz.ntmps208
    go_wp2_with (go_at_call 226; refine (end_any b t j g c k x _ (by repeat (first | with_reducible exact HS.out | with_reducible apply St.alloc | with_reducible apply St.drewN | with_reducible apply St.drew)) ht hx h0 h1).mono ?_; rintro e w1 ⟨rfl, hst, hg⟩; have HS1 := Lib.hid hst; have HG := Lib.hid hg; have a0 := grown_cell (B := w.heap.size) (i := 0) (u := .int .i64 2) hg hne (by simp [go_sem]); have a1 := grown_cell (B := w.heap.size) (i := 1) (u := .string x) hg hne (by simp [go_sem]); clear hst hg; obtain ⟨d0, d1, d2, d3, d4, e0⟩ := HS1.out; have e00 := e0 0; have e01 := e0 1; have e02 := e0 2; have e03 := e0 3; have e04 := e0 4; have E0 : ∀ i, w1.frozen? ⟨b, i, none⟩ = false := e0)
    all_goals
      refine bodyPost_end (v := .tuple #[]) (by simp [results, Tryz.results208, go_sem, *]) rfl ⟨rfl, ?_, ?_⟩
      · refine ⟨?_, ?_, ?_, ?_, ?_, fun i => ?_⟩
        all_goals simp [Pl.ap, go_sem, *]
      · repeat (first | with_reducible exact HG0.out | with_reducible apply grown_then | with_reducible apply grown_drew | with_reducible apply grown_to | with_reducible apply grown_al | with_reducible refine grownBy_trans ?_ HG.out)
  · go_enter Tryz.func208, Tryz.ntmps208
    go_wp2_with (go_at_call 224; refine (put_any b t j g c k x _ (by repeat (first | with_reducible exact HS.out | with_reducible apply St.alloc | with_reducible apply St.drewN | with_reducible apply St.drew)) ht hx).mono ?_; rintro e w1 ⟨rfl, hst, hg⟩; have HS1 := Lib.hid hst; have HG := Lib.hid hg; have a0 := grown_cell (B := w.heap.size) (i := 0) (u := .int .i64 3) hg hne (by simp [go_sem]); have a1 := grown_cell (B := w.heap.size) (i := 1) (u := .string x) hg hne (by simp [go_sem]); clear hst hg; obtain ⟨d0, d1, d2, d3, d4, e0⟩ := HS1.out; have e00 := e0 0; have e01 := e0 1; have e02 := e0 2; have e03 := e0 3; have e04 := e0 4; have E0 : ∀ i, w1.frozen? ⟨b, i, none⟩ = false := e0)
    all_goals
      refine bodyPost_end (v := .tuple #[]) (by simp [results, Tryz.results208, go_sem, *]) rfl ⟨rfl, ?_, ?_⟩
      · refine ⟨?_, ?_, ?_, ?_, ?_, fun i => ?_⟩
        all_goals simp [Pl.ap, Pl.put, go_sem, *]
      · repeat (first | with_reducible exact HG0.out | with_reducible apply grown_then | with_reducible apply grown_drew | with_reducible apply grown_to | with_reducible apply grown_al | with_reducible refine grownBy_trans ?_ HG.out)
  · go_enter Tryz.func208, Tryz.ntmps208
    go_wp2
    go_region
    go_wp2
    all_goals
      refine bodyPost_end (v := .tuple #[]) (by simp [results, Tryz.results208, go_sem, *]) rfl ⟨rfl, ?_, ?_⟩
      · refine ⟨?_, ?_, ?_, ?_, ?_, fun i => ?_⟩
        all_goals simp [Pl.ap, go_sem, *]
      · repeat (first | with_reducible exact HG0.out | with_reducible apply grown_then | with_reducible apply grown_drew | with_reducible apply grown_to | with_reducible apply grown_al)
  · cases g
    · go_enter Tryz.func208, Tryz.ntmps208
      go_wp2_with (go_at_call 225; refine (glue_any b t j false c k x _ (by repeat (first | with_reducible exact HS.out | with_reducible apply St.alloc | with_reducible apply St.drewN | with_reducible apply St.drew)) ht hx).mono ?_; rintro e w1 ⟨rfl, hst, hg⟩; have HS1 := Lib.hid hst; have HG := Lib.hid hg; have a0 := grown_cell (B := w.heap.size) (i := 0) (u := .int .i64 5) hg hne (by simp [go_sem]); have a1 := grown_cell (B := w.heap.size) (i := 1) (u := .string x) hg hne (by simp [go_sem]); clear hst hg; obtain ⟨d0, d1, d2, d3, d4, e0⟩ := HS1.out; have e00 := e0 0; have e01 := e0 1; have e02 := e0 2; have e03 := e0 3; have e04 := e0 4; have E0 : ∀ i, w1.frozen? ⟨b, i, none⟩ = false := e0)
      all_goals
        refine bodyPost_end (v := .tuple #[]) (by simp [results, Tryz.results208, go_sem, *]) rfl ⟨rfl, ?_, ?_⟩
        · refine ⟨?_, ?_, ?_, ?_, ?_, fun i => ?_⟩
          all_goals simp [Pl.ap, Pl.glued, Pl.put, go_sem, *]
        · repeat (first | with_reducible exact HG0.out | with_reducible apply grown_then | with_reducible apply grown_drew | with_reducible apply grown_to | with_reducible apply grown_al | with_reducible refine grownBy_trans ?_ HG.out)
    · go_enter Tryz.func208, Tryz.ntmps208
      go_wp2_with (go_at_call 225; refine (glue_any b t j true c k x _ (by repeat (first | with_reducible exact HS.out | with_reducible apply St.alloc | with_reducible apply St.drewN | with_reducible apply St.drew)) ht hx).mono ?_; rintro e w1 ⟨rfl, hst, hg⟩; have HS1 := Lib.hid hst; have HG := Lib.hid hg; have a0 := grown_cell (B := w.heap.size) (i := 0) (u := .int .i64 5) hg hne (by simp [go_sem]); have a1 := grown_cell (B := w.heap.size) (i := 1) (u := .string x) hg hne (by simp [go_sem]); clear hst hg; obtain ⟨d0, d1, d2, d3, d4, e0⟩ := HS1.out; have e00 := e0 0; have e01 := e0 1; have e02 := e0 2; have e03 := e0 3; have e04 := e0 4; have E0 : ∀ i, w1.frozen? ⟨b, i, none⟩ = false := e0)
      all_goals
        refine bodyPost_end (v := .tuple #[]) (by simp [results, Tryz.results208, go_sem, *]) rfl ⟨rfl, ?_, ?_⟩
        · refine ⟨?_, ?_, ?_, ?_, ?_, fun i => ?_⟩
          all_goals simp [Pl.ap, Pl.glued, go_sem, *]
        · repeat (first | with_reducible exact HG0.out | with_reducible apply grown_then | with_reducible apply grown_drew | with_reducible apply grown_to | with_reducible apply grown_al | with_reducible refine grownBy_trans ?_ HG.out)
  · go_enter Tryz.func208, Tryz.ntmps208
    go_wp2
    go_region
    go_wp2
    all_goals
      refine bodyPost_end (v := .tuple #[]) (by simp [results, Tryz.results208, go_sem, *]) rfl ⟨rfl, ?_, ?_⟩
      · refine ⟨?_, ?_, ?_, ?_, ?_, fun i => ?_⟩
        all_goals simp [Pl.ap, go_sem, *]
      · repeat (first | with_reducible exact HG0.out | with_reducible apply grown_then | with_reducible apply grown_drew | with_reducible apply grown_to | with_reducible apply grown_al)
  · go_enter Tryz.func208, Tryz.ntmps208
    go_wp2
    go_region
    go_wp2
    all_goals
      refine bodyPost_end (v := .tuple #[]) (by simp [results, Tryz.results208, go_sem, *]) rfl ⟨rfl, ?_, ?_⟩
      · refine ⟨?_, ?_, ?_, ?_, ?_, fun i => ?_⟩
        all_goals simp [Pl.ap, go_sem, *]
      · repeat (first | with_reducible exact HG0.out | with_reducible apply grown_then | with_reducible apply grown_drew | with_reducible apply grown_to | with_reducible apply grown_al)
  · go_enter Tryz.func208, Tryz.ntmps208
    go_wp2
    all_goals
      refine bodyPost_ret (v := .tuple #[]) (by simp [results, Tryz.results208, go_sem, *]) rfl ⟨rfl, ?_, ?_⟩
      · refine ⟨?_, ?_, ?_, ?_, ?_, fun i => ?_⟩
        all_goals simp [Pl.ap, go_sem, *]
      · repeat (first | with_reducible exact HG0.out | with_reducible apply grown_then | with_reducible apply grown_drew | with_reducible apply grown_to | with_reducible apply grown_al)
  · go_enter Tryz.func208, Tryz.ntmps208
    go_wp2
    all_goals
      refine bodyPost_ret (v := .tuple #[]) (by simp [results, Tryz.results208, go_sem, *]) rfl ⟨rfl, ?_, ?_⟩
      · refine ⟨?_, ?_, ?_, ?_, ?_, fun i => ?_⟩
        all_goals simp [Pl.ap, go_sem, *]
      · repeat (first | with_reducible exact HG0.out | with_reducible apply grown_then | with_reducible apply grown_drew | with_reducible apply grown_to | with_reducible apply grown_al)
  · exact apply10_any b t j g c k x w HS.out ht h0 h1

end Go.Proofs.YtdidgaibgkdjoaaGreatDoor
