/-
  CONTRACT: l12Apply of the reference at a suffix and at the atom that turns the last word's first letter.
-/
import Derived.Test.YtdidgaibgkdjoaaGreatDoorStBlock
import Derived.Deep.RegionLaw
import Derived.Deep.DeepCutAuto
import Derived.Deep.CutBlock
import Derived.Outline
namespace Go.Proofs.YtdidgaibgkdjoaaGreatDoor
open Go.RowKit

theorem wp_named {P : Program} {c : Code} {Q : Exit → Act → World → Prop} {a : Act} {w : World} (h : ∀ W, W = w → c.wp P Q a W) : c.wp P Q a w := h w rfl

set_option maxRecDepth 20000 in
set_option maxHeartbeats 1600000 in
theorem l12Apply_2 (t : ByteArray) (j g : Bool) (c k : Int) (x : ByteArray) (w : World) (ht : t.size ≤ 1048576) (hx : x.size ≤ 1048576) (h0 : 0 ≤ k) (h1 : k ≤ t.size) :
    Calls Tryz.prog 127 #[.agg #[.string t, .bool j, .bool g, .int .i64 c, .int .i64 k], .agg #[.int .i64 2, .string x]] w fun e w' => e = .returned (.agg #[.string (Pl.ap ⟨t, j, g, c, k⟩ 2 x).t, .bool (Pl.ap ⟨t, j, g, c, k⟩ 2 x).j, .bool (Pl.ap ⟨t, j, g, c, k⟩ 2 x).g, .int .i64 (Pl.ap ⟨t, j, g, c, k⟩ 2 x).c, .int .i64 (Pl.ap ⟨t, j, g, c, k⟩ 2 x).k]) ∧ Below w.heap.size w w' := by
  have hadd := fun W : World => run_string_add_sum (P := Tryz.prog) W t x (by omega)
  have hx' : x.size ≤ maxLen := by unfold maxLen; omega
  have hm : (t.extract k.toNat t.size).size ≤ maxLen := by rw [ByteArray.size_extract]; unfold maxLen; omega
  have HJ := Lib.hid (fun W => specJoinSuffix_any (t.extract k.toNat t.size) x W hm hx')
  have hj := Pl.joinOut_size (t.extract k.toNat t.size) x
  have E : Hid (Pl.ended t k x = if Pl.joinOk (t.extract k.toNat t.size) x = true then t.extract 0 k.toNat ++ Pl.joinOut (t.extract k.toNat t.size) x else t ++ x) := Lib.hid rfl
  have HY := Lib.hid (fun W : World => run_string_add_sum (P := Tryz.prog) W (t.extract 0 k.toNat) (Pl.joinOut (t.extract k.toNat t.size) x) (by rw [ByteArray.size_extract]; omega))
  have E2 : Hid (Pl.ap ⟨t, j, g, c, k⟩ 2 x = ⟨Pl.ended t k x, false, false, c, k⟩) := Lib.hid rfl
  generalize Pl.joinOut (t.extract k.toNat t.size) x = jo at E HJ hj HY
  generalize Pl.joinOk (t.extract k.toNat t.size) x = ok at E HJ
  clear hm
  cases ok
  · rw [if_neg (by decide)] at E
    go_enter Tryz.func127, Tryz.ntmps127
    go_wp2
    go_quiet ((go_at_call 161; exact quiet_eq (HJ.out _)))
    go_upto_region 23 with fail
    refine wp_named fun W hW => ?_
    have e0 : W.cell? ⟨w.heap.size, 0, none⟩ = some (.string (t)) := by rw [hW]; simp [go_sem, *]
    have e1 : W.cell? ⟨w.heap.size, 1, none⟩ = some (.bool j) := by rw [hW]; simp [go_sem, *]
    have e2 : W.cell? ⟨w.heap.size, 2, none⟩ = some (.bool g) := by rw [hW]; simp [go_sem, *]
    have e3 : W.cell? ⟨w.heap.size, 3, none⟩ = some (.int .i64 c) := by rw [hW]; simp [go_sem, *]
    have e4 : W.cell? ⟨w.heap.size, 4, none⟩ = some (.int .i64 k) := by rw [hW]; simp [go_sem, *]
    have a0 : W.cell? ⟨w.heap.size + 1, 0, none⟩ = some (.int .i64 2) := by rw [hW]; simp [go_sem, *]
    have a1 : W.cell? ⟨w.heap.size + 1, 1, none⟩ = some (.string x) := by rw [hW]; simp [go_sem, *]
    have z0 : W.cell? ⟨w.heap.size + 1 + 1, 0, none⟩ = some (.string ⟨#[]⟩) := by rw [hW]; simp [go_sem, *]
    have z1 : W.cell? ⟨w.heap.size + 1 + 1, 1, none⟩ = some (.bool false) := by rw [hW]; simp [go_sem, *]
    have z2 : W.cell? ⟨w.heap.size + 1 + 1, 2, none⟩ = some (.bool false) := by rw [hW]; simp [go_sem, *]
    have z3 : W.cell? ⟨w.heap.size + 1 + 1, 3, none⟩ = some (.int .i64 0) := by rw [hW]; simp [go_sem, *]
    have z4 : W.cell? ⟨w.heap.size + 1 + 1, 4, none⟩ = some (.int .i64 0) := by rw [hW]; simp [go_sem, *]
    have fz0 : ∀ i, W.frozen? ⟨w.heap.size, i, none⟩ = false := fun i => by rw [hW]; simp [go_sem, *]
    have fz : ∀ i, W.frozen? ⟨w.heap.size + 1 + 1, i, none⟩ = false := fun i => by rw [hW]; simp [go_sem, *]
    have HB : Hid (Below w.heap.size w W) := Lib.hid (by rw [hW]; exact (by repeat (first | with_reducible exact Below.refl _ _ | with_reducible assumption | with_reducible refine Below.alloc ?_ ?_ _ | with_reducible refine Below.setCell ?_ ?_ _ | with_reducible refine Below.drew ?_ | with_reducible refine below_drewN ?_ _ | with_reducible refine Below.trans ?_ (Below.mono (by assumption) ?_) | omega | ((repeat (first | rw [World.size_alloc] | rw [size_setCell] | rw [size_drewN] | rw [size_drew])); omega) | exact Nat.le_refl _ | (dsimp only; omega) | (simp [World.setCell]; omega))))
    clear hW
    go_wp2
    have hB := HB.out
    refine bodyPost_ret (v := .agg #[.string (t ++ x), .bool false, .bool false, .int .i64 c, .int .i64 k]) (by simp [results, Tryz.results127, go_sem, *]) rfl ⟨by rw [E2.out, E.out], (by repeat (first | with_reducible exact Below.refl _ _ | with_reducible assumption | with_reducible refine Below.alloc ?_ ?_ _ | with_reducible refine Below.setCell ?_ ?_ _ | with_reducible refine Below.drew ?_ | with_reducible refine below_drewN ?_ _ | with_reducible refine Below.trans ?_ (Below.mono (by assumption) ?_) | omega | ((repeat (first | rw [World.size_alloc] | rw [size_setCell] | rw [size_drewN] | rw [size_drew])); omega) | exact Nat.le_refl _ | (dsimp only; omega) | (simp [World.setCell]; omega)))⟩
  · rw [if_pos rfl] at E
    have hadd2 := HY.out
    go_enter Tryz.func127, Tryz.ntmps127
    go_wp2
    go_quiet ((go_at_call 161; exact quiet_eq (HJ.out _)))
    go_upto_region 23 with fail
    refine wp_named fun W hW => ?_
    have e0 : W.cell? ⟨w.heap.size, 0, none⟩ = some (.string (t)) := by rw [hW]; simp [go_sem, *]
    have e1 : W.cell? ⟨w.heap.size, 1, none⟩ = some (.bool j) := by rw [hW]; simp [go_sem, *]
    have e2 : W.cell? ⟨w.heap.size, 2, none⟩ = some (.bool g) := by rw [hW]; simp [go_sem, *]
    have e3 : W.cell? ⟨w.heap.size, 3, none⟩ = some (.int .i64 c) := by rw [hW]; simp [go_sem, *]
    have e4 : W.cell? ⟨w.heap.size, 4, none⟩ = some (.int .i64 k) := by rw [hW]; simp [go_sem, *]
    have a0 : W.cell? ⟨w.heap.size + 1, 0, none⟩ = some (.int .i64 2) := by rw [hW]; simp [go_sem, *]
    have a1 : W.cell? ⟨w.heap.size + 1, 1, none⟩ = some (.string x) := by rw [hW]; simp [go_sem, *]
    have z0 : W.cell? ⟨w.heap.size + 1 + 1, 0, none⟩ = some (.string ⟨#[]⟩) := by rw [hW]; simp [go_sem, *]
    have z1 : W.cell? ⟨w.heap.size + 1 + 1, 1, none⟩ = some (.bool false) := by rw [hW]; simp [go_sem, *]
    have z2 : W.cell? ⟨w.heap.size + 1 + 1, 2, none⟩ = some (.bool false) := by rw [hW]; simp [go_sem, *]
    have z3 : W.cell? ⟨w.heap.size + 1 + 1, 3, none⟩ = some (.int .i64 0) := by rw [hW]; simp [go_sem, *]
    have z4 : W.cell? ⟨w.heap.size + 1 + 1, 4, none⟩ = some (.int .i64 0) := by rw [hW]; simp [go_sem, *]
    have fz0 : ∀ i, W.frozen? ⟨w.heap.size, i, none⟩ = false := fun i => by rw [hW]; simp [go_sem, *]
    have fz : ∀ i, W.frozen? ⟨w.heap.size + 1 + 1, i, none⟩ = false := fun i => by rw [hW]; simp [go_sem, *]
    have HB : Hid (Below w.heap.size w W) := Lib.hid (by rw [hW]; exact (by repeat (first | with_reducible exact Below.refl _ _ | with_reducible assumption | with_reducible refine Below.alloc ?_ ?_ _ | with_reducible refine Below.setCell ?_ ?_ _ | with_reducible refine Below.drew ?_ | with_reducible refine below_drewN ?_ _ | with_reducible refine Below.trans ?_ (Below.mono (by assumption) ?_) | omega | ((repeat (first | rw [World.size_alloc] | rw [size_setCell] | rw [size_drewN] | rw [size_drew])); omega) | exact Nat.le_refl _ | (dsimp only; omega) | (simp [World.setCell]; omega))))
    clear hW
    go_wp2
    have hB := HB.out
    refine bodyPost_ret (v := .agg #[.string (t.extract 0 k.toNat ++ jo), .bool false, .bool false, .int .i64 c, .int .i64 k]) (by simp [results, Tryz.results127, go_sem, *]) rfl ⟨by rw [E2.out, E.out], (by repeat (first | with_reducible exact Below.refl _ _ | with_reducible assumption | with_reducible refine Below.alloc ?_ ?_ _ | with_reducible refine Below.setCell ?_ ?_ _ | with_reducible refine Below.drew ?_ | with_reducible refine below_drewN ?_ _ | with_reducible refine Below.trans ?_ (Below.mono (by assumption) ?_) | omega | ((repeat (first | rw [World.size_alloc] | rw [size_setCell] | rw [size_drewN] | rw [size_drew])); omega) | exact Nat.le_refl _ | (dsimp only; omega) | (simp [World.setCell]; omega)))⟩

set_option maxRecDepth 20000 in
set_option maxHeartbeats 1600000 in
theorem l12Apply_10 (t : ByteArray) (j g : Bool) (c k : Int) (x : ByteArray) (w : World) (ht : t.size ≤ 1048576) (h0 : 0 ≤ k) (h1 : k ≤ t.size) :
    Calls Tryz.prog 127 #[.agg #[.string t, .bool j, .bool g, .int .i64 c, .int .i64 k], .agg #[.int .i64 10, .string x]] w fun e w' => e = .returned (.agg #[.string (Pl.ap ⟨t, j, g, c, k⟩ 10 x).t, .bool (Pl.ap ⟨t, j, g, c, k⟩ 10 x).j, .bool (Pl.ap ⟨t, j, g, c, k⟩ 10 x).g, .int .i64 (Pl.ap ⟨t, j, g, c, k⟩ 10 x).c, .int .i64 (Pl.ap ⟨t, j, g, c, k⟩ 10 x).k]) ∧ Below w.heap.size w w' := by
  have hm : (t.extract k.toNat t.size).size ≤ 1048576 := by rw [ByteArray.size_extract]; omega
  have hz := Pl.up_size (t.extract k.toNat t.size)
  have hadd2 := fun W : World => run_string_add_sum (P := Tryz.prog) W (t.extract 0 k.toNat) (Pl.up (t.extract k.toNat t.size)) (by rw [hz, ByteArray.size_extract, ByteArray.size_extract]; omega)
  have E1 : Pl.caseB 1 (t.extract k.toNat t.size) = Pl.up (t.extract k.toNat t.size) := rfl
  have HL := Lib.hid (fun W => l12Case_any (t.extract k.toNat t.size) 1 W hm)
  rw [E1] at HL
  clear E1
  go_enter Tryz.func127, Tryz.ntmps127
  go_upto_block 0 with fail
  go_cut [2] (fun s2 wx => s2 = .pointer (some ⟨w.heap.size, 0, none⟩) ∧ (wx.cell? ⟨w.heap.size, 0, none⟩ = some (.string (t.extract 0 k.toNat ++ Pl.up (t.extract k.toNat t.size))) ∧ wx.cell? ⟨w.heap.size, 1, none⟩ = some (.bool j) ∧ wx.cell? ⟨w.heap.size, 2, none⟩ = some (.bool g) ∧ wx.cell? ⟨w.heap.size, 3, none⟩ = some (.int .i64 c) ∧ wx.cell? ⟨w.heap.size, 4, none⟩ = some (.int .i64 k)) ∧ (wx.cell? ⟨w.heap.size + 1 + 1, 0, none⟩ = some (.string ⟨#[]⟩) ∧ wx.cell? ⟨w.heap.size + 1 + 1, 1, none⟩ = some (.bool false) ∧ wx.cell? ⟨w.heap.size + 1 + 1, 2, none⟩ = some (.bool false) ∧ wx.cell? ⟨w.heap.size + 1 + 1, 3, none⟩ = some (.int .i64 0) ∧ wx.cell? ⟨w.heap.size + 1 + 1, 4, none⟩ = some (.int .i64 0) ∧ ∀ i, wx.frozen? ⟨w.heap.size + 1 + 1, i, none⟩ = false) ∧ Below w.heap.size w wx)
  case first =>
    go_upto_region 40 with fail
    go_region_law (first | (go_simp; (go_at_call 162; refine (HL.out _).mono ?_; rintro e w1 ⟨rfl, hb1⟩; have hcf := bcell hb1; have hz1 := hb1.size; (repeat (first | simp only [World.size_alloc] at hz1 hcf | simp only [size_setCell] at hz1 hcf | simp only [size_drewN] at hz1 hcf | simp only [size_drew] at hz1 hcf)); obtain ⟨hc1, hf1⟩ := hcf; have hq0 : (w1.cell? ⟨w.heap.size, 0, none⟩).isSome = true := (by rw [hc1 _ _ (by omega)]; first | done | (simp [go_sem]; done) | (simp [go_sem, *]; done)); have hq1 : (w1.cell? ⟨w.heap.size, 1, none⟩).isSome = true := (by rw [hc1 _ _ (by omega)]; first | done | (simp [go_sem]; done) | (simp [go_sem, *]; done)); have hq2 : (w1.cell? ⟨w.heap.size, 2, none⟩).isSome = true := (by rw [hc1 _ _ (by omega)]; first | done | (simp [go_sem]; done) | (simp [go_sem, *]; done)); have hq3 : (w1.cell? ⟨w.heap.size, 3, none⟩).isSome = true := (by rw [hc1 _ _ (by omega)]; first | done | (simp [go_sem]; done) | (simp [go_sem, *]; done)); have hq4 : (w1.cell? ⟨w.heap.size, 4, none⟩).isSome = true := (by rw [hc1 _ _ (by omega)]; first | done | (simp [go_sem]; done) | (simp [go_sem, *]; done)); (try have hn1a : _ < w1.heap.size := Nat.lt_of_lt_of_le hn1a (by omega)); (try have hn1b : _ < w1.heap.size := Nat.lt_of_lt_of_le hn1b (by omega)); (try have hn1c : _ < w1.heap.size := Nat.lt_of_lt_of_le hn1c (by omega)); (try have hn1d : _ < w1.heap.size := Nat.lt_of_lt_of_le hn1d (by omega)); (try have hn1e : _ < w1.heap.size := Nat.lt_of_lt_of_le hn1e (by omega)); (try have ho1a : _ < w1.heap.size := Nat.lt_of_lt_of_le ho1a (by omega)); (try have ho1b : _ < w1.heap.size := Nat.lt_of_lt_of_le ho1b (by omega)); (try have ho1c : _ < w1.heap.size := Nat.lt_of_lt_of_le ho1c (by omega)); (try have ho1d : _ < w1.heap.size := Nat.lt_of_lt_of_le ho1d (by omega)); (try have ho1e : _ < w1.heap.size := Nat.lt_of_lt_of_le ho1e (by omega)); (try have ho1a := hn1a); (try have ho1b := hn1b); (try have ho1c := hn1c); (try have ho1d := hn1d); (try have ho1e := hn1e); (try have hn1a := Nat.lt_of_succ_le hz1); (try have hn1b := Nat.lt_of_succ_lt hn1a); (try have hn1c := Nat.lt_of_succ_lt hn1b); (try have hn1d := Nat.lt_of_succ_lt hn1c); (try have hn1e := Nat.lt_of_succ_lt hn1d); (try have htA : w.heap.size < w1.heap.size := by omega))))
    all_goals go_wp2
    all_goals go_meet
    all_goals (case rel => exact ⟨rfl, ⟨by simp [go_sem, *], by simp [go_sem, *], by simp [go_sem, *], by simp [go_sem, *], by simp [go_sem, *]⟩, ⟨by simp [go_sem, *], by simp [go_sem, *], by simp [go_sem, *], by simp [go_sem, *], by simp [go_sem, *], fun i => by simp [go_sem, *]⟩, (by repeat (first | with_reducible exact Below.refl _ _ | with_reducible assumption | with_reducible refine Below.alloc ?_ ?_ _ | with_reducible refine Below.setCell ?_ ?_ _ | with_reducible refine Below.drew ?_ | with_reducible refine below_drewN ?_ _ | with_reducible refine Below.trans ?_ (Below.mono (by assumption) ?_) | omega | ((repeat (first | rw [World.size_alloc] | rw [size_setCell] | rw [size_drewN] | rw [size_drew])); omega) | exact Nat.le_refl _ | (dsimp only; omega) | (simp [World.setCell]; omega)))⟩)
  obtain ⟨rfl, ⟨e0, e1, e2, e3, e4⟩, ⟨z0, z1, z2, z3, z4, fz⟩, hB⟩ := hcut
  have HB := Lib.hid hB
  clear hB
  go_wp2
  have hB := HB.out
  refine bodyPost_ret (v := .agg #[.string (t.extract 0 k.toNat ++ Pl.up (t.extract k.toNat t.size)), .bool j, .bool g, .int .i64 c, .int .i64 k]) (by simp [results, Tryz.results127, go_sem, *]) rfl ⟨rfl, (by repeat (first | with_reducible exact Below.refl _ _ | with_reducible assumption | with_reducible refine Below.alloc ?_ ?_ _ | with_reducible refine Below.setCell ?_ ?_ _ | with_reducible refine Below.drew ?_ | with_reducible refine below_drewN ?_ _ | with_reducible refine Below.trans ?_ (Below.mono (by assumption) ?_) | omega | ((repeat (first | rw [World.size_alloc] | rw [size_setCell] | rw [size_drewN] | rw [size_drew])); omega) | exact Nat.le_refl _ | (dsimp only; omega) | (simp [World.setCell]; omega)))⟩

end Go.Proofs.YtdidgaibgkdjoaaGreatDoor
