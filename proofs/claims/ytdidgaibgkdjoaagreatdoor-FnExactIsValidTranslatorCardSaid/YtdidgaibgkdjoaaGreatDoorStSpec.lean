/-
  CONTRACTS: l12Put and l12Apply of the reference.
-/
import Derived.Test.YtdidgaibgkdjoaaGreatDoorStSpec2
import Derived.Deep.RegionLaw
import Derived.Deep.DeepCutAuto
namespace Go.Proofs.YtdidgaibgkdjoaaGreatDoor
open Go.RowKit

set_option maxRecDepth 20000 in
set_option maxHeartbeats 1600000 in
theorem l12Put_yes (t : ByteArray) (g : Bool) (c k : Int) (x : ByteArray) (w : World) (ht : t.size ≤ 1048576) (hx : x.size ≤ 1048576) :
    Calls Tryz.prog 160 #[.agg #[.string t, .bool true, .bool g, .int .i64 c, .int .i64 k], .string x] w fun e w' => e = .returned (.agg #[.string (t ++ Pl.caseB c x), .bool true, .bool g, .int .i64 0, .int .i64 t.size]) ∧ Below w.heap.size w w' := by
  have hadd := fun W : World => run_string_add_sum (P := Tryz.prog) W t (Pl.caseB c x) (by rw [Pl.caseB_size]; omega)
  go_enter Tryz.func160, Tryz.ntmps160
  go_wp2
  go_region_law (first | (go_simp; (go_at_call 162; refine (l12Case_any _ _ _ hx).mono ?_; rintro e w1 ⟨rfl, hb1⟩; have hcf := bcell hb1; have hz1 := hb1.size; (repeat (first | simp only [World.size_alloc] at hz1 hcf | simp only [size_setCell] at hz1 hcf | simp only [size_drewN] at hz1 hcf | simp only [size_drew] at hz1 hcf)); obtain ⟨hc1, hf1⟩ := hcf; have hq0 : (w1.cell? ⟨w.heap.size, 0, none⟩).isSome = true := (by rw [hc1 _ _ (by omega)]; first | done | (simp [go_sem]; done) | (simp [go_sem, *]; done)); have hq1 : (w1.cell? ⟨w.heap.size, 1, none⟩).isSome = true := (by rw [hc1 _ _ (by omega)]; first | done | (simp [go_sem]; done) | (simp [go_sem, *]; done)); have hq2 : (w1.cell? ⟨w.heap.size, 2, none⟩).isSome = true := (by rw [hc1 _ _ (by omega)]; first | done | (simp [go_sem]; done) | (simp [go_sem, *]; done)); have hq3 : (w1.cell? ⟨w.heap.size, 3, none⟩).isSome = true := (by rw [hc1 _ _ (by omega)]; first | done | (simp [go_sem]; done) | (simp [go_sem, *]; done)); have hq4 : (w1.cell? ⟨w.heap.size, 4, none⟩).isSome = true := (by rw [hc1 _ _ (by omega)]; first | done | (simp [go_sem]; done) | (simp [go_sem, *]; done)); (try have hn1a : _ < w1.heap.size := Nat.lt_of_lt_of_le hn1a (by omega)); (try have hn1b : _ < w1.heap.size := Nat.lt_of_lt_of_le hn1b (by omega)); (try have hn1c : _ < w1.heap.size := Nat.lt_of_lt_of_le hn1c (by omega)); (try have hn1d : _ < w1.heap.size := Nat.lt_of_lt_of_le hn1d (by omega)); (try have hn1e : _ < w1.heap.size := Nat.lt_of_lt_of_le hn1e (by omega)); (try have ho1a : _ < w1.heap.size := Nat.lt_of_lt_of_le ho1a (by omega)); (try have ho1b : _ < w1.heap.size := Nat.lt_of_lt_of_le ho1b (by omega)); (try have ho1c : _ < w1.heap.size := Nat.lt_of_lt_of_le ho1c (by omega)); (try have ho1d : _ < w1.heap.size := Nat.lt_of_lt_of_le ho1d (by omega)); (try have ho1e : _ < w1.heap.size := Nat.lt_of_lt_of_le ho1e (by omega)); (try have ho1a := hn1a); (try have ho1b := hn1b); (try have ho1c := hn1c); (try have ho1d := hn1d); (try have ho1e := hn1e); (try have hn1a := Nat.lt_of_succ_le hz1); (try have hn1b := Nat.lt_of_succ_lt hn1a); (try have hn1c := Nat.lt_of_succ_lt hn1b); (try have hn1d := Nat.lt_of_succ_lt hn1c); (try have hn1e := Nat.lt_of_succ_lt hn1d); (try have htA : w.heap.size < w1.heap.size := by omega))))
  all_goals go_wp2
  all_goals
    refine bodyPost_ret (v := .agg #[.string (t ++ Pl.caseB c x), .bool true, .bool g, .int .i64 0, .int .i64 t.size]) (by simp [results, Tryz.results160, go_sem, *]) rfl ⟨rfl, (by repeat (first | with_reducible exact Below.refl _ _ | with_reducible assumption | with_reducible refine Below.alloc ?_ ?_ _ | with_reducible refine Below.setCell ?_ ?_ _ | with_reducible refine Below.drew ?_ | with_reducible refine below_drewN ?_ _ | with_reducible refine Below.trans ?_ (Below.mono (by assumption) ?_) | omega | ((repeat (first | rw [World.size_alloc] | rw [size_setCell] | rw [size_drewN] | rw [size_drew])); omega) | exact Nat.le_refl _ | (dsimp only; omega) | (simp [World.setCell]; omega)))⟩

set_option maxRecDepth 20000 in
set_option maxHeartbeats 1600000 in
theorem l12Put_no (t : ByteArray) (g : Bool) (c k : Int) (x : ByteArray) (w : World) (ht : t.size ≤ 1048576) (hx : x.size ≤ 1048576) :
    Calls Tryz.prog 160 #[.agg #[.string t, .bool false, .bool g, .int .i64 c, .int .i64 k], .string x] w fun e w' => e = .returned (.agg #[.string ((t ++ ⟨#[32]⟩) ++ Pl.caseB c x), .bool false, .bool g, .int .i64 0, .int .i64 ((t ++ ⟨#[32]⟩ : ByteArray).size : Nat)]) ∧ Below w.heap.size w w' := by
  have hz := Pl.size_sp t
  have hadd := fun W : World => run_string_add_sum (P := Tryz.prog) W (t ++ ⟨#[32]⟩) (Pl.caseB c x) (by rw [Pl.caseB_size, hz]; omega)
  go_enter Tryz.func160, Tryz.ntmps160
  go_wp2
  go_region_law (first | (go_simp; (go_at_call 162; refine (l12Case_any _ _ _ hx).mono ?_; rintro e w1 ⟨rfl, hb1⟩; have hcf := bcell hb1; have hz1 := hb1.size; (repeat (first | simp only [World.size_alloc] at hz1 hcf | simp only [size_setCell] at hz1 hcf | simp only [size_drewN] at hz1 hcf | simp only [size_drew] at hz1 hcf)); obtain ⟨hc1, hf1⟩ := hcf; have hq0 : (w1.cell? ⟨w.heap.size, 0, none⟩).isSome = true := (by rw [hc1 _ _ (by omega)]; first | done | (simp [go_sem]; done) | (simp [go_sem, *]; done)); have hq1 : (w1.cell? ⟨w.heap.size, 1, none⟩).isSome = true := (by rw [hc1 _ _ (by omega)]; first | done | (simp [go_sem]; done) | (simp [go_sem, *]; done)); have hq2 : (w1.cell? ⟨w.heap.size, 2, none⟩).isSome = true := (by rw [hc1 _ _ (by omega)]; first | done | (simp [go_sem]; done) | (simp [go_sem, *]; done)); have hq3 : (w1.cell? ⟨w.heap.size, 3, none⟩).isSome = true := (by rw [hc1 _ _ (by omega)]; first | done | (simp [go_sem]; done) | (simp [go_sem, *]; done)); have hq4 : (w1.cell? ⟨w.heap.size, 4, none⟩).isSome = true := (by rw [hc1 _ _ (by omega)]; first | done | (simp [go_sem]; done) | (simp [go_sem, *]; done)); (try have hn1a : _ < w1.heap.size := Nat.lt_of_lt_of_le hn1a (by omega)); (try have hn1b : _ < w1.heap.size := Nat.lt_of_lt_of_le hn1b (by omega)); (try have hn1c : _ < w1.heap.size := Nat.lt_of_lt_of_le hn1c (by omega)); (try have hn1d : _ < w1.heap.size := Nat.lt_of_lt_of_le hn1d (by omega)); (try have hn1e : _ < w1.heap.size := Nat.lt_of_lt_of_le hn1e (by omega)); (try have ho1a : _ < w1.heap.size := Nat.lt_of_lt_of_le ho1a (by omega)); (try have ho1b : _ < w1.heap.size := Nat.lt_of_lt_of_le ho1b (by omega)); (try have ho1c : _ < w1.heap.size := Nat.lt_of_lt_of_le ho1c (by omega)); (try have ho1d : _ < w1.heap.size := Nat.lt_of_lt_of_le ho1d (by omega)); (try have ho1e : _ < w1.heap.size := Nat.lt_of_lt_of_le ho1e (by omega)); (try have ho1a := hn1a); (try have ho1b := hn1b); (try have ho1c := hn1c); (try have ho1d := hn1d); (try have ho1e := hn1e); (try have hn1a := Nat.lt_of_succ_le hz1); (try have hn1b := Nat.lt_of_succ_lt hn1a); (try have hn1c := Nat.lt_of_succ_lt hn1b); (try have hn1d := Nat.lt_of_succ_lt hn1c); (try have hn1e := Nat.lt_of_succ_lt hn1d); (try have htA : w.heap.size < w1.heap.size := by omega))))
  all_goals go_wp2
  all_goals
    refine bodyPost_ret (v := .agg #[.string ((t ++ ⟨#[32]⟩) ++ Pl.caseB c x), .bool false, .bool g, .int .i64 0, .int .i64 ((t ++ ⟨#[32]⟩ : ByteArray).size : Nat)]) (by simp [results, Tryz.results160, go_sem, *]) rfl ⟨rfl, (by repeat (first | with_reducible exact Below.refl _ _ | with_reducible assumption | with_reducible refine Below.alloc ?_ ?_ _ | with_reducible refine Below.setCell ?_ ?_ _ | with_reducible refine Below.drew ?_ | with_reducible refine below_drewN ?_ _ | with_reducible refine Below.trans ?_ (Below.mono (by assumption) ?_) | omega | ((repeat (first | rw [World.size_alloc] | rw [size_setCell] | rw [size_drewN] | rw [size_drew])); omega) | exact Nat.le_refl _ | (dsimp only; omega) | (simp [World.setCell]; omega)))⟩


set_option maxRecDepth 20000 in
set_option maxHeartbeats 3200000 in
theorem l12Apply_any (t : ByteArray) (j g : Bool) (c k : Int) (a : Int) (x : ByteArray) (w : World) (ht : t.size ≤ 1048576) (hx : x.size ≤ 1048576) (h0 : 0 ≤ k) (h1 : k ≤ t.size) (ha : Pl.atomOk a x = true) :
    Calls Tryz.prog 127 #[.agg #[.string t, .bool j, .bool g, .int .i64 c, .int .i64 k], .agg #[.int .i64 a, .string x]] w fun e w' => e = .returned (.agg #[.string (Pl.ap ⟨t, j, g, c, k⟩ a x).t, .bool (Pl.ap ⟨t, j, g, c, k⟩ a x).j, .bool (Pl.ap ⟨t, j, g, c, k⟩ a x).g, .int .i64 (Pl.ap ⟨t, j, g, c, k⟩ a x).c, .int .i64 (Pl.ap ⟨t, j, g, c, k⟩ a x).k]) ∧ Below w.heap.size w w' := by
  have hadd := fun W : World => run_string_add_sum (P := Tryz.prog) W t x (by omega)
  have hc := Pl.atomOk_cases ha
  clear ha
  rcases hc with rfl | rfl | rfl | rfl | rfl | rfl | rfl | rfl | rfl | rfl
  · cases j
    · have HP := Lib.hid (fun W => l12Put_no t g c k x W ht hx)
      generalize hX : (t ++ ⟨#[32]⟩) ++ Pl.caseB c x = X at HP
      generalize hZ : (((t ++ ⟨#[32]⟩ : ByteArray).size : Nat) : Int) = Z at HP
      have HX := Lib.hid hX; have HZ := Lib.hid hZ
      clear hX hZ
      go_enter Tryz.func127, Tryz.ntmps127
      go_upto_region 5 with (go_at_call 160; refine (HP.out _).mono ?_; rintro e w1 ⟨rfl, hb1⟩; have hcf := bcell hb1; have hz1 := hb1.size; (repeat (first | simp only [World.size_alloc] at hz1 hcf | simp only [size_setCell] at hz1 hcf)); obtain ⟨hc1, hf1⟩ := hcf; (have q0 : (w1.cell? ⟨w.heap.size, 0, none⟩).isSome = true := (by rw [hc1 _ _ (by omega)]; simp [go_sem])); (have q1 : (w1.cell? ⟨w.heap.size, 1, none⟩).isSome = true := (by rw [hc1 _ _ (by omega)]; simp [go_sem])); (have q2 : (w1.cell? ⟨w.heap.size, 2, none⟩).isSome = true := (by rw [hc1 _ _ (by omega)]; simp [go_sem])); (have q3 : (w1.cell? ⟨w.heap.size, 3, none⟩).isSome = true := (by rw [hc1 _ _ (by omega)]; simp [go_sem])); (have q4 : (w1.cell? ⟨w.heap.size, 4, none⟩).isSome = true := (by rw [hc1 _ _ (by omega)]; simp [go_sem])))
      refine wp_named fun W hW => ?_
      have e0 : W.cell? ⟨w.heap.size, 0, none⟩ = some (.string X) := by rw [hW]; simp [go_sem, *]
      have e1 : W.cell? ⟨w.heap.size, 1, none⟩ = some (.bool false) := by rw [hW]; simp [go_sem, *]
      have e2 : W.cell? ⟨w.heap.size, 2, none⟩ = some (.bool g) := by rw [hW]; simp [go_sem, *]
      have e3 : W.cell? ⟨w.heap.size, 3, none⟩ = some (.int .i64 0) := by rw [hW]; simp [go_sem, *]
      have e4 : W.cell? ⟨w.heap.size, 4, none⟩ = some (.int .i64 Z) := by rw [hW]; simp [go_sem, *]
      have a0 : W.cell? ⟨w.heap.size + 1, 0, none⟩ = some (.int .i64 1) := by rw [hW]; simp [go_sem, *]
      have z0 : W.cell? ⟨w.heap.size + 1 + 1, 0, none⟩ = some (.string ⟨#[]⟩) := by rw [hW]; simp [go_sem, *]
      have z1 : W.cell? ⟨w.heap.size + 1 + 1, 1, none⟩ = some (.bool false) := by rw [hW]; simp [go_sem, *]
      have z2 : W.cell? ⟨w.heap.size + 1 + 1, 2, none⟩ = some (.bool false) := by rw [hW]; simp [go_sem, *]
      have z3 : W.cell? ⟨w.heap.size + 1 + 1, 3, none⟩ = some (.int .i64 0) := by rw [hW]; simp [go_sem, *]
      have z4 : W.cell? ⟨w.heap.size + 1 + 1, 4, none⟩ = some (.int .i64 0) := by rw [hW]; simp [go_sem, *]
      have fz0 : ∀ i, W.frozen? ⟨w.heap.size, i, none⟩ = false := fun i => by rw [hW]; simp [go_sem, *]
      have fz : ∀ i, W.frozen? ⟨w.heap.size + 1 + 1, i, none⟩ = false := fun i => by rw [hW]; simp [go_sem, *]
      have HB : Hid (Below w.heap.size w W) := Lib.hid (by rw [hW]; exact (by repeat (first | with_reducible exact Below.refl _ _ | with_reducible assumption | with_reducible refine Below.alloc ?_ ?_ _ | with_reducible refine Below.setCell ?_ ?_ _ | with_reducible refine Below.drew ?_ | with_reducible refine below_drewN ?_ _ | with_reducible refine Below.trans ?_ (Below.mono (by assumption) ?_) | omega | ((repeat (first | rw [World.size_alloc] | rw [size_setCell] | rw [size_drewN] | rw [size_drew])); omega) | exact Nat.le_refl _ | (dsimp only; omega) | (simp [World.setCell]; omega))))
      clear hW hc1 hf1 hz1 hb1 q0 q1 q2 q3 q4
      go_wp2
      all_goals
        have hB := HB.out
        refine bodyPost_ret (v := .agg #[.string X, .bool false, .bool false, .int .i64 0, .int .i64 Z]) (by simp [results, Tryz.results127, go_sem, *]) rfl ⟨by have hX := HX.out; have hZ := HZ.out; subst hX; subst hZ; rfl, (by repeat (first | with_reducible exact Below.refl _ _ | with_reducible assumption | with_reducible refine Below.alloc ?_ ?_ _ | with_reducible refine Below.setCell ?_ ?_ _ | with_reducible refine Below.drew ?_ | with_reducible refine below_drewN ?_ _ | with_reducible refine Below.trans ?_ (Below.mono (by assumption) ?_) | omega | ((repeat (first | rw [World.size_alloc] | rw [size_setCell] | rw [size_drewN] | rw [size_drew])); omega) | exact Nat.le_refl _ | (dsimp only; omega) | (simp [World.setCell]; omega)))⟩
    · have HP := Lib.hid (fun W => l12Put_yes t g c k x W ht hx)
      generalize hX : t ++ Pl.caseB c x = X at HP
      generalize hZ : ((t.size : Nat) : Int) = Z at HP
      have HX := Lib.hid hX; have HZ := Lib.hid hZ
      clear hX hZ
      go_enter Tryz.func127, Tryz.ntmps127
      go_upto_region 5 with (go_at_call 160; refine (HP.out _).mono ?_; rintro e w1 ⟨rfl, hb1⟩; have hcf := bcell hb1; have hz1 := hb1.size; (repeat (first | simp only [World.size_alloc] at hz1 hcf | simp only [size_setCell] at hz1 hcf)); obtain ⟨hc1, hf1⟩ := hcf; (have q0 : (w1.cell? ⟨w.heap.size, 0, none⟩).isSome = true := (by rw [hc1 _ _ (by omega)]; simp [go_sem])); (have q1 : (w1.cell? ⟨w.heap.size, 1, none⟩).isSome = true := (by rw [hc1 _ _ (by omega)]; simp [go_sem])); (have q2 : (w1.cell? ⟨w.heap.size, 2, none⟩).isSome = true := (by rw [hc1 _ _ (by omega)]; simp [go_sem])); (have q3 : (w1.cell? ⟨w.heap.size, 3, none⟩).isSome = true := (by rw [hc1 _ _ (by omega)]; simp [go_sem])); (have q4 : (w1.cell? ⟨w.heap.size, 4, none⟩).isSome = true := (by rw [hc1 _ _ (by omega)]; simp [go_sem])))
      refine wp_named fun W hW => ?_
      have e0 : W.cell? ⟨w.heap.size, 0, none⟩ = some (.string X) := by rw [hW]; simp [go_sem, *]
      have e1 : W.cell? ⟨w.heap.size, 1, none⟩ = some (.bool true) := by rw [hW]; simp [go_sem, *]
      have e2 : W.cell? ⟨w.heap.size, 2, none⟩ = some (.bool g) := by rw [hW]; simp [go_sem, *]
      have e3 : W.cell? ⟨w.heap.size, 3, none⟩ = some (.int .i64 0) := by rw [hW]; simp [go_sem, *]
      have e4 : W.cell? ⟨w.heap.size, 4, none⟩ = some (.int .i64 Z) := by rw [hW]; simp [go_sem, *]
      have a0 : W.cell? ⟨w.heap.size + 1, 0, none⟩ = some (.int .i64 1) := by rw [hW]; simp [go_sem, *]
      have z0 : W.cell? ⟨w.heap.size + 1 + 1, 0, none⟩ = some (.string ⟨#[]⟩) := by rw [hW]; simp [go_sem, *]
      have z1 : W.cell? ⟨w.heap.size + 1 + 1, 1, none⟩ = some (.bool false) := by rw [hW]; simp [go_sem, *]
      have z2 : W.cell? ⟨w.heap.size + 1 + 1, 2, none⟩ = some (.bool false) := by rw [hW]; simp [go_sem, *]
      have z3 : W.cell? ⟨w.heap.size + 1 + 1, 3, none⟩ = some (.int .i64 0) := by rw [hW]; simp [go_sem, *]
      have z4 : W.cell? ⟨w.heap.size + 1 + 1, 4, none⟩ = some (.int .i64 0) := by rw [hW]; simp [go_sem, *]
      have fz0 : ∀ i, W.frozen? ⟨w.heap.size, i, none⟩ = false := fun i => by rw [hW]; simp [go_sem, *]
      have fz : ∀ i, W.frozen? ⟨w.heap.size + 1 + 1, i, none⟩ = false := fun i => by rw [hW]; simp [go_sem, *]
      have HB : Hid (Below w.heap.size w W) := Lib.hid (by rw [hW]; exact (by repeat (first | with_reducible exact Below.refl _ _ | with_reducible assumption | with_reducible refine Below.alloc ?_ ?_ _ | with_reducible refine Below.setCell ?_ ?_ _ | with_reducible refine Below.drew ?_ | with_reducible refine below_drewN ?_ _ | with_reducible refine Below.trans ?_ (Below.mono (by assumption) ?_) | omega | ((repeat (first | rw [World.size_alloc] | rw [size_setCell] | rw [size_drewN] | rw [size_drew])); omega) | exact Nat.le_refl _ | (dsimp only; omega) | (simp [World.setCell]; omega))))
      clear hW hc1 hf1 hz1 hb1 q0 q1 q2 q3 q4
      go_wp2
      all_goals
        have hB := HB.out
        refine bodyPost_ret (v := .agg #[.string X, .bool false, .bool false, .int .i64 0, .int .i64 Z]) (by simp [results, Tryz.results127, go_sem, *]) rfl ⟨by have hX := HX.out; have hZ := HZ.out; subst hX; subst hZ; rfl, (by repeat (first | with_reducible exact Below.refl _ _ | with_reducible assumption | with_reducible refine Below.alloc ?_ ?_ _ | with_reducible refine Below.setCell ?_ ?_ _ | with_reducible refine Below.drew ?_ | with_reducible refine below_drewN ?_ _ | with_reducible refine Below.trans ?_ (Below.mono (by assumption) ?_) | omega | ((repeat (first | rw [World.size_alloc] | rw [size_setCell] | rw [size_drewN] | rw [size_drew])); omega) | exact Nat.le_refl _ | (dsimp only; omega) | (simp [World.setCell]; omega)))⟩
  · exact l12Apply_2 t j g c k x w ht hx h0 h1
  · cases j
    · have HP := Lib.hid (fun W => l12Put_no t g c k x W ht hx)
      generalize hX : (t ++ ⟨#[32]⟩) ++ Pl.caseB c x = X at HP
      generalize hZ : (((t ++ ⟨#[32]⟩ : ByteArray).size : Nat) : Int) = Z at HP
      have HX := Lib.hid hX; have HZ := Lib.hid hZ
      clear hX hZ
      go_enter Tryz.func127, Tryz.ntmps127
      go_upto_region 5 with (go_at_call 160; refine (HP.out _).mono ?_; rintro e w1 ⟨rfl, hb1⟩; have hcf := bcell hb1; have hz1 := hb1.size; (repeat (first | simp only [World.size_alloc] at hz1 hcf | simp only [size_setCell] at hz1 hcf)); obtain ⟨hc1, hf1⟩ := hcf; (have q0 : (w1.cell? ⟨w.heap.size, 0, none⟩).isSome = true := (by rw [hc1 _ _ (by omega)]; simp [go_sem])); (have q1 : (w1.cell? ⟨w.heap.size, 1, none⟩).isSome = true := (by rw [hc1 _ _ (by omega)]; simp [go_sem])); (have q2 : (w1.cell? ⟨w.heap.size, 2, none⟩).isSome = true := (by rw [hc1 _ _ (by omega)]; simp [go_sem])); (have q3 : (w1.cell? ⟨w.heap.size, 3, none⟩).isSome = true := (by rw [hc1 _ _ (by omega)]; simp [go_sem])); (have q4 : (w1.cell? ⟨w.heap.size, 4, none⟩).isSome = true := (by rw [hc1 _ _ (by omega)]; simp [go_sem])))
      refine wp_named fun W hW => ?_
      have e0 : W.cell? ⟨w.heap.size, 0, none⟩ = some (.string X) := by rw [hW]; simp [go_sem, *]
      have e1 : W.cell? ⟨w.heap.size, 1, none⟩ = some (.bool false) := by rw [hW]; simp [go_sem, *]
      have e2 : W.cell? ⟨w.heap.size, 2, none⟩ = some (.bool g) := by rw [hW]; simp [go_sem, *]
      have e3 : W.cell? ⟨w.heap.size, 3, none⟩ = some (.int .i64 0) := by rw [hW]; simp [go_sem, *]
      have e4 : W.cell? ⟨w.heap.size, 4, none⟩ = some (.int .i64 Z) := by rw [hW]; simp [go_sem, *]
      have a0 : W.cell? ⟨w.heap.size + 1, 0, none⟩ = some (.int .i64 3) := by rw [hW]; simp [go_sem, *]
      have z0 : W.cell? ⟨w.heap.size + 1 + 1, 0, none⟩ = some (.string ⟨#[]⟩) := by rw [hW]; simp [go_sem, *]
      have z1 : W.cell? ⟨w.heap.size + 1 + 1, 1, none⟩ = some (.bool false) := by rw [hW]; simp [go_sem, *]
      have z2 : W.cell? ⟨w.heap.size + 1 + 1, 2, none⟩ = some (.bool false) := by rw [hW]; simp [go_sem, *]
      have z3 : W.cell? ⟨w.heap.size + 1 + 1, 3, none⟩ = some (.int .i64 0) := by rw [hW]; simp [go_sem, *]
      have z4 : W.cell? ⟨w.heap.size + 1 + 1, 4, none⟩ = some (.int .i64 0) := by rw [hW]; simp [go_sem, *]
      have fz0 : ∀ i, W.frozen? ⟨w.heap.size, i, none⟩ = false := fun i => by rw [hW]; simp [go_sem, *]
      have fz : ∀ i, W.frozen? ⟨w.heap.size + 1 + 1, i, none⟩ = false := fun i => by rw [hW]; simp [go_sem, *]
      have HB : Hid (Below w.heap.size w W) := Lib.hid (by rw [hW]; exact (by repeat (first | with_reducible exact Below.refl _ _ | with_reducible assumption | with_reducible refine Below.alloc ?_ ?_ _ | with_reducible refine Below.setCell ?_ ?_ _ | with_reducible refine Below.drew ?_ | with_reducible refine below_drewN ?_ _ | with_reducible refine Below.trans ?_ (Below.mono (by assumption) ?_) | omega | ((repeat (first | rw [World.size_alloc] | rw [size_setCell] | rw [size_drewN] | rw [size_drew])); omega) | exact Nat.le_refl _ | (dsimp only; omega) | (simp [World.setCell]; omega))))
      clear hW hc1 hf1 hz1 hb1 q0 q1 q2 q3 q4
      go_wp2
      all_goals
        have hB := HB.out
        refine bodyPost_ret (v := .agg #[.string X, .bool true, .bool false, .int .i64 0, .int .i64 Z]) (by simp [results, Tryz.results127, go_sem, *]) rfl ⟨by have hX := HX.out; have hZ := HZ.out; subst hX; subst hZ; rfl, (by repeat (first | with_reducible exact Below.refl _ _ | with_reducible assumption | with_reducible refine Below.alloc ?_ ?_ _ | with_reducible refine Below.setCell ?_ ?_ _ | with_reducible refine Below.drew ?_ | with_reducible refine below_drewN ?_ _ | with_reducible refine Below.trans ?_ (Below.mono (by assumption) ?_) | omega | ((repeat (first | rw [World.size_alloc] | rw [size_setCell] | rw [size_drewN] | rw [size_drew])); omega) | exact Nat.le_refl _ | (dsimp only; omega) | (simp [World.setCell]; omega)))⟩
    · have HP := Lib.hid (fun W => l12Put_yes t g c k x W ht hx)
      generalize hX : t ++ Pl.caseB c x = X at HP
      generalize hZ : ((t.size : Nat) : Int) = Z at HP
      have HX := Lib.hid hX; have HZ := Lib.hid hZ
      clear hX hZ
      go_enter Tryz.func127, Tryz.ntmps127
      go_upto_region 5 with (go_at_call 160; refine (HP.out _).mono ?_; rintro e w1 ⟨rfl, hb1⟩; have hcf := bcell hb1; have hz1 := hb1.size; (repeat (first | simp only [World.size_alloc] at hz1 hcf | simp only [size_setCell] at hz1 hcf)); obtain ⟨hc1, hf1⟩ := hcf; (have q0 : (w1.cell? ⟨w.heap.size, 0, none⟩).isSome = true := (by rw [hc1 _ _ (by omega)]; simp [go_sem])); (have q1 : (w1.cell? ⟨w.heap.size, 1, none⟩).isSome = true := (by rw [hc1 _ _ (by omega)]; simp [go_sem])); (have q2 : (w1.cell? ⟨w.heap.size, 2, none⟩).isSome = true := (by rw [hc1 _ _ (by omega)]; simp [go_sem])); (have q3 : (w1.cell? ⟨w.heap.size, 3, none⟩).isSome = true := (by rw [hc1 _ _ (by omega)]; simp [go_sem])); (have q4 : (w1.cell? ⟨w.heap.size, 4, none⟩).isSome = true := (by rw [hc1 _ _ (by omega)]; simp [go_sem])))
      refine wp_named fun W hW => ?_
      have e0 : W.cell? ⟨w.heap.size, 0, none⟩ = some (.string X) := by rw [hW]; simp [go_sem, *]
      have e1 : W.cell? ⟨w.heap.size, 1, none⟩ = some (.bool true) := by rw [hW]; simp [go_sem, *]
      have e2 : W.cell? ⟨w.heap.size, 2, none⟩ = some (.bool g) := by rw [hW]; simp [go_sem, *]
      have e3 : W.cell? ⟨w.heap.size, 3, none⟩ = some (.int .i64 0) := by rw [hW]; simp [go_sem, *]
      have e4 : W.cell? ⟨w.heap.size, 4, none⟩ = some (.int .i64 Z) := by rw [hW]; simp [go_sem, *]
      have a0 : W.cell? ⟨w.heap.size + 1, 0, none⟩ = some (.int .i64 3) := by rw [hW]; simp [go_sem, *]
      have z0 : W.cell? ⟨w.heap.size + 1 + 1, 0, none⟩ = some (.string ⟨#[]⟩) := by rw [hW]; simp [go_sem, *]
      have z1 : W.cell? ⟨w.heap.size + 1 + 1, 1, none⟩ = some (.bool false) := by rw [hW]; simp [go_sem, *]
      have z2 : W.cell? ⟨w.heap.size + 1 + 1, 2, none⟩ = some (.bool false) := by rw [hW]; simp [go_sem, *]
      have z3 : W.cell? ⟨w.heap.size + 1 + 1, 3, none⟩ = some (.int .i64 0) := by rw [hW]; simp [go_sem, *]
      have z4 : W.cell? ⟨w.heap.size + 1 + 1, 4, none⟩ = some (.int .i64 0) := by rw [hW]; simp [go_sem, *]
      have fz0 : ∀ i, W.frozen? ⟨w.heap.size, i, none⟩ = false := fun i => by rw [hW]; simp [go_sem, *]
      have fz : ∀ i, W.frozen? ⟨w.heap.size + 1 + 1, i, none⟩ = false := fun i => by rw [hW]; simp [go_sem, *]
      have HB : Hid (Below w.heap.size w W) := Lib.hid (by rw [hW]; exact (by repeat (first | with_reducible exact Below.refl _ _ | with_reducible assumption | with_reducible refine Below.alloc ?_ ?_ _ | with_reducible refine Below.setCell ?_ ?_ _ | with_reducible refine Below.drew ?_ | with_reducible refine below_drewN ?_ _ | with_reducible refine Below.trans ?_ (Below.mono (by assumption) ?_) | omega | ((repeat (first | rw [World.size_alloc] | rw [size_setCell] | rw [size_drewN] | rw [size_drew])); omega) | exact Nat.le_refl _ | (dsimp only; omega) | (simp [World.setCell]; omega))))
      clear hW hc1 hf1 hz1 hb1 q0 q1 q2 q3 q4
      go_wp2
      all_goals
        have hB := HB.out
        refine bodyPost_ret (v := .agg #[.string X, .bool true, .bool false, .int .i64 0, .int .i64 Z]) (by simp [results, Tryz.results127, go_sem, *]) rfl ⟨by have hX := HX.out; have hZ := HZ.out; subst hX; subst hZ; rfl, (by repeat (first | with_reducible exact Below.refl _ _ | with_reducible assumption | with_reducible refine Below.alloc ?_ ?_ _ | with_reducible refine Below.setCell ?_ ?_ _ | with_reducible refine Below.drew ?_ | with_reducible refine below_drewN ?_ _ | with_reducible refine Below.trans ?_ (Below.mono (by assumption) ?_) | omega | ((repeat (first | rw [World.size_alloc] | rw [size_setCell] | rw [size_drewN] | rw [size_drew])); omega) | exact Nat.le_refl _ | (dsimp only; omega) | (simp [World.setCell]; omega)))⟩
  · go_enter Tryz.func127, Tryz.ntmps127
    go_wp2
    refine bodyPost_ret (v := .agg #[.string (t ++ x), .bool true, .bool false, .int .i64 c, .int .i64 k]) (by simp [results, Tryz.results127, go_sem, *]) rfl ⟨rfl, (by repeat (first | with_reducible exact Below.refl _ _ | with_reducible assumption | with_reducible refine Below.alloc ?_ ?_ _ | with_reducible refine Below.setCell ?_ ?_ _ | with_reducible refine Below.drew ?_ | with_reducible refine below_drewN ?_ _ | with_reducible refine Below.trans ?_ (Below.mono (by assumption) ?_) | omega | ((repeat (first | rw [World.size_alloc] | rw [size_setCell] | rw [size_drewN] | rw [size_drew])); omega) | exact Nat.le_refl _ | (dsimp only; omega) | (simp [World.setCell]; omega)))⟩
  · cases g
    · cases j
      · have HP := Lib.hid (fun W => l12Put_no t false c k x W ht hx)
        generalize hX : (t ++ ⟨#[32]⟩) ++ Pl.caseB c x = X at HP
        generalize hZ : (((t ++ ⟨#[32]⟩ : ByteArray).size : Nat) : Int) = Z at HP
        have HX := Lib.hid hX; have HZ := Lib.hid hZ
        clear hX hZ
        go_enter Tryz.func127, Tryz.ntmps127
        go_upto_region 13 with (go_at_call 160; refine (HP.out _).mono ?_; rintro e w1 ⟨rfl, hb1⟩; have hcf := bcell hb1; have hz1 := hb1.size; (repeat (first | simp only [World.size_alloc] at hz1 hcf | simp only [size_setCell] at hz1 hcf)); obtain ⟨hc1, hf1⟩ := hcf; (have q0 : (w1.cell? ⟨w.heap.size, 0, none⟩).isSome = true := (by rw [hc1 _ _ (by omega)]; simp [go_sem])); (have q1 : (w1.cell? ⟨w.heap.size, 1, none⟩).isSome = true := (by rw [hc1 _ _ (by omega)]; simp [go_sem])); (have q2 : (w1.cell? ⟨w.heap.size, 2, none⟩).isSome = true := (by rw [hc1 _ _ (by omega)]; simp [go_sem])); (have q3 : (w1.cell? ⟨w.heap.size, 3, none⟩).isSome = true := (by rw [hc1 _ _ (by omega)]; simp [go_sem])); (have q4 : (w1.cell? ⟨w.heap.size, 4, none⟩).isSome = true := (by rw [hc1 _ _ (by omega)]; simp [go_sem])))
        refine wp_named fun W hW => ?_
        have e0 : W.cell? ⟨w.heap.size, 0, none⟩ = some (.string X) := by rw [hW]; simp [go_sem, *]
        have e1 : W.cell? ⟨w.heap.size, 1, none⟩ = some (.bool false) := by rw [hW]; simp [go_sem, *]
        have e2 : W.cell? ⟨w.heap.size, 2, none⟩ = some (.bool false) := by rw [hW]; simp [go_sem, *]
        have e3 : W.cell? ⟨w.heap.size, 3, none⟩ = some (.int .i64 0) := by rw [hW]; simp [go_sem, *]
        have e4 : W.cell? ⟨w.heap.size, 4, none⟩ = some (.int .i64 Z) := by rw [hW]; simp [go_sem, *]
        have a0 : W.cell? ⟨w.heap.size + 1, 0, none⟩ = some (.int .i64 5) := by rw [hW]; simp [go_sem, *]
        have z0 : W.cell? ⟨w.heap.size + 1 + 1, 0, none⟩ = some (.string ⟨#[]⟩) := by rw [hW]; simp [go_sem, *]
        have z1 : W.cell? ⟨w.heap.size + 1 + 1, 1, none⟩ = some (.bool false) := by rw [hW]; simp [go_sem, *]
        have z2 : W.cell? ⟨w.heap.size + 1 + 1, 2, none⟩ = some (.bool false) := by rw [hW]; simp [go_sem, *]
        have z3 : W.cell? ⟨w.heap.size + 1 + 1, 3, none⟩ = some (.int .i64 0) := by rw [hW]; simp [go_sem, *]
        have z4 : W.cell? ⟨w.heap.size + 1 + 1, 4, none⟩ = some (.int .i64 0) := by rw [hW]; simp [go_sem, *]
        have fz0 : ∀ i, W.frozen? ⟨w.heap.size, i, none⟩ = false := fun i => by rw [hW]; simp [go_sem, *]
        have fz : ∀ i, W.frozen? ⟨w.heap.size + 1 + 1, i, none⟩ = false := fun i => by rw [hW]; simp [go_sem, *]
        have HB : Hid (Below w.heap.size w W) := Lib.hid (by rw [hW]; exact (by repeat (first | with_reducible exact Below.refl _ _ | with_reducible assumption | with_reducible refine Below.alloc ?_ ?_ _ | with_reducible refine Below.setCell ?_ ?_ _ | with_reducible refine Below.drew ?_ | with_reducible refine below_drewN ?_ _ | with_reducible refine Below.trans ?_ (Below.mono (by assumption) ?_) | omega | ((repeat (first | rw [World.size_alloc] | rw [size_setCell] | rw [size_drewN] | rw [size_drew])); omega) | exact Nat.le_refl _ | (dsimp only; omega) | (simp [World.setCell]; omega))))
        clear hW hc1 hf1 hz1 hb1 q0 q1 q2 q3 q4
        go_wp2
        all_goals
          have hB := HB.out
          refine bodyPost_ret (v := .agg #[.string X, .bool false, .bool true, .int .i64 0, .int .i64 Z]) (by simp [results, Tryz.results127, go_sem, *]) rfl ⟨by have hX := HX.out; have hZ := HZ.out; subst hX; subst hZ; rfl, (by repeat (first | with_reducible exact Below.refl _ _ | with_reducible assumption | with_reducible refine Below.alloc ?_ ?_ _ | with_reducible refine Below.setCell ?_ ?_ _ | with_reducible refine Below.drew ?_ | with_reducible refine below_drewN ?_ _ | with_reducible refine Below.trans ?_ (Below.mono (by assumption) ?_) | omega | ((repeat (first | rw [World.size_alloc] | rw [size_setCell] | rw [size_drewN] | rw [size_drew])); omega) | exact Nat.le_refl _ | (dsimp only; omega) | (simp [World.setCell]; omega)))⟩
      · have HP := Lib.hid (fun W => l12Put_yes t false c k x W ht hx)
        generalize hX : t ++ Pl.caseB c x = X at HP
        generalize hZ : ((t.size : Nat) : Int) = Z at HP
        have HX := Lib.hid hX; have HZ := Lib.hid hZ
        clear hX hZ
        go_enter Tryz.func127, Tryz.ntmps127
        go_upto_region 13 with (go_at_call 160; refine (HP.out _).mono ?_; rintro e w1 ⟨rfl, hb1⟩; have hcf := bcell hb1; have hz1 := hb1.size; (repeat (first | simp only [World.size_alloc] at hz1 hcf | simp only [size_setCell] at hz1 hcf)); obtain ⟨hc1, hf1⟩ := hcf; (have q0 : (w1.cell? ⟨w.heap.size, 0, none⟩).isSome = true := (by rw [hc1 _ _ (by omega)]; simp [go_sem])); (have q1 : (w1.cell? ⟨w.heap.size, 1, none⟩).isSome = true := (by rw [hc1 _ _ (by omega)]; simp [go_sem])); (have q2 : (w1.cell? ⟨w.heap.size, 2, none⟩).isSome = true := (by rw [hc1 _ _ (by omega)]; simp [go_sem])); (have q3 : (w1.cell? ⟨w.heap.size, 3, none⟩).isSome = true := (by rw [hc1 _ _ (by omega)]; simp [go_sem])); (have q4 : (w1.cell? ⟨w.heap.size, 4, none⟩).isSome = true := (by rw [hc1 _ _ (by omega)]; simp [go_sem])))
        refine wp_named fun W hW => ?_
        have e0 : W.cell? ⟨w.heap.size, 0, none⟩ = some (.string X) := by rw [hW]; simp [go_sem, *]
        have e1 : W.cell? ⟨w.heap.size, 1, none⟩ = some (.bool true) := by rw [hW]; simp [go_sem, *]
        have e2 : W.cell? ⟨w.heap.size, 2, none⟩ = some (.bool false) := by rw [hW]; simp [go_sem, *]
        have e3 : W.cell? ⟨w.heap.size, 3, none⟩ = some (.int .i64 0) := by rw [hW]; simp [go_sem, *]
        have e4 : W.cell? ⟨w.heap.size, 4, none⟩ = some (.int .i64 Z) := by rw [hW]; simp [go_sem, *]
        have a0 : W.cell? ⟨w.heap.size + 1, 0, none⟩ = some (.int .i64 5) := by rw [hW]; simp [go_sem, *]
        have z0 : W.cell? ⟨w.heap.size + 1 + 1, 0, none⟩ = some (.string ⟨#[]⟩) := by rw [hW]; simp [go_sem, *]
        have z1 : W.cell? ⟨w.heap.size + 1 + 1, 1, none⟩ = some (.bool false) := by rw [hW]; simp [go_sem, *]
        have z2 : W.cell? ⟨w.heap.size + 1 + 1, 2, none⟩ = some (.bool false) := by rw [hW]; simp [go_sem, *]
        have z3 : W.cell? ⟨w.heap.size + 1 + 1, 3, none⟩ = some (.int .i64 0) := by rw [hW]; simp [go_sem, *]
        have z4 : W.cell? ⟨w.heap.size + 1 + 1, 4, none⟩ = some (.int .i64 0) := by rw [hW]; simp [go_sem, *]
        have fz0 : ∀ i, W.frozen? ⟨w.heap.size, i, none⟩ = false := fun i => by rw [hW]; simp [go_sem, *]
        have fz : ∀ i, W.frozen? ⟨w.heap.size + 1 + 1, i, none⟩ = false := fun i => by rw [hW]; simp [go_sem, *]
        have HB : Hid (Below w.heap.size w W) := Lib.hid (by rw [hW]; exact (by repeat (first | with_reducible exact Below.refl _ _ | with_reducible assumption | with_reducible refine Below.alloc ?_ ?_ _ | with_reducible refine Below.setCell ?_ ?_ _ | with_reducible refine Below.drew ?_ | with_reducible refine below_drewN ?_ _ | with_reducible refine Below.trans ?_ (Below.mono (by assumption) ?_) | omega | ((repeat (first | rw [World.size_alloc] | rw [size_setCell] | rw [size_drewN] | rw [size_drew])); omega) | exact Nat.le_refl _ | (dsimp only; omega) | (simp [World.setCell]; omega))))
        clear hW hc1 hf1 hz1 hb1 q0 q1 q2 q3 q4
        go_wp2
        all_goals
          have hB := HB.out
          refine bodyPost_ret (v := .agg #[.string X, .bool false, .bool true, .int .i64 0, .int .i64 Z]) (by simp [results, Tryz.results127, go_sem, *]) rfl ⟨by have hX := HX.out; have hZ := HZ.out; subst hX; subst hZ; rfl, (by repeat (first | with_reducible exact Below.refl _ _ | with_reducible assumption | with_reducible refine Below.alloc ?_ ?_ _ | with_reducible refine Below.setCell ?_ ?_ _ | with_reducible refine Below.drew ?_ | with_reducible refine below_drewN ?_ _ | with_reducible refine Below.trans ?_ (Below.mono (by assumption) ?_) | omega | ((repeat (first | rw [World.size_alloc] | rw [size_setCell] | rw [size_drewN] | rw [size_drew])); omega) | exact Nat.le_refl _ | (dsimp only; omega) | (simp [World.setCell]; omega)))⟩
    · have HP := Lib.hid (fun W => l12Put_yes t true c k x W ht hx)
      generalize hX : t ++ Pl.caseB c x = X at HP
      generalize hZ : ((t.size : Nat) : Int) = Z at HP
      have HX := Lib.hid hX; have HZ := Lib.hid hZ
      clear hX hZ
      go_enter Tryz.func127, Tryz.ntmps127
      go_upto_region 13 with (go_at_call 160; refine (HP.out _).mono ?_; rintro e w1 ⟨rfl, hb1⟩; have hcf := bcell hb1; have hz1 := hb1.size; (repeat (first | simp only [World.size_alloc] at hz1 hcf | simp only [size_setCell] at hz1 hcf)); obtain ⟨hc1, hf1⟩ := hcf; (have q0 : (w1.cell? ⟨w.heap.size, 0, none⟩).isSome = true := (by rw [hc1 _ _ (by omega)]; simp [go_sem])); (have q1 : (w1.cell? ⟨w.heap.size, 1, none⟩).isSome = true := (by rw [hc1 _ _ (by omega)]; simp [go_sem])); (have q2 : (w1.cell? ⟨w.heap.size, 2, none⟩).isSome = true := (by rw [hc1 _ _ (by omega)]; simp [go_sem])); (have q3 : (w1.cell? ⟨w.heap.size, 3, none⟩).isSome = true := (by rw [hc1 _ _ (by omega)]; simp [go_sem])); (have q4 : (w1.cell? ⟨w.heap.size, 4, none⟩).isSome = true := (by rw [hc1 _ _ (by omega)]; simp [go_sem])))
      refine wp_named fun W hW => ?_
      have e0 : W.cell? ⟨w.heap.size, 0, none⟩ = some (.string X) := by rw [hW]; simp [go_sem, *]
      have e1 : W.cell? ⟨w.heap.size, 1, none⟩ = some (.bool true) := by rw [hW]; simp [go_sem, *]
      have e2 : W.cell? ⟨w.heap.size, 2, none⟩ = some (.bool true) := by rw [hW]; simp [go_sem, *]
      have e3 : W.cell? ⟨w.heap.size, 3, none⟩ = some (.int .i64 0) := by rw [hW]; simp [go_sem, *]
      have e4 : W.cell? ⟨w.heap.size, 4, none⟩ = some (.int .i64 Z) := by rw [hW]; simp [go_sem, *]
      have a0 : W.cell? ⟨w.heap.size + 1, 0, none⟩ = some (.int .i64 5) := by rw [hW]; simp [go_sem, *]
      have z0 : W.cell? ⟨w.heap.size + 1 + 1, 0, none⟩ = some (.string ⟨#[]⟩) := by rw [hW]; simp [go_sem, *]
      have z1 : W.cell? ⟨w.heap.size + 1 + 1, 1, none⟩ = some (.bool false) := by rw [hW]; simp [go_sem, *]
      have z2 : W.cell? ⟨w.heap.size + 1 + 1, 2, none⟩ = some (.bool false) := by rw [hW]; simp [go_sem, *]
      have z3 : W.cell? ⟨w.heap.size + 1 + 1, 3, none⟩ = some (.int .i64 0) := by rw [hW]; simp [go_sem, *]
      have z4 : W.cell? ⟨w.heap.size + 1 + 1, 4, none⟩ = some (.int .i64 0) := by rw [hW]; simp [go_sem, *]
      have fz0 : ∀ i, W.frozen? ⟨w.heap.size, i, none⟩ = false := fun i => by rw [hW]; simp [go_sem, *]
      have fz : ∀ i, W.frozen? ⟨w.heap.size + 1 + 1, i, none⟩ = false := fun i => by rw [hW]; simp [go_sem, *]
      have HB : Hid (Below w.heap.size w W) := Lib.hid (by rw [hW]; exact (by repeat (first | with_reducible exact Below.refl _ _ | with_reducible assumption | with_reducible refine Below.alloc ?_ ?_ _ | with_reducible refine Below.setCell ?_ ?_ _ | with_reducible refine Below.drew ?_ | with_reducible refine below_drewN ?_ _ | with_reducible refine Below.trans ?_ (Below.mono (by assumption) ?_) | omega | ((repeat (first | rw [World.size_alloc] | rw [size_setCell] | rw [size_drewN] | rw [size_drew])); omega) | exact Nat.le_refl _ | (dsimp only; omega) | (simp [World.setCell]; omega))))
      clear hW hc1 hf1 hz1 hb1 q0 q1 q2 q3 q4
      go_wp2
      all_goals
        have hB := HB.out
        refine bodyPost_ret (v := .agg #[.string X, .bool false, .bool true, .int .i64 0, .int .i64 k]) (by simp [results, Tryz.results127, go_sem, *]) rfl ⟨by have hX := HX.out; have hZ := HZ.out; subst hX; subst hZ; rfl, (by repeat (first | with_reducible exact Below.refl _ _ | with_reducible assumption | with_reducible refine Below.alloc ?_ ?_ _ | with_reducible refine Below.setCell ?_ ?_ _ | with_reducible refine Below.drew ?_ | with_reducible refine below_drewN ?_ _ | with_reducible refine Below.trans ?_ (Below.mono (by assumption) ?_) | omega | ((repeat (first | rw [World.size_alloc] | rw [size_setCell] | rw [size_drewN] | rw [size_drew])); omega) | exact Nat.le_refl _ | (dsimp only; omega) | (simp [World.setCell]; omega)))⟩
  · go_enter Tryz.func127, Tryz.ntmps127
    go_wp2
    refine bodyPost_ret (v := .agg #[.string (t ++ x), .bool false, .bool false, .int .i64 1, .int .i64 k]) (by simp [results, Tryz.results127, go_sem, *]) rfl ⟨rfl, (by repeat (first | with_reducible exact Below.refl _ _ | with_reducible assumption | with_reducible refine Below.alloc ?_ ?_ _ | with_reducible refine Below.setCell ?_ ?_ _ | with_reducible refine Below.drew ?_ | with_reducible refine below_drewN ?_ _ | with_reducible refine Below.trans ?_ (Below.mono (by assumption) ?_) | omega | ((repeat (first | rw [World.size_alloc] | rw [size_setCell] | rw [size_drewN] | rw [size_drew])); omega) | exact Nat.le_refl _ | (dsimp only; omega) | (simp [World.setCell]; omega)))⟩
  · go_enter Tryz.func127, Tryz.ntmps127
    go_wp2
    refine bodyPost_ret (v := .agg #[.string (t ++ x), .bool false, .bool false, .int .i64 c, .int .i64 k]) (by simp [results, Tryz.results127, go_sem, *]) rfl ⟨rfl, (by repeat (first | with_reducible exact Below.refl _ _ | with_reducible assumption | with_reducible refine Below.alloc ?_ ?_ _ | with_reducible refine Below.setCell ?_ ?_ _ | with_reducible refine Below.drew ?_ | with_reducible refine below_drewN ?_ _ | with_reducible refine Below.trans ?_ (Below.mono (by assumption) ?_) | omega | ((repeat (first | rw [World.size_alloc] | rw [size_setCell] | rw [size_drewN] | rw [size_drew])); omega) | exact Nat.le_refl _ | (dsimp only; omega) | (simp [World.setCell]; omega)))⟩
  · go_enter Tryz.func127, Tryz.ntmps127
    go_wp2
    refine bodyPost_ret (v := .agg #[.string t, .bool j, .bool g, .int .i64 1, .int .i64 k]) (by simp [results, Tryz.results127, go_sem, *]) rfl ⟨rfl, (by repeat (first | with_reducible exact Below.refl _ _ | with_reducible assumption | with_reducible refine Below.alloc ?_ ?_ _ | with_reducible refine Below.setCell ?_ ?_ _ | with_reducible refine Below.drew ?_ | with_reducible refine below_drewN ?_ _ | with_reducible refine Below.trans ?_ (Below.mono (by assumption) ?_) | omega | ((repeat (first | rw [World.size_alloc] | rw [size_setCell] | rw [size_drewN] | rw [size_drew])); omega) | exact Nat.le_refl _ | (dsimp only; omega) | (simp [World.setCell]; omega)))⟩
  · go_enter Tryz.func127, Tryz.ntmps127
    go_wp2
    refine bodyPost_ret (v := .agg #[.string t, .bool j, .bool g, .int .i64 2, .int .i64 k]) (by simp [results, Tryz.results127, go_sem, *]) rfl ⟨rfl, (by repeat (first | with_reducible exact Below.refl _ _ | with_reducible assumption | with_reducible refine Below.alloc ?_ ?_ _ | with_reducible refine Below.setCell ?_ ?_ _ | with_reducible refine Below.drew ?_ | with_reducible refine below_drewN ?_ _ | with_reducible refine Below.trans ?_ (Below.mono (by assumption) ?_) | omega | ((repeat (first | rw [World.size_alloc] | rw [size_setCell] | rw [size_drewN] | rw [size_drew])); omega) | exact Nat.le_refl _ | (dsimp only; omega) | (simp [World.setCell]; omega)))⟩
  · exact l12Apply_10 t j g c k x w ht h0 h1

end Go.Proofs.YtdidgaibgkdjoaaGreatDoor
