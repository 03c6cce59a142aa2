/-
  CONTRACTS: IsValidState, LastWord of the program and the reference.
-/
import Derived.Test.YtmlckocmfoiobaaStrA
namespace Go.Proofs.Ytmlckocmfoiobaa
open Go.RowKit

set_option maxHeartbeats 400000 in
theorem IsValidState_any (t : ByteArray) (j g : Bool) (c k : Int) (w : World) (hs : t.size ≤ maxLen) :
    Calls Try.prog 60 #[.agg #[.string t, .bool j, .bool g, .int .i64 c, .int .i64 k]] w fun e w' => e = .returned (.bool (Pl.validState t c k)) ∧ Below w.heap.size w w' := by
  have hs' := hs
  unfold maxLen at hs
  go_enter Try.func60, Try.ntmps60
  go_wp2_with (first | (go_at_call 95; refine (in_any _ _ _ _).mono ?_; rintro e w' ⟨rfl, rfl⟩) | (go_at_call 94; refine (isPrintable_any _ _ hs').mono ?_; rintro e w' ⟨rfl, rfl⟩))
  all_goals go_ret
  all_goals exact ⟨ret_bool (by simp_all [Pl.validState]; try omega), (by repeat (first | with_reducible exact Below.refl _ _ | with_reducible assumption | with_reducible refine Below.alloc ?_ ?_ _ | with_reducible refine Below.setCell ?_ ?_ _ | with_reducible refine Below.drew ?_ | with_reducible refine below_drewN ?_ _ | with_reducible refine Below.trans ?_ (Below.mono (by assumption) ?_) | omega | ((repeat (first | rw [World.size_alloc] | rw [size_setCell] | rw [size_drewN] | rw [size_drew])); omega) | exact Nat.le_refl _ | (dsimp only; omega) | (simp [World.setCell]; omega)))⟩

set_option maxHeartbeats 400000 in
theorem l12Good_any (t : ByteArray) (j g : Bool) (c k : Int) (w : World) (hs : t.size ≤ maxLen) :
    Calls Try.prog 59 #[.agg #[.string t, .bool j, .bool g, .int .i64 c, .int .i64 k]] w fun e w' => e = .returned (.bool (Pl.validState t c k)) ∧ Below w.heap.size w w' := by
  have hs' := hs
  unfold maxLen at hs
  go_enter Try.func59, Try.ntmps59
  go_wp2_with (first | (go_at_call 87; refine (l1In_any _ _ _ _).mono ?_; rintro e w' ⟨rfl, rfl⟩) | (go_at_call 93; refine (l12Plain_any _ _ hs').mono ?_; rintro e w' ⟨rfl, rfl⟩))
  all_goals go_ret
  all_goals exact ⟨ret_bool (by simp_all [Pl.validState]; try omega), (by repeat (first | with_reducible exact Below.refl _ _ | with_reducible assumption | with_reducible refine Below.alloc ?_ ?_ _ | with_reducible refine Below.setCell ?_ ?_ _ | with_reducible refine Below.drew ?_ | with_reducible refine below_drewN ?_ _ | with_reducible refine Below.trans ?_ (Below.mono (by assumption) ?_) | omega | ((repeat (first | rw [World.size_alloc] | rw [size_setCell] | rw [size_drewN] | rw [size_drew])); omega) | exact Nat.le_refl _ | (dsimp only; omega) | (simp [World.setCell]; omega)))⟩

set_option maxHeartbeats 400000 in
theorem l12New_any (t : ByteArray) (w : World) :
    Calls Try.prog 58 #[.string t] w fun e w' => e = .returned (.agg #[.string t, .bool t.toList.isEmpty, .bool false, .int .i64 0, .int .i64 t.size]) ∧ Below w.heap.size w w' := by
  go_enter Try.func58, Try.ntmps58
  go_wp2
  exact bodyPost_ret (v := .agg #[.string t, .bool t.toList.isEmpty, .bool false, .int .i64 0, .int .i64 t.size]) (by simp [results, Try.results58, go_sem, *]) rfl ⟨rfl, (by repeat (first | with_reducible exact Below.refl _ _ | with_reducible assumption | with_reducible refine Below.alloc ?_ ?_ _ | with_reducible refine Below.setCell ?_ ?_ _ | with_reducible refine Below.drew ?_ | with_reducible refine below_drewN ?_ _ | with_reducible refine Below.trans ?_ (Below.mono (by assumption) ?_) | omega | ((repeat (first | rw [World.size_alloc] | rw [size_setCell] | rw [size_drewN] | rw [size_drew])); omega) | exact Nat.le_refl _ | (dsimp only; omega) | (simp [World.setCell]; omega)))⟩

set_option maxHeartbeats 800000 in
theorem NewState_any (t : ByteArray) (w : World) (hs : t.size ≤ maxLen) :
    Calls Try.prog 18 #[.string t] w fun e w' => e = .returned (.tuple #[.agg #[.string (Pl.newText t), .bool (Pl.newJoined t), .bool false, .int .i64 0, .int .i64 (Pl.newWord t)], .bool (Pl.newOk t)]) ∧ Below w.heap.size w w' := by
  have hs' := hs
  unfold maxLen at hs
  have hN : Pl.validState t 0 t.size = Pl.newOk t := rfl
  cases hv : Pl.newOk t
  all_goals
    have E := Lib.hid hv
    go_enter Try.func18, Try.ntmps18
    go_wp2_with ((go_at_call 60; refine (IsValidState_any _ _ _ _ _ _ hs').mono ?_; rintro e w1 ⟨rfl, hb1⟩; have hcf := bcell hb1; have hz1 := hb1.size; (repeat (first | simp only [World.size_alloc] at hz1 hcf | simp only [size_setCell] at hz1 hcf | simp only [size_drewN] at hz1 hcf | simp only [size_drew] at hz1 hcf)); obtain ⟨hc1, hf1⟩ := hcf; have hq0 : (w1.cell? ⟨w.heap.size, 0, none⟩).isSome = true := (by rw [hc1 _ _ (by omega)]; first | done | (simp [go_sem]; done) | (simp [go_sem, *]; done)); have hq1 : (w1.cell? ⟨w.heap.size, 1, none⟩).isSome = true := (by rw [hc1 _ _ (by omega)]; first | done | (simp [go_sem]; done) | (simp [go_sem, *]; done)); have hq2 : (w1.cell? ⟨w.heap.size, 2, none⟩).isSome = true := (by rw [hc1 _ _ (by omega)]; first | done | (simp [go_sem]; done) | (simp [go_sem, *]; done)); have hq3 : (w1.cell? ⟨w.heap.size, 3, none⟩).isSome = true := (by rw [hc1 _ _ (by omega)]; first | done | (simp [go_sem]; done) | (simp [go_sem, *]; done)); have hq4 : (w1.cell? ⟨w.heap.size, 4, none⟩).isSome = true := (by rw [hc1 _ _ (by omega)]; first | done | (simp [go_sem]; done) | (simp [go_sem, *]; done)); (try have htA : w.heap.size < w1.heap.size := by omega); (try have htB : w.heap.size + 1 < w1.heap.size := by omega); (try have htC : w.heap.size + 2 < w1.heap.size := by omega)))
  · refine bodyPost_ret (v := .tuple #[.agg #[.string ⟨#[]⟩, .bool false, .bool false, .int .i64 0, .int .i64 0], .bool false]) (by simp [results, Try.results18, go_sem, *]) rfl ⟨?_, (by repeat (first | with_reducible exact Below.refl _ _ | with_reducible assumption | with_reducible refine Below.alloc ?_ ?_ _ | with_reducible refine Below.setCell ?_ ?_ _ | with_reducible refine Below.drew ?_ | with_reducible refine below_drewN ?_ _ | with_reducible refine Below.trans ?_ (Below.mono (by assumption) ?_) | omega | ((repeat (first | rw [World.size_alloc] | rw [size_setCell] | rw [size_drewN] | rw [size_drew])); omega) | exact Nat.le_refl _ | (dsimp only; omega) | (simp [World.setCell]; omega)))⟩
    unfold Pl.newText Pl.newJoined Pl.newWord; rw [E.out]; rfl
  · refine bodyPost_ret (v := .tuple #[.agg #[.string t, .bool t.toList.isEmpty, .bool false, .int .i64 0, .int .i64 t.size], .bool true]) (by simp [results, Try.results18, go_sem, *]) rfl ⟨?_, (by repeat (first | with_reducible exact Below.refl _ _ | with_reducible assumption | with_reducible refine Below.alloc ?_ ?_ _ | with_reducible refine Below.setCell ?_ ?_ _ | with_reducible refine Below.drew ?_ | with_reducible refine below_drewN ?_ _ | with_reducible refine Below.trans ?_ (Below.mono (by assumption) ?_) | omega | ((repeat (first | rw [World.size_alloc] | rw [size_setCell] | rw [size_drewN] | rw [size_drew])); omega) | exact Nat.le_refl _ | (dsimp only; omega) | (simp [World.setCell]; omega)))⟩
    unfold Pl.newText Pl.newJoined Pl.newWord; rw [E.out]; rfl

set_option maxHeartbeats 800000 in
theorem specNewState_any (t : ByteArray) (w : World) (hs : t.size ≤ maxLen) :
    Calls Try.prog 17 #[.string t] w fun e w' => e = .returned (.tuple #[.agg #[.string (Pl.newText t), .bool (Pl.newJoined t), .bool false, .int .i64 0, .int .i64 (Pl.newWord t)], .bool (Pl.newOk t)]) ∧ Below w.heap.size w w' := by
  have hs' := hs
  unfold maxLen at hs
  have hN : Pl.validState t 0 t.size = Pl.newOk t := rfl
  cases hv : Pl.newOk t
  all_goals
    have E := Lib.hid hv
    go_enter Try.func17, Try.ntmps17
    go_wp2_with (first | (go_at_call 59; refine (l12Good_any _ _ _ _ _ _ hs').mono ?_; rintro e w1 ⟨rfl, hb1⟩; have hcf := bcell hb1; have hz1 := hb1.size; (repeat (first | simp only [World.size_alloc] at hz1 hcf | simp only [size_setCell] at hz1 hcf | simp only [size_drewN] at hz1 hcf | simp only [size_drew] at hz1 hcf)); obtain ⟨hc1, hf1⟩ := hcf; have hq0 : (w1.cell? ⟨w.heap.size, 0, none⟩).isSome = true := (by rw [hc1 _ _ (by omega)]; first | done | (simp [go_sem]; done) | (simp [go_sem, *]; done)); have hq1 : (w1.cell? ⟨w.heap.size, 1, none⟩).isSome = true := (by rw [hc1 _ _ (by omega)]; first | done | (simp [go_sem]; done) | (simp [go_sem, *]; done)); have hq2 : (w1.cell? ⟨w.heap.size, 2, none⟩).isSome = true := (by rw [hc1 _ _ (by omega)]; first | done | (simp [go_sem]; done) | (simp [go_sem, *]; done)); have hq3 : (w1.cell? ⟨w.heap.size, 3, none⟩).isSome = true := (by rw [hc1 _ _ (by omega)]; first | done | (simp [go_sem]; done) | (simp [go_sem, *]; done)); have hq4 : (w1.cell? ⟨w.heap.size, 4, none⟩).isSome = true := (by rw [hc1 _ _ (by omega)]; first | done | (simp [go_sem]; done) | (simp [go_sem, *]; done)); (try have htA : w.heap.size < w1.heap.size := by omega); (try have htB : w.heap.size + 1 < w1.heap.size := by omega); (try have htC : w.heap.size + 2 < w1.heap.size := by omega); (try have htA : w2.heap.size < w1.heap.size := by omega); (try have htB : w2.heap.size + 1 < w1.heap.size := by omega); (try have htC : w2.heap.size + 2 < w1.heap.size := by omega)) | (go_at_call 58; refine (l12New_any _ _).mono ?_; rintro e w2 ⟨rfl, hb2⟩; have hcf := bcell hb2; have hz2 := hb2.size; (repeat (first | simp only [World.size_alloc] at hz2 hcf | simp only [size_setCell] at hz2 hcf | simp only [size_drewN] at hz2 hcf | simp only [size_drew] at hz2 hcf)); obtain ⟨hc2, hf2⟩ := hcf; have hq0 : (w2.cell? ⟨w.heap.size, 0, none⟩).isSome = true := (by rw [hc2 _ _ (by omega)]; first | done | (simp [go_sem]; done) | (simp [go_sem, *]; done)); have hq1 : (w2.cell? ⟨w.heap.size, 1, none⟩).isSome = true := (by rw [hc2 _ _ (by omega)]; first | done | (simp [go_sem]; done) | (simp [go_sem, *]; done)); have hq2 : (w2.cell? ⟨w.heap.size, 2, none⟩).isSome = true := (by rw [hc2 _ _ (by omega)]; first | done | (simp [go_sem]; done) | (simp [go_sem, *]; done)); have hq3 : (w2.cell? ⟨w.heap.size, 3, none⟩).isSome = true := (by rw [hc2 _ _ (by omega)]; first | done | (simp [go_sem]; done) | (simp [go_sem, *]; done)); have hq4 : (w2.cell? ⟨w.heap.size, 4, none⟩).isSome = true := (by rw [hc2 _ _ (by omega)]; first | done | (simp [go_sem]; done) | (simp [go_sem, *]; done)); (try have htA : w.heap.size < w2.heap.size := by omega); (try have htB : w.heap.size + 1 < w2.heap.size := by omega); (try have htC : w.heap.size + 2 < w2.heap.size := by omega); (try have htA : w1.heap.size < w2.heap.size := by omega); (try have htB : w1.heap.size + 1 < w2.heap.size := by omega); (try have htC : w1.heap.size + 2 < w2.heap.size := by omega)))
  · refine bodyPost_ret (v := .tuple #[.agg #[.string ⟨#[]⟩, .bool false, .bool false, .int .i64 0, .int .i64 0], .bool false]) (by simp [results, Try.results17, go_sem, *]) rfl ⟨?_, (by repeat (first | with_reducible exact Below.refl _ _ | with_reducible assumption | with_reducible refine Below.alloc ?_ ?_ _ | with_reducible refine Below.setCell ?_ ?_ _ | with_reducible refine Below.drew ?_ | with_reducible refine below_drewN ?_ _ | with_reducible refine Below.trans ?_ (Below.mono (by assumption) ?_) | omega | ((repeat (first | rw [World.size_alloc] | rw [size_setCell] | rw [size_drewN] | rw [size_drew])); omega) | exact Nat.le_refl _ | (dsimp only; omega) | (simp [World.setCell]; omega)))⟩
    unfold Pl.newText Pl.newJoined Pl.newWord; rw [E.out]; rfl
  · refine bodyPost_ret (v := .tuple #[.agg #[.string t, .bool t.toList.isEmpty, .bool false, .int .i64 0, .int .i64 t.size], .bool true]) (by simp [results, Try.results17, go_sem, *]) rfl ⟨?_, (by repeat (first | with_reducible exact Below.refl _ _ | with_reducible assumption | with_reducible refine Below.alloc ?_ ?_ _ | with_reducible refine Below.setCell ?_ ?_ _ | with_reducible refine Below.drew ?_ | with_reducible refine below_drewN ?_ _ | with_reducible refine Below.trans ?_ (Below.mono (by assumption) ?_) | omega | ((repeat (first | rw [World.size_alloc] | rw [size_setCell] | rw [size_drewN] | rw [size_drew])); omega) | exact Nat.le_refl _ | (dsimp only; omega) | (simp [World.setCell]; omega)))⟩
    unfold Pl.newText Pl.newJoined Pl.newWord; rw [E.out]; rfl

set_option maxHeartbeats 400000 in
theorem eqState_same (t : ByteArray) (j g : Bool) (c k : Int) (w : World) :
    Calls Try.prog 19 #[.agg #[.string t, .bool j, .bool g, .int .i64 c, .int .i64 k], .agg #[.string t, .bool j, .bool g, .int .i64 c, .int .i64 k]] w fun e w' => e = .returned (.bool true) ∧ Below w.heap.size w w' := by
  go_enter Try.func19, Try.ntmps19
  go_wp2
  go_ret
  exact ⟨rfl, (by repeat (first | with_reducible exact Below.refl _ _ | with_reducible assumption | with_reducible refine Below.alloc ?_ ?_ _ | with_reducible refine Below.setCell ?_ ?_ _ | with_reducible refine Below.drew ?_ | with_reducible refine below_drewN ?_ _ | with_reducible refine Below.trans ?_ (Below.mono (by assumption) ?_) | omega | ((repeat (first | rw [World.size_alloc] | rw [size_setCell] | rw [size_drewN] | rw [size_drew])); omega) | exact Nat.le_refl _ | (dsimp only; omega) | (simp [World.setCell]; omega)))⟩

end Go.Proofs.Ytmlckocmfoiobaa
