/-
  CONTRACTS: ComposeEdits, InvertEdit of the program and the reference.
-/
import Derived.Test.YtmlckocmfoiobaaEditOps
import Derived.StillTailTactics
import Derived.BigRegion
namespace Go.Proofs.Ytmlckocmfoiobaa
open Go.RowKit

set_option maxHeartbeats 800000 in
theorem ComposeEdits_any (b1 : Int) (t1 : ByteArray) (b2 : Int) (t2 : ByteArray) (w : World) (h1 : t1.size ≤ 1048576) (h2 : t2.size ≤ 1048576) :
    Calls Try.prog 25 #[.agg #[.int .i64 b1, .string t1], .agg #[.int .i64 b2, .string t2]] w fun e w' => e = .returned (.tuple #[.agg #[.int .i64 (Pl.compBackOut b1 t1 b2 t2), .string (Pl.compTextOut b1 t1 b2 t2)], .bool (Pl.compOk b1 t1 b2 t2)]) ∧ Below w.heap.size w w' := by
  have h1' : t1.size ≤ maxLen := by unfold maxLen; omega
  have h2' : t2.size ≤ maxLen := by unfold maxLen; omega
  cases hv1 : Pl.validEdit b1 t1
  · have E := Lib.hid (show Pl.compOk b1 t1 b2 t2 = false by simp [Pl.compOk, hv1])
    go_enter Try.func25, Try.ntmps25
    go_wp2_with ((go_at_call 66; refine (IsValidEdit_any _ _ _ (by assumption)).mono ?_; rintro e w1 ⟨rfl, hb1⟩; have hcf := bcell hb1; have hz1 := hb1.size; (repeat (first | simp only [World.size_alloc] at hz1 hcf | simp only [size_setCell] at hz1 hcf | simp only [size_drewN] at hz1 hcf | simp only [size_drew] at hz1 hcf)); obtain ⟨hc1, hf1⟩ := hcf; (try have htA : w.heap.size < w1.heap.size := by omega); (try have htB : w.heap.size + 1 < w1.heap.size := by omega); (try have htC : w.heap.size + 2 < w1.heap.size := by omega)))
    refine bodyPost_ret (v := .tuple #[.agg #[.int .i64 0, .string ⟨#[]⟩], .bool false]) (by simp [results, Try.results25, go_sem, *]) rfl ⟨?_, (by repeat (first | with_reducible exact Below.refl _ _ | with_reducible assumption | with_reducible refine Below.alloc ?_ ?_ _ | with_reducible refine Below.setCell ?_ ?_ _ | with_reducible refine Below.drew ?_ | with_reducible refine below_drewN ?_ _ | with_reducible refine Below.trans ?_ (Below.mono (by assumption) ?_) | omega | ((repeat (first | rw [World.size_alloc] | rw [size_setCell] | rw [size_drewN] | rw [size_drew])); omega) | exact Nat.le_refl _ | (dsimp only; omega) | (simp [World.setCell]; omega)))⟩
    unfold Pl.compBackOut Pl.compTextOut; rw [E.out]; rfl
  · cases hv2 : Pl.validEdit b2 t2
    · have E := Lib.hid (show Pl.compOk b1 t1 b2 t2 = false by simp [Pl.compOk, hv2])
      go_enter Try.func25, Try.ntmps25
      go_wp2_with ((go_at_call 66; refine (IsValidEdit_any _ _ _ (by assumption)).mono ?_; rintro e w1 ⟨rfl, hb1⟩; have hcf := bcell hb1; have hz1 := hb1.size; (repeat (first | simp only [World.size_alloc] at hz1 hcf | simp only [size_setCell] at hz1 hcf | simp only [size_drewN] at hz1 hcf | simp only [size_drew] at hz1 hcf)); obtain ⟨hc1, hf1⟩ := hcf; (try have htA : w.heap.size < w1.heap.size := by omega); (try have htB : w.heap.size + 1 < w1.heap.size := by omega); (try have htC : w.heap.size + 2 < w1.heap.size := by omega)))
      refine bodyPost_ret (v := .tuple #[.agg #[.int .i64 0, .string ⟨#[]⟩], .bool false]) (by simp [results, Try.results25, go_sem, *]) rfl ⟨?_, (by repeat (first | with_reducible exact Below.refl _ _ | with_reducible assumption | with_reducible refine Below.alloc ?_ ?_ _ | with_reducible refine Below.setCell ?_ ?_ _ | with_reducible refine Below.drew ?_ | with_reducible refine below_drewN ?_ _ | with_reducible refine Below.trans ?_ (Below.mono (by assumption) ?_) | omega | ((repeat (first | rw [World.size_alloc] | rw [size_setCell] | rw [size_drewN] | rw [size_drew])); omega) | exact Nat.le_refl _ | (dsimp only; omega) | (simp [World.setCell]; omega)))⟩
      unfold Pl.compBackOut Pl.compTextOut; rw [E.out]; rfl
    · obtain ⟨hb10, hb11⟩ := Pl.validEdit_bd hv1
      obtain ⟨hb20, hb21⟩ := Pl.validEdit_bd hv2
      have hz1 := Pl.isScreen_size (Pl.validEdit_screen hv1)
      have hz2 := Pl.isScreen_size (Pl.validEdit_screen hv2)
      have hcz := Pl.compText_size (b2 := b2) hz1 hz2
      have hcl : (Pl.compText t1 b2 t2).size ≤ maxLen := by unfold maxLen; omega
      have hex : (t1.extract 0 (t1.size - b2.toNat)).size ≤ 2000 := by simp; omega
      by_cases hle : b2 ≤ t1.size
      · have hbn : (((t1.size : Int) - b2).toNat) = t1.size - b2.toNat := by omega
        have e1 : Pl.compBack b1 t1 b2 = b1 := by unfold Pl.compBack; rw [if_pos hle]
        have e2 : t1.extract 0 (t1.size - b2.toNat) ++ t2 = Pl.compText t1 b2 t2 := by unfold Pl.compText; rw [if_pos hle]
        cases hv3 : Pl.validEdit b1 (Pl.compText t1 b2 t2)
        · have E := Lib.hid (show Pl.compOk b1 t1 b2 t2 = false by simp [Pl.compOk, e1, hv3])
          clear e1
          go_enter Try.func25, Try.ntmps25
          go_wp2_with ((go_at_call 66; refine (IsValidEdit_any _ _ _ (by assumption)).mono ?_; rintro e w1 ⟨rfl, hb1⟩; have hcf := bcell hb1; have hz1 := hb1.size; (repeat (first | simp only [World.size_alloc] at hz1 hcf | simp only [size_setCell] at hz1 hcf | simp only [size_drewN] at hz1 hcf | simp only [size_drew] at hz1 hcf)); obtain ⟨hc1, hf1⟩ := hcf; (try have htA : w.heap.size < w1.heap.size := by omega); (try have htB : w.heap.size + 1 < w1.heap.size := by omega); (try have htC : w.heap.size + 2 < w1.heap.size := by omega)))
          go_region
          go_wp2_with ((go_at_call 66; refine (IsValidEdit_any _ _ _ (by assumption)).mono ?_; rintro e w1 ⟨rfl, hb1⟩; have hcf := bcell hb1; have hz1 := hb1.size; (repeat (first | simp only [World.size_alloc] at hz1 hcf | simp only [size_setCell] at hz1 hcf | simp only [size_drewN] at hz1 hcf | simp only [size_drew] at hz1 hcf)); obtain ⟨hc1, hf1⟩ := hcf; have hq0 : (w1.cell? ⟨w.heap.size + 1 + 1, 0, none⟩).isSome = true := (by rw [hc1 _ _ (by omega)]; first | done | (simp [go_sem]; done) | (simp [go_sem, *]; done)); have hq1 : (w1.cell? ⟨w.heap.size + 1 + 1, 1, none⟩).isSome = true := (by rw [hc1 _ _ (by omega)]; first | done | (simp [go_sem]; done) | (simp [go_sem, *]; done)); (try have htA : w.heap.size < w1.heap.size := by omega); (try have htB : w.heap.size + 1 < w1.heap.size := by omega); (try have htC : w.heap.size + 2 < w1.heap.size := by omega)))
          refine bodyPost_ret (v := .tuple #[.agg #[.int .i64 0, .string ⟨#[]⟩], .bool false]) (by simp [results, Try.results25, go_sem, *]) rfl ⟨?_, (by repeat (first | with_reducible exact Below.refl _ _ | with_reducible assumption | with_reducible refine Below.alloc ?_ ?_ _ | with_reducible refine Below.setCell ?_ ?_ _ | with_reducible refine Below.drew ?_ | with_reducible refine below_drewN ?_ _ | with_reducible refine Below.trans ?_ (Below.mono (by assumption) ?_) | omega | ((repeat (first | rw [World.size_alloc] | rw [size_setCell] | rw [size_drewN] | rw [size_drew])); omega) | exact Nat.le_refl _ | (dsimp only; omega) | (simp [World.setCell]; omega)))⟩
          unfold Pl.compBackOut Pl.compTextOut; rw [E.out]; rfl
        · have E := Lib.hid (show Pl.compOk b1 t1 b2 t2 = true by simp [Pl.compOk, hv1, hv2, e1, hv3])
          have E1 := Lib.hid e1
          clear e1
          go_enter Try.func25, Try.ntmps25
          go_wp2_with ((go_at_call 66; refine (IsValidEdit_any _ _ _ (by assumption)).mono ?_; rintro e w1 ⟨rfl, hb1⟩; have hcf := bcell hb1; have hz1 := hb1.size; (repeat (first | simp only [World.size_alloc] at hz1 hcf | simp only [size_setCell] at hz1 hcf | simp only [size_drewN] at hz1 hcf | simp only [size_drew] at hz1 hcf)); obtain ⟨hc1, hf1⟩ := hcf; (try have htA : w.heap.size < w1.heap.size := by omega); (try have htB : w.heap.size + 1 < w1.heap.size := by omega); (try have htC : w.heap.size + 2 < w1.heap.size := by omega)))
          go_region
          go_wp2_with ((go_at_call 66; refine (IsValidEdit_any _ _ _ (by assumption)).mono ?_; rintro e w1 ⟨rfl, hb1⟩; have hcf := bcell hb1; have hz1 := hb1.size; (repeat (first | simp only [World.size_alloc] at hz1 hcf | simp only [size_setCell] at hz1 hcf | simp only [size_drewN] at hz1 hcf | simp only [size_drew] at hz1 hcf)); obtain ⟨hc1, hf1⟩ := hcf; have hq0 : (w1.cell? ⟨w.heap.size + 1 + 1, 0, none⟩).isSome = true := (by rw [hc1 _ _ (by omega)]; first | done | (simp [go_sem]; done) | (simp [go_sem, *]; done)); have hq1 : (w1.cell? ⟨w.heap.size + 1 + 1, 1, none⟩).isSome = true := (by rw [hc1 _ _ (by omega)]; first | done | (simp [go_sem]; done) | (simp [go_sem, *]; done)); (try have htA : w.heap.size < w1.heap.size := by omega); (try have htB : w.heap.size + 1 < w1.heap.size := by omega); (try have htC : w.heap.size + 2 < w1.heap.size := by omega)))
          refine bodyPost_ret (v := .tuple #[.agg #[.int .i64 b1, .string (Pl.compText t1 b2 t2)], .bool true]) (by simp [results, Try.results25, go_sem, *]) rfl ⟨?_, (by repeat (first | with_reducible exact Below.refl _ _ | with_reducible assumption | with_reducible refine Below.alloc ?_ ?_ _ | with_reducible refine Below.setCell ?_ ?_ _ | with_reducible refine Below.drew ?_ | with_reducible refine below_drewN ?_ _ | with_reducible refine Below.trans ?_ (Below.mono (by assumption) ?_) | omega | ((repeat (first | rw [World.size_alloc] | rw [size_setCell] | rw [size_drewN] | rw [size_drew])); omega) | exact Nat.le_refl _ | (dsimp only; omega) | (simp [World.setCell]; omega)))⟩
          unfold Pl.compBackOut Pl.compTextOut; rw [E.out, if_pos rfl, if_pos rfl, E1.out]
      · have e3 : b1 - ((t1.size : Int) - b2) = b1 + (b2 - t1.size) := by omega
        have e1 : Pl.compBack b1 t1 b2 = b1 + (b2 - t1.size) := by unfold Pl.compBack; rw [if_neg hle]
        have e2 : Pl.compText t1 b2 t2 = t2 := by unfold Pl.compText; rw [if_neg hle]
        cases hv3 : Pl.validEdit (b1 + (b2 - t1.size)) t2
        · have E := Lib.hid (show Pl.compOk b1 t1 b2 t2 = false by simp [Pl.compOk, e1, e2, hv3])
          clear e1 e2
          go_enter Try.func25, Try.ntmps25
          go_wp2_with ((go_at_call 66; refine (IsValidEdit_any _ _ _ (by assumption)).mono ?_; rintro e w1 ⟨rfl, hb1⟩; have hcf := bcell hb1; have hz1 := hb1.size; (repeat (first | simp only [World.size_alloc] at hz1 hcf | simp only [size_setCell] at hz1 hcf | simp only [size_drewN] at hz1 hcf | simp only [size_drew] at hz1 hcf)); obtain ⟨hc1, hf1⟩ := hcf; have hq0 : (w1.cell? ⟨w.heap.size + 1 + 1, 0, none⟩).isSome = true := (by rw [hc1 _ _ (by omega)]; first | done | (simp [go_sem]; done) | (simp [go_sem, *]; done)); have hq1 : (w1.cell? ⟨w.heap.size + 1 + 1, 1, none⟩).isSome = true := (by rw [hc1 _ _ (by omega)]; first | done | (simp [go_sem]; done) | (simp [go_sem, *]; done)); (try have htA : w.heap.size < w1.heap.size := by omega); (try have htB : w.heap.size + 1 < w1.heap.size := by omega); (try have htC : w.heap.size + 2 < w1.heap.size := by omega)))
          refine bodyPost_ret (v := .tuple #[.agg #[.int .i64 0, .string ⟨#[]⟩], .bool false]) (by simp [results, Try.results25, go_sem, *]) rfl ⟨?_, (by repeat (first | with_reducible exact Below.refl _ _ | with_reducible assumption | with_reducible refine Below.alloc ?_ ?_ _ | with_reducible refine Below.setCell ?_ ?_ _ | with_reducible refine Below.drew ?_ | with_reducible refine below_drewN ?_ _ | with_reducible refine Below.trans ?_ (Below.mono (by assumption) ?_) | omega | ((repeat (first | rw [World.size_alloc] | rw [size_setCell] | rw [size_drewN] | rw [size_drew])); omega) | exact Nat.le_refl _ | (dsimp only; omega) | (simp [World.setCell]; omega)))⟩
          unfold Pl.compBackOut Pl.compTextOut; rw [E.out]; rfl
        · have E := Lib.hid (show Pl.compOk b1 t1 b2 t2 = true by simp [Pl.compOk, hv1, hv2, e1, e2, hv3])
          have E1 := Lib.hid e1; have E2 := Lib.hid e2
          clear e1 e2
          go_enter Try.func25, Try.ntmps25
          go_wp2_with ((go_at_call 66; refine (IsValidEdit_any _ _ _ (by assumption)).mono ?_; rintro e w1 ⟨rfl, hb1⟩; have hcf := bcell hb1; have hz1 := hb1.size; (repeat (first | simp only [World.size_alloc] at hz1 hcf | simp only [size_setCell] at hz1 hcf | simp only [size_drewN] at hz1 hcf | simp only [size_drew] at hz1 hcf)); obtain ⟨hc1, hf1⟩ := hcf; have hq0 : (w1.cell? ⟨w.heap.size + 1 + 1, 0, none⟩).isSome = true := (by rw [hc1 _ _ (by omega)]; first | done | (simp [go_sem]; done) | (simp [go_sem, *]; done)); have hq1 : (w1.cell? ⟨w.heap.size + 1 + 1, 1, none⟩).isSome = true := (by rw [hc1 _ _ (by omega)]; first | done | (simp [go_sem]; done) | (simp [go_sem, *]; done)); (try have htA : w.heap.size < w1.heap.size := by omega); (try have htB : w.heap.size + 1 < w1.heap.size := by omega); (try have htC : w.heap.size + 2 < w1.heap.size := by omega)))
          refine bodyPost_ret (v := .tuple #[.agg #[.int .i64 (b1 + (b2 - t1.size)), .string t2], .bool true]) (by simp [results, Try.results25, go_sem, *]) rfl ⟨?_, (by repeat (first | with_reducible exact Below.refl _ _ | with_reducible assumption | with_reducible refine Below.alloc ?_ ?_ _ | with_reducible refine Below.setCell ?_ ?_ _ | with_reducible refine Below.drew ?_ | with_reducible refine below_drewN ?_ _ | with_reducible refine Below.trans ?_ (Below.mono (by assumption) ?_) | omega | ((repeat (first | rw [World.size_alloc] | rw [size_setCell] | rw [size_drewN] | rw [size_drew])); omega) | exact Nat.le_refl _ | (dsimp only; omega) | (simp [World.setCell]; omega)))⟩
          unfold Pl.compBackOut Pl.compTextOut; rw [E.out, if_pos rfl, if_pos rfl, E1.out, E2.out]

set_option maxHeartbeats 800000 in
theorem specComposeEdits_any (b1 : Int) (t1 : ByteArray) (b2 : Int) (t2 : ByteArray) (w : World) (h1 : t1.size ≤ 1048576) (h2 : t2.size ≤ 1048576) :
    Calls Try.prog 23 #[.agg #[.int .i64 b1, .string t1], .agg #[.int .i64 b2, .string t2]] w fun e w' => e = .returned (.tuple #[.agg #[.int .i64 (Pl.compBackOut b1 t1 b2 t2), .string (Pl.compTextOut b1 t1 b2 t2)], .bool (Pl.compOk b1 t1 b2 t2)]) ∧ Below w.heap.size w w' := by
  have h1' : t1.size ≤ maxLen := by unfold maxLen; omega
  have h2' : t2.size ≤ maxLen := by unfold maxLen; omega
  cases hv1 : Pl.validEdit b1 t1
  · have E := Lib.hid (show Pl.compOk b1 t1 b2 t2 = false by simp [Pl.compOk, hv1])
    go_enter Try.func23, Try.ntmps23
    go_wp2_with ((go_at_call 65; refine (l13Good_any _ _ _ (by assumption)).mono ?_; rintro e w1 ⟨rfl, hb1⟩; have hcf := bcell hb1; have hz1 := hb1.size; (repeat (first | simp only [World.size_alloc] at hz1 hcf | simp only [size_setCell] at hz1 hcf | simp only [size_drewN] at hz1 hcf | simp only [size_drew] at hz1 hcf)); obtain ⟨hc1, hf1⟩ := hcf; (try have htA : w.heap.size < w1.heap.size := by omega); (try have htB : w.heap.size + 1 < w1.heap.size := by omega); (try have htC : w.heap.size + 2 < w1.heap.size := by omega)))
    refine bodyPost_ret (v := .tuple #[.agg #[.int .i64 0, .string ⟨#[]⟩], .bool false]) (by simp [results, Try.results23, go_sem, *]) rfl ⟨?_, (by repeat (first | with_reducible exact Below.refl _ _ | with_reducible assumption | with_reducible refine Below.alloc ?_ ?_ _ | with_reducible refine Below.setCell ?_ ?_ _ | with_reducible refine Below.drew ?_ | with_reducible refine below_drewN ?_ _ | with_reducible refine Below.trans ?_ (Below.mono (by assumption) ?_) | omega | ((repeat (first | rw [World.size_alloc] | rw [size_setCell] | rw [size_drewN] | rw [size_drew])); omega) | exact Nat.le_refl _ | (dsimp only; omega) | (simp [World.setCell]; omega)))⟩
    unfold Pl.compBackOut Pl.compTextOut; rw [E.out]; rfl
  · cases hv2 : Pl.validEdit b2 t2
    · have E := Lib.hid (show Pl.compOk b1 t1 b2 t2 = false by simp [Pl.compOk, hv2])
      go_enter Try.func23, Try.ntmps23
      go_wp2_with ((go_at_call 65; refine (l13Good_any _ _ _ (by assumption)).mono ?_; rintro e w1 ⟨rfl, hb1⟩; have hcf := bcell hb1; have hz1 := hb1.size; (repeat (first | simp only [World.size_alloc] at hz1 hcf | simp only [size_setCell] at hz1 hcf | simp only [size_drewN] at hz1 hcf | simp only [size_drew] at hz1 hcf)); obtain ⟨hc1, hf1⟩ := hcf; (try have htA : w.heap.size < w1.heap.size := by omega); (try have htB : w.heap.size + 1 < w1.heap.size := by omega); (try have htC : w.heap.size + 2 < w1.heap.size := by omega)))
      refine bodyPost_ret (v := .tuple #[.agg #[.int .i64 0, .string ⟨#[]⟩], .bool false]) (by simp [results, Try.results23, go_sem, *]) rfl ⟨?_, (by repeat (first | with_reducible exact Below.refl _ _ | with_reducible assumption | with_reducible refine Below.alloc ?_ ?_ _ | with_reducible refine Below.setCell ?_ ?_ _ | with_reducible refine Below.drew ?_ | with_reducible refine below_drewN ?_ _ | with_reducible refine Below.trans ?_ (Below.mono (by assumption) ?_) | omega | ((repeat (first | rw [World.size_alloc] | rw [size_setCell] | rw [size_drewN] | rw [size_drew])); omega) | exact Nat.le_refl _ | (dsimp only; omega) | (simp [World.setCell]; omega)))⟩
      unfold Pl.compBackOut Pl.compTextOut; rw [E.out]; rfl
    · obtain ⟨hb10, hb11⟩ := Pl.validEdit_bd hv1
      obtain ⟨hb20, hb21⟩ := Pl.validEdit_bd hv2
      have hz1 := Pl.isScreen_size (Pl.validEdit_screen hv1)
      have hz2 := Pl.isScreen_size (Pl.validEdit_screen hv2)
      have hcz := Pl.compText_size (b2 := b2) hz1 hz2
      have hcl : (Pl.compText t1 b2 t2).size ≤ maxLen := by unfold maxLen; omega
      have hex : (t1.extract 0 (t1.size - b2.toNat)).size ≤ 2000 := by simp; omega
      by_cases hle : b2 ≤ t1.size
      · have hbn : (((t1.size : Int) - b2).toNat) = t1.size - b2.toNat := by omega
        have e1 : Pl.compBack b1 t1 b2 = b1 := by unfold Pl.compBack; rw [if_pos hle]
        have e2 : t1.extract 0 (t1.size - b2.toNat) ++ t2 = Pl.compText t1 b2 t2 := by unfold Pl.compText; rw [if_pos hle]
        cases hv3 : Pl.validEdit b1 (Pl.compText t1 b2 t2)
        · have E := Lib.hid (show Pl.compOk b1 t1 b2 t2 = false by simp [Pl.compOk, e1, hv3])
          clear e1
          go_enter Try.func23, Try.ntmps23
          go_wp2_with ((go_at_call 65; refine (l13Good_any _ _ _ (by assumption)).mono ?_; rintro e w1 ⟨rfl, hb1⟩; have hcf := bcell hb1; have hz1 := hb1.size; (repeat (first | simp only [World.size_alloc] at hz1 hcf | simp only [size_setCell] at hz1 hcf | simp only [size_drewN] at hz1 hcf | simp only [size_drew] at hz1 hcf)); obtain ⟨hc1, hf1⟩ := hcf; (try have htA : w.heap.size < w1.heap.size := by omega); (try have htB : w.heap.size + 1 < w1.heap.size := by omega); (try have htC : w.heap.size + 2 < w1.heap.size := by omega)))
          go_region
          go_wp2_with ((go_at_call 65; refine (l13Good_any _ _ _ (by assumption)).mono ?_; rintro e w1 ⟨rfl, hb1⟩; have hcf := bcell hb1; have hz1 := hb1.size; (repeat (first | simp only [World.size_alloc] at hz1 hcf | simp only [size_setCell] at hz1 hcf | simp only [size_drewN] at hz1 hcf | simp only [size_drew] at hz1 hcf)); obtain ⟨hc1, hf1⟩ := hcf; have hq0 : (w1.cell? ⟨w.heap.size + 1 + 1, 0, none⟩).isSome = true := (by rw [hc1 _ _ (by omega)]; first | done | (simp [go_sem]; done) | (simp [go_sem, *]; done)); have hq1 : (w1.cell? ⟨w.heap.size + 1 + 1, 1, none⟩).isSome = true := (by rw [hc1 _ _ (by omega)]; first | done | (simp [go_sem]; done) | (simp [go_sem, *]; done)); (try have htA : w.heap.size < w1.heap.size := by omega); (try have htB : w.heap.size + 1 < w1.heap.size := by omega); (try have htC : w.heap.size + 2 < w1.heap.size := by omega)))
          refine bodyPost_ret (v := .tuple #[.agg #[.int .i64 0, .string ⟨#[]⟩], .bool false]) (by simp [results, Try.results23, go_sem, *]) rfl ⟨?_, (by repeat (first | with_reducible exact Below.refl _ _ | with_reducible assumption | with_reducible refine Below.alloc ?_ ?_ _ | with_reducible refine Below.setCell ?_ ?_ _ | with_reducible refine Below.drew ?_ | with_reducible refine below_drewN ?_ _ | with_reducible refine Below.trans ?_ (Below.mono (by assumption) ?_) | omega | ((repeat (first | rw [World.size_alloc] | rw [size_setCell] | rw [size_drewN] | rw [size_drew])); omega) | exact Nat.le_refl _ | (dsimp only; omega) | (simp [World.setCell]; omega)))⟩
          unfold Pl.compBackOut Pl.compTextOut; rw [E.out]; rfl
        · have E := Lib.hid (show Pl.compOk b1 t1 b2 t2 = true by simp [Pl.compOk, hv1, hv2, e1, hv3])
          have E1 := Lib.hid e1
          clear e1
          go_enter Try.func23, Try.ntmps23
          go_wp2_with ((go_at_call 65; refine (l13Good_any _ _ _ (by assumption)).mono ?_; rintro e w1 ⟨rfl, hb1⟩; have hcf := bcell hb1; have hz1 := hb1.size; (repeat (first | simp only [World.size_alloc] at hz1 hcf | simp only [size_setCell] at hz1 hcf | simp only [size_drewN] at hz1 hcf | simp only [size_drew] at hz1 hcf)); obtain ⟨hc1, hf1⟩ := hcf; (try have htA : w.heap.size < w1.heap.size := by omega); (try have htB : w.heap.size + 1 < w1.heap.size := by omega); (try have htC : w.heap.size + 2 < w1.heap.size := by omega)))
          go_region
          go_wp2_with ((go_at_call 65; refine (l13Good_any _ _ _ (by assumption)).mono ?_; rintro e w1 ⟨rfl, hb1⟩; have hcf := bcell hb1; have hz1 := hb1.size; (repeat (first | simp only [World.size_alloc] at hz1 hcf | simp only [size_setCell] at hz1 hcf | simp only [size_drewN] at hz1 hcf | simp only [size_drew] at hz1 hcf)); obtain ⟨hc1, hf1⟩ := hcf; have hq0 : (w1.cell? ⟨w.heap.size + 1 + 1, 0, none⟩).isSome = true := (by rw [hc1 _ _ (by omega)]; first | done | (simp [go_sem]; done) | (simp [go_sem, *]; done)); have hq1 : (w1.cell? ⟨w.heap.size + 1 + 1, 1, none⟩).isSome = true := (by rw [hc1 _ _ (by omega)]; first | done | (simp [go_sem]; done) | (simp [go_sem, *]; done)); (try have htA : w.heap.size < w1.heap.size := by omega); (try have htB : w.heap.size + 1 < w1.heap.size := by omega); (try have htC : w.heap.size + 2 < w1.heap.size := by omega)))
          refine bodyPost_ret (v := .tuple #[.agg #[.int .i64 b1, .string (Pl.compText t1 b2 t2)], .bool true]) (by simp [results, Try.results23, go_sem, *]) rfl ⟨?_, (by repeat (first | with_reducible exact Below.refl _ _ | with_reducible assumption | with_reducible refine Below.alloc ?_ ?_ _ | with_reducible refine Below.setCell ?_ ?_ _ | with_reducible refine Below.drew ?_ | with_reducible refine below_drewN ?_ _ | with_reducible refine Below.trans ?_ (Below.mono (by assumption) ?_) | omega | ((repeat (first | rw [World.size_alloc] | rw [size_setCell] | rw [size_drewN] | rw [size_drew])); omega) | exact Nat.le_refl _ | (dsimp only; omega) | (simp [World.setCell]; omega)))⟩
          unfold Pl.compBackOut Pl.compTextOut; rw [E.out, if_pos rfl, if_pos rfl, E1.out]
      · have e3 : b1 - ((t1.size : Int) - b2) = b1 + (b2 - t1.size) := by omega
        have e1 : Pl.compBack b1 t1 b2 = b1 + (b2 - t1.size) := by unfold Pl.compBack; rw [if_neg hle]
        have e2 : Pl.compText t1 b2 t2 = t2 := by unfold Pl.compText; rw [if_neg hle]
        cases hv3 : Pl.validEdit (b1 + (b2 - t1.size)) t2
        · have E := Lib.hid (show Pl.compOk b1 t1 b2 t2 = false by simp [Pl.compOk, e1, e2, hv3])
          clear e1 e2
          go_enter Try.func23, Try.ntmps23
          go_wp2_with ((go_at_call 65; refine (l13Good_any _ _ _ (by assumption)).mono ?_; rintro e w1 ⟨rfl, hb1⟩; have hcf := bcell hb1; have hz1 := hb1.size; (repeat (first | simp only [World.size_alloc] at hz1 hcf | simp only [size_setCell] at hz1 hcf | simp only [size_drewN] at hz1 hcf | simp only [size_drew] at hz1 hcf)); obtain ⟨hc1, hf1⟩ := hcf; have hq0 : (w1.cell? ⟨w.heap.size + 1 + 1, 0, none⟩).isSome = true := (by rw [hc1 _ _ (by omega)]; first | done | (simp [go_sem]; done) | (simp [go_sem, *]; done)); have hq1 : (w1.cell? ⟨w.heap.size + 1 + 1, 1, none⟩).isSome = true := (by rw [hc1 _ _ (by omega)]; first | done | (simp [go_sem]; done) | (simp [go_sem, *]; done)); (try have htA : w.heap.size < w1.heap.size := by omega); (try have htB : w.heap.size + 1 < w1.heap.size := by omega); (try have htC : w.heap.size + 2 < w1.heap.size := by omega)))
          refine bodyPost_ret (v := .tuple #[.agg #[.int .i64 0, .string ⟨#[]⟩], .bool false]) (by simp [results, Try.results23, go_sem, *]) rfl ⟨?_, (by repeat (first | with_reducible exact Below.refl _ _ | with_reducible assumption | with_reducible refine Below.alloc ?_ ?_ _ | with_reducible refine Below.setCell ?_ ?_ _ | with_reducible refine Below.drew ?_ | with_reducible refine below_drewN ?_ _ | with_reducible refine Below.trans ?_ (Below.mono (by assumption) ?_) | omega | ((repeat (first | rw [World.size_alloc] | rw [size_setCell] | rw [size_drewN] | rw [size_drew])); omega) | exact Nat.le_refl _ | (dsimp only; omega) | (simp [World.setCell]; omega)))⟩
          unfold Pl.compBackOut Pl.compTextOut; rw [E.out]; rfl
        · have E := Lib.hid (show Pl.compOk b1 t1 b2 t2 = true by simp [Pl.compOk, hv1, hv2, e1, e2, hv3])
          have E1 := Lib.hid e1; have E2 := Lib.hid e2
          clear e1 e2
          go_enter Try.func23, Try.ntmps23
          go_wp2_with ((go_at_call 65; refine (l13Good_any _ _ _ (by assumption)).mono ?_; rintro e w1 ⟨rfl, hb1⟩; have hcf := bcell hb1; have hz1 := hb1.size; (repeat (first | simp only [World.size_alloc] at hz1 hcf | simp only [size_setCell] at hz1 hcf | simp only [size_drewN] at hz1 hcf | simp only [size_drew] at hz1 hcf)); obtain ⟨hc1, hf1⟩ := hcf; have hq0 : (w1.cell? ⟨w.heap.size + 1 + 1, 0, none⟩).isSome = true := (by rw [hc1 _ _ (by omega)]; first | done | (simp [go_sem]; done) | (simp [go_sem, *]; done)); have hq1 : (w1.cell? ⟨w.heap.size + 1 + 1, 1, none⟩).isSome = true := (by rw [hc1 _ _ (by omega)]; first | done | (simp [go_sem]; done) | (simp [go_sem, *]; done)); (try have htA : w.heap.size < w1.heap.size := by omega); (try have htB : w.heap.size + 1 < w1.heap.size := by omega); (try have htC : w.heap.size + 2 < w1.heap.size := by omega)))
          refine bodyPost_ret (v := .tuple #[.agg #[.int .i64 (b1 + (b2 - t1.size)), .string t2], .bool true]) (by simp [results, Try.results23, go_sem, *]) rfl ⟨?_, (by repeat (first | with_reducible exact Below.refl _ _ | with_reducible assumption | with_reducible refine Below.alloc ?_ ?_ _ | with_reducible refine Below.setCell ?_ ?_ _ | with_reducible refine Below.drew ?_ | with_reducible refine below_drewN ?_ _ | with_reducible refine Below.trans ?_ (Below.mono (by assumption) ?_) | omega | ((repeat (first | rw [World.size_alloc] | rw [size_setCell] | rw [size_drewN] | rw [size_drew])); omega) | exact Nat.le_refl _ | (dsimp only; omega) | (simp [World.setCell]; omega)))⟩
          unfold Pl.compBackOut Pl.compTextOut; rw [E.out, if_pos rfl, if_pos rfl, E1.out, E2.out]

set_option maxHeartbeats 800000 in
theorem InvertEdit_any (s : ByteArray) (b : Int) (t : ByteArray) (w : World) (hs : s.size ≤ 1048576) (ht : t.size ≤ 1048576) :
    Calls Try.prog 28 #[.string s, .agg #[.int .i64 b, .string t]] w fun e w' => e = .returned (.tuple #[.agg #[.int .i64 (Pl.invBackOut s b t), .string (Pl.invTextOut s b t)], .bool (Pl.applyOk s b t)]) ∧ Below w.heap.size w w' := by
  cases hv : Pl.applyOk s b t
  · have E := Lib.hid hv
    go_enter Try.func28, Try.ntmps28
    go_wp2_with ((go_at_call 68; refine (ApplyEdit_any _ _ _ _ hs ht).mono ?_; rintro e w1 ⟨rfl, hb1⟩; have hcf := bcell hb1; have hz1 := hb1.size; (repeat (first | simp only [World.size_alloc] at hz1 hcf | simp only [size_setCell] at hz1 hcf | simp only [size_drewN] at hz1 hcf | simp only [size_drew] at hz1 hcf)); obtain ⟨hc1, hf1⟩ := hcf; (try have htA : w.heap.size < w1.heap.size := by omega); (try have htB : w.heap.size + 1 < w1.heap.size := by omega); (try have htC : w.heap.size + 2 < w1.heap.size := by omega)))
    refine bodyPost_ret (v := .tuple #[.agg #[.int .i64 0, .string ⟨#[]⟩], .bool false]) (by simp [results, Try.results28, go_sem, *]) rfl ⟨?_, (by repeat (first | with_reducible exact Below.refl _ _ | with_reducible assumption | with_reducible refine Below.alloc ?_ ?_ _ | with_reducible refine Below.setCell ?_ ?_ _ | with_reducible refine Below.drew ?_ | with_reducible refine below_drewN ?_ _ | with_reducible refine Below.trans ?_ (Below.mono (by assumption) ?_) | omega | ((repeat (first | rw [World.size_alloc] | rw [size_setCell] | rw [size_drewN] | rw [size_drew])); omega) | exact Nat.le_refl _ | (dsimp only; omega) | (simp [World.setCell]; omega)))⟩
    unfold Pl.invBackOut Pl.invTextOut; rw [E.out]; rfl
  · have E := Lib.hid hv
    obtain ⟨h0, h1, h2, h3⟩ := Pl.applyOk_bd hv
    have hbn : (((s.size : Int) - b).toNat) = s.size - b.toNat := by omega
    go_enter Try.func28, Try.ntmps28
    go_wp2_with ((go_at_call 68; refine (ApplyEdit_any _ _ _ _ hs ht).mono ?_; rintro e w1 ⟨rfl, hb1⟩; have hcf := bcell hb1; have hz1 := hb1.size; (repeat (first | simp only [World.size_alloc] at hz1 hcf | simp only [size_setCell] at hz1 hcf | simp only [size_drewN] at hz1 hcf | simp only [size_drew] at hz1 hcf)); obtain ⟨hc1, hf1⟩ := hcf; (try have htA : w.heap.size < w1.heap.size := by omega); (try have htB : w.heap.size + 1 < w1.heap.size := by omega); (try have htC : w.heap.size + 2 < w1.heap.size := by omega)))
    go_region
    go_wp2
    refine bodyPost_ret (v := .tuple #[.agg #[.int .i64 t.size, .string (s.extract (s.size - b.toNat) s.size)], .bool true]) (by simp [results, Try.results28, go_sem, *]) rfl ⟨?_, (by repeat (first | with_reducible exact Below.refl _ _ | with_reducible assumption | with_reducible refine Below.alloc ?_ ?_ _ | with_reducible refine Below.setCell ?_ ?_ _ | with_reducible refine Below.drew ?_ | with_reducible refine below_drewN ?_ _ | with_reducible refine Below.trans ?_ (Below.mono (by assumption) ?_) | omega | ((repeat (first | rw [World.size_alloc] | rw [size_setCell] | rw [size_drewN] | rw [size_drew])); omega) | exact Nat.le_refl _ | (dsimp only; omega) | (simp [World.setCell]; omega)))⟩
    unfold Pl.invBackOut Pl.invTextOut; rw [E.out]; rfl

set_option maxHeartbeats 800000 in
theorem specInvertEdit_any (s : ByteArray) (b : Int) (t : ByteArray) (w : World) (hs : s.size ≤ 1048576) (ht : t.size ≤ 1048576) :
    Calls Try.prog 27 #[.string s, .agg #[.int .i64 b, .string t]] w fun e w' => e = .returned (.tuple #[.agg #[.int .i64 (Pl.invBackOut s b t), .string (Pl.invTextOut s b t)], .bool (Pl.applyOk s b t)]) ∧ Below w.heap.size w w' := by
  cases hv : Pl.applyOk s b t
  · have E := Lib.hid hv
    go_enter Try.func27, Try.ntmps27
    go_wp2_with ((go_at_call 67; refine (specApplyEdit_any _ _ _ _ hs ht).mono ?_; rintro e w1 ⟨rfl, hb1⟩; have hcf := bcell hb1; have hz1 := hb1.size; (repeat (first | simp only [World.size_alloc] at hz1 hcf | simp only [size_setCell] at hz1 hcf | simp only [size_drewN] at hz1 hcf | simp only [size_drew] at hz1 hcf)); obtain ⟨hc1, hf1⟩ := hcf; (try have htA : w.heap.size < w1.heap.size := by omega); (try have htB : w.heap.size + 1 < w1.heap.size := by omega); (try have htC : w.heap.size + 2 < w1.heap.size := by omega)))
    refine bodyPost_ret (v := .tuple #[.agg #[.int .i64 0, .string ⟨#[]⟩], .bool false]) (by simp [results, Try.results27, go_sem, *]) rfl ⟨?_, (by repeat (first | with_reducible exact Below.refl _ _ | with_reducible assumption | with_reducible refine Below.alloc ?_ ?_ _ | with_reducible refine Below.setCell ?_ ?_ _ | with_reducible refine Below.drew ?_ | with_reducible refine below_drewN ?_ _ | with_reducible refine Below.trans ?_ (Below.mono (by assumption) ?_) | omega | ((repeat (first | rw [World.size_alloc] | rw [size_setCell] | rw [size_drewN] | rw [size_drew])); omega) | exact Nat.le_refl _ | (dsimp only; omega) | (simp [World.setCell]; omega)))⟩
    unfold Pl.invBackOut Pl.invTextOut; rw [E.out]; rfl
  · have E := Lib.hid hv
    obtain ⟨h0, h1, h2, h3⟩ := Pl.applyOk_bd hv
    have hbn : (((s.size : Int) - b).toNat) = s.size - b.toNat := by omega
    go_enter Try.func27, Try.ntmps27
    go_wp2_with ((go_at_call 67; refine (specApplyEdit_any _ _ _ _ hs ht).mono ?_; rintro e w1 ⟨rfl, hb1⟩; have hcf := bcell hb1; have hz1 := hb1.size; (repeat (first | simp only [World.size_alloc] at hz1 hcf | simp only [size_setCell] at hz1 hcf | simp only [size_drewN] at hz1 hcf | simp only [size_drew] at hz1 hcf)); obtain ⟨hc1, hf1⟩ := hcf; (try have htA : w.heap.size < w1.heap.size := by omega); (try have htB : w.heap.size + 1 < w1.heap.size := by omega); (try have htC : w.heap.size + 2 < w1.heap.size := by omega)))
    go_region
    go_wp2
    refine bodyPost_ret (v := .tuple #[.agg #[.int .i64 t.size, .string (s.extract (s.size - b.toNat) s.size)], .bool true]) (by simp [results, Try.results27, go_sem, *]) rfl ⟨?_, (by repeat (first | with_reducible exact Below.refl _ _ | with_reducible assumption | with_reducible refine Below.alloc ?_ ?_ _ | with_reducible refine Below.setCell ?_ ?_ _ | with_reducible refine Below.drew ?_ | with_reducible refine below_drewN ?_ _ | with_reducible refine Below.trans ?_ (Below.mono (by assumption) ?_) | omega | ((repeat (first | rw [World.size_alloc] | rw [size_setCell] | rw [size_drewN] | rw [size_drew])); omega) | exact Nat.le_refl _ | (dsimp only; omega) | (simp [World.setCell]; omega)))⟩
    unfold Pl.invBackOut Pl.invTextOut; rw [E.out]; rfl

end Go.Proofs.Ytmlckocmfoiobaa
