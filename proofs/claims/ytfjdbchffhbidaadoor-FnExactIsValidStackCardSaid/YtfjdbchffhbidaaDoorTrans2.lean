/-
  CONTRACTS: ParseAtom of the reference and of the program.
-/
import Derived.Test.YtfjdbchffhbidaaDoorTrans
namespace Go.Proofs.YtfjdbchffhbidaaDoor
open Go.RowKit

theorem Pl.kindA_size (s : ByteArray) : (Pl.kindA s).2.size ≤ s.size := by
  have z : ∀ (m : ByteArray) (i j : Nat), j ≤ m.size → (m.extract i j).size ≤ m.size := fun m i j h => by rw [ByteArray.size_extract]; omega
  have n0 : (⟨#[]⟩ : ByteArray).size = 0 := rfl
  have hm : ∀ m : ByteArray, (Pl.kindM m).2.size ≤ m.size := by
    intro m
    unfold Pl.kindM
    repeat' split
    all_goals first
      | exact Nat.zero_le _
      | exact Nat.le_refl _
      | exact z _ _ _ (Nat.le_refl _)
      | exact z _ _ _ (Nat.sub_le _ _)
  unfold Pl.kindA
  split
  · exact Nat.le_trans (hm _) (z _ _ _ (Nat.sub_le _ _))
  · exact Nat.le_refl _
theorem Pl.parse_is {s x : ByteArray} {a : Int} (h : Pl.kindA s = (a, x)) : Pl.parseOk s = (Pl.atomOk a x && ((Pl.fmtA a x).toList == s.toList)) ∧ Pl.parseA s = if (Pl.atomOk a x && ((Pl.fmtA a x).toList == s.toList)) = true then (a, x) else (0, ⟨#[]⟩) := by
  have e : Pl.parseOk s = (Pl.atomOk a x && ((Pl.fmtA a x).toList == s.toList)) := by unfold Pl.parseOk Pl.hit; rw [h]
  exact ⟨e, by unfold Pl.parseA; rw [e, h]⟩
theorem ret_atomb {a b : Int} {x y : ByteArray} {p : Int × ByteArray} {u v : Bool} (h : p = (b, y)) (hu : v = u) (h1 : a = b) (h2 : x = y) : Ending.returned (.tuple #[.agg #[.int .i64 a, .string x], .bool u]) = .returned (.tuple #[.agg #[.int .i64 p.1, .string p.2], .bool v]) := by subst h; subst h1; subst h2; subst hu; rfl

set_option maxHeartbeats 1600000 in
theorem specParseAtom_any (s : ByteArray) (w : World) (hs : s.size ≤ 1048576) :
    Calls Tryd.prog 109 #[.string s] w fun e w' => e = .returned (.tuple #[.agg #[.int .i64 (Pl.parseA s).1, .string (Pl.parseA s).2], .bool (Pl.parseOk s)]) ∧ Below w.heap.size w w' := by
  have HK := Lib.hid (fun W => l5Kind_any s W hs)
  have hx := Pl.kindA_size s
  obtain ⟨a, x, hk⟩ : ∃ a x, Pl.kindA s = (a, x) := ⟨_, _, rfl⟩
  obtain ⟨E1, E2⟩ := Pl.parse_is hk
  rw [hk] at HK hx
  replace hx : x.size ≤ s.size := hx
  have hx1 : x.size ≤ maxLen := by unfold maxLen; omega
  have hx2 : x.size ≤ 1048576 := by omega
  have c0 : (w.alloc (.cells #[.int .i64 0, .string ⟨#[]⟩] 143)).cell? ⟨w.heap.size, 0, none⟩ = some (.int .i64 0) := by simp [go_sem]
  have c1 : (w.alloc (.cells #[.int .i64 0, .string ⟨#[]⟩] 143)).cell? ⟨w.heap.size, 1, none⟩ = some (.string ⟨#[]⟩) := by simp [go_sem]
  have f0 : ∀ i, (w.alloc (.cells #[.int .i64 0, .string ⟨#[]⟩] 143)).frozen? ⟨w.heap.size, i, none⟩ = false := fun i => by simp [go_sem]
  have C0 := Lib.hid c0; have C1 := Lib.hid c1; have F0 := Lib.hid f0
  have HB := Lib.hid (Joins.below_alloc1 w (.cells #[.int .i64 0, .string ⟨#[]⟩] 143))
  clear c0 c1 f0 hk
  cases h1 : Pl.atomOk a x
  · rw [h1, Bool.false_and] at E1 E2
    have HE1 := Lib.hid E1; have HE2 := Lib.hid E2; clear E1 E2
    go_enter Tryd.func109, Tryd.ntmps109
    go_wp2_with (first
      | (go_at_call 134; (with_reducible refine (l5Good_any _ _ _ hx1).mono ?_); rintro e w2 ⟨he, hb2⟩; rw [h1] at he; subst he; have q0 := keepcT hb2 (keepcT (Joins.below_alloc1 w1 _) p0); have q1 := keepcT hb2 (keepcT (Joins.below_alloc1 w1 _) p1); have r0 : w2.frozen? ⟨w.heap.size, 0, none⟩ = false := ((bcell hb2).2 w.heap.size 0 (by rw [World.size_alloc]; omega)).trans (((bcell (Joins.below_alloc1 w1 _)).2 w.heap.size 0 hl1).trans g0); have r1 : w2.frozen? ⟨w.heap.size, 1, none⟩ = false := ((bcell hb2).2 w.heap.size 1 (by rw [World.size_alloc]; omega)).trans (((bcell (Joins.below_alloc1 w1 _)).2 w.heap.size 1 hl1).trans g1); have d0 : w2.cell? ⟨w1.heap.size, 0, none⟩ = some (.int .i64 a) := keepcT hb2 (by simp [go_sem]); have d1 : w2.cell? ⟨w1.heap.size, 1, none⟩ = some (.string x) := keepcT hb2 (by simp [go_sem]); have B2 := Lib.hid ((B1.out.trans ((Joins.below_alloc1 w1 _).mono B1.out.size)).trans (hb2.mono (Nat.le_trans B1.out.size (Joins.below_alloc1 w1 _).size))); have hl2 : w.heap.size < w2.heap.size := World.block_lt_of_cell? _ _ q0; clear hb2 p0 p1 g0 g1)
      | (go_at_call 133; (with_reducible refine (HK.out _).mono ?_); rintro e w1 ⟨rfl, hb1⟩; have p0 := keepcT hb1 C0.out; have p1 := keepcT hb1 C1.out; have g0 := ((bcell hb1).2 w.heap.size 0 (by rw [World.size_alloc]; omega)).trans (F0.out 0); have g1 := ((bcell hb1).2 w.heap.size 1 (by rw [World.size_alloc]; omega)).trans (F0.out 1); have B1 := Lib.hid (HB.out.trans (hb1.mono HB.out.size)); have hl1 : w.heap.size < w1.heap.size := World.block_lt_of_cell? _ _ p0; clear hb1))
    have B2' := B2.out
    exact bodyPost_ret (v := .tuple #[.agg #[.int .i64 0, .string ⟨#[]⟩], .bool false]) (by simp [results, Tryd.results109, go_sem, *]) rfl ⟨ret_atomb HE2.out HE1.out rfl rfl, (by repeat (first | with_reducible exact Below.refl _ _ | with_reducible assumption | with_reducible refine Below.alloc ?_ ?_ _ | with_reducible refine Below.setCell ?_ ?_ _ | with_reducible refine Below.drew ?_ | with_reducible refine below_drewN ?_ _ | with_reducible refine Below.trans ?_ (Below.mono (by assumption) ?_) | omega | ((repeat (first | rw [World.size_alloc] | rw [size_setCell] | rw [size_drewN] | rw [size_drew])); omega) | exact Nat.le_refl _ | (dsimp only; omega) | (simp [World.setCell]; omega)))⟩
  · rw [h1, Bool.true_and] at E1 E2
    cases h2 : ((Pl.fmtA a x).toList == s.toList)
    · rw [h2] at E1 E2
      have HE1 := Lib.hid E1; have HE2 := Lib.hid E2; clear E1 E2
      have h3 : ((Pl.fmtA a x).toList != s.toList) = true := by rw [bne, h2]; rfl
      go_enter Tryd.func109, Tryd.ntmps109
      go_wp2_with (first
        | (go_at_call 135; (with_reducible refine (l5Format_any _ _ _ hx2).mono ?_); rintro e w3 ⟨rfl, hb3⟩; have q0' := keepcT hb3 q0; have q1' := keepcT hb3 q1; have r0' := ((bcell hb3).2 w.heap.size 0 hl2).trans r0; have r1' := ((bcell hb3).2 w.heap.size 1 hl2).trans r1; have d0' := keepcT hb3 d0; have d1' := keepcT hb3 d1; have B3 := Lib.hid (B2.out.trans (hb3.mono B2.out.size)); have hl3 : w.heap.size < w3.heap.size := World.block_lt_of_cell? _ _ q0'; clear hb3 q0 q1 r0 r1 d0 d1)
        | (go_at_call 134; (with_reducible refine (l5Good_any _ _ _ hx1).mono ?_); rintro e w2 ⟨he, hb2⟩; rw [h1] at he; subst he; have q0 := keepcT hb2 (keepcT (Joins.below_alloc1 w1 _) p0); have q1 := keepcT hb2 (keepcT (Joins.below_alloc1 w1 _) p1); have r0 : w2.frozen? ⟨w.heap.size, 0, none⟩ = false := ((bcell hb2).2 w.heap.size 0 (by rw [World.size_alloc]; omega)).trans (((bcell (Joins.below_alloc1 w1 _)).2 w.heap.size 0 hl1).trans g0); have r1 : w2.frozen? ⟨w.heap.size, 1, none⟩ = false := ((bcell hb2).2 w.heap.size 1 (by rw [World.size_alloc]; omega)).trans (((bcell (Joins.below_alloc1 w1 _)).2 w.heap.size 1 hl1).trans g1); have d0 : w2.cell? ⟨w1.heap.size, 0, none⟩ = some (.int .i64 a) := keepcT hb2 (by simp [go_sem]); have d1 : w2.cell? ⟨w1.heap.size, 1, none⟩ = some (.string x) := keepcT hb2 (by simp [go_sem]); have B2 := Lib.hid ((B1.out.trans ((Joins.below_alloc1 w1 _).mono B1.out.size)).trans (hb2.mono (Nat.le_trans B1.out.size (Joins.below_alloc1 w1 _).size))); have hl2 : w.heap.size < w2.heap.size := World.block_lt_of_cell? _ _ q0; clear hb2 p0 p1 g0 g1)
        | (go_at_call 133; (with_reducible refine (HK.out _).mono ?_); rintro e w1 ⟨rfl, hb1⟩; have p0 := keepcT hb1 C0.out; have p1 := keepcT hb1 C1.out; have g0 := ((bcell hb1).2 w.heap.size 0 (by rw [World.size_alloc]; omega)).trans (F0.out 0); have g1 := ((bcell hb1).2 w.heap.size 1 (by rw [World.size_alloc]; omega)).trans (F0.out 1); have B1 := Lib.hid (HB.out.trans (hb1.mono HB.out.size)); have hl1 : w.heap.size < w1.heap.size := World.block_lt_of_cell? _ _ p0; clear hb1))
      have B3' := B3.out
      exact bodyPost_ret (v := .tuple #[.agg #[.int .i64 0, .string ⟨#[]⟩], .bool false]) (by simp [results, Tryd.results109, go_sem, *]) rfl ⟨ret_atomb HE2.out HE1.out rfl rfl, (by repeat (first | with_reducible exact Below.refl _ _ | with_reducible assumption | with_reducible refine Below.alloc ?_ ?_ _ | with_reducible refine Below.setCell ?_ ?_ _ | with_reducible refine Below.drew ?_ | with_reducible refine below_drewN ?_ _ | with_reducible refine Below.trans ?_ (Below.mono (by assumption) ?_) | omega | ((repeat (first | rw [World.size_alloc] | rw [size_setCell] | rw [size_drewN] | rw [size_drew])); omega) | exact Nat.le_refl _ | (dsimp only; omega) | (simp [World.setCell]; omega)))⟩
    · rw [h2] at E1 E2
      have HE1 := Lib.hid E1; have HE2 := Lib.hid E2; clear E1 E2
      have h3 : ((Pl.fmtA a x).toList != s.toList) = false := by rw [bne, h2]; rfl
      go_enter Tryd.func109, Tryd.ntmps109
      go_wp2_with (first
        | (go_at_call 135; (with_reducible refine (l5Format_any _ _ _ hx2).mono ?_); rintro e w3 ⟨rfl, hb3⟩; have q0' := keepcT hb3 q0; have q1' := keepcT hb3 q1; have r0' := ((bcell hb3).2 w.heap.size 0 hl2).trans r0; have r1' := ((bcell hb3).2 w.heap.size 1 hl2).trans r1; have d0' := keepcT hb3 d0; have d1' := keepcT hb3 d1; have B3 := Lib.hid (B2.out.trans (hb3.mono B2.out.size)); have hl3 : w.heap.size < w3.heap.size := World.block_lt_of_cell? _ _ q0'; clear hb3 q0 q1 r0 r1 d0 d1)
        | (go_at_call 134; (with_reducible refine (l5Good_any _ _ _ hx1).mono ?_); rintro e w2 ⟨he, hb2⟩; rw [h1] at he; subst he; have q0 := keepcT hb2 (keepcT (Joins.below_alloc1 w1 _) p0); have q1 := keepcT hb2 (keepcT (Joins.below_alloc1 w1 _) p1); have r0 : w2.frozen? ⟨w.heap.size, 0, none⟩ = false := ((bcell hb2).2 w.heap.size 0 (by rw [World.size_alloc]; omega)).trans (((bcell (Joins.below_alloc1 w1 _)).2 w.heap.size 0 hl1).trans g0); have r1 : w2.frozen? ⟨w.heap.size, 1, none⟩ = false := ((bcell hb2).2 w.heap.size 1 (by rw [World.size_alloc]; omega)).trans (((bcell (Joins.below_alloc1 w1 _)).2 w.heap.size 1 hl1).trans g1); have d0 : w2.cell? ⟨w1.heap.size, 0, none⟩ = some (.int .i64 a) := keepcT hb2 (by simp [go_sem]); have d1 : w2.cell? ⟨w1.heap.size, 1, none⟩ = some (.string x) := keepcT hb2 (by simp [go_sem]); have B2 := Lib.hid ((B1.out.trans ((Joins.below_alloc1 w1 _).mono B1.out.size)).trans (hb2.mono (Nat.le_trans B1.out.size (Joins.below_alloc1 w1 _).size))); have hl2 : w.heap.size < w2.heap.size := World.block_lt_of_cell? _ _ q0; clear hb2 p0 p1 g0 g1)
        | (go_at_call 133; (with_reducible refine (HK.out _).mono ?_); rintro e w1 ⟨rfl, hb1⟩; have p0 := keepcT hb1 C0.out; have p1 := keepcT hb1 C1.out; have g0 := ((bcell hb1).2 w.heap.size 0 (by rw [World.size_alloc]; omega)).trans (F0.out 0); have g1 := ((bcell hb1).2 w.heap.size 1 (by rw [World.size_alloc]; omega)).trans (F0.out 1); have B1 := Lib.hid (HB.out.trans (hb1.mono HB.out.size)); have hl1 : w.heap.size < w1.heap.size := World.block_lt_of_cell? _ _ p0; clear hb1))
      have B3' := B3.out
      exact bodyPost_ret (v := .tuple #[.agg #[.int .i64 a, .string x], .bool true]) (by simp [results, Tryd.results109, go_sem, *]) rfl ⟨ret_atomb HE2.out HE1.out rfl rfl, (by repeat (first | with_reducible exact Below.refl _ _ | with_reducible assumption | with_reducible refine Below.alloc ?_ ?_ _ | with_reducible refine Below.setCell ?_ ?_ _ | with_reducible refine Below.drew ?_ | with_reducible refine below_drewN ?_ _ | with_reducible refine Below.trans ?_ (Below.mono (by assumption) ?_) | omega | ((repeat (first | rw [World.size_alloc] | rw [size_setCell] | rw [size_drewN] | rw [size_drew])); omega) | exact Nat.le_refl _ | (dsimp only; omega) | (simp [World.setCell]; omega)))⟩

end Go.Proofs.YtfjdbchffhbidaaDoor
