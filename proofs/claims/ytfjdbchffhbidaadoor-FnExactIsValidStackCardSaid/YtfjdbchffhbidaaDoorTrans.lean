/-
  CONTRACTS: the notation of an atom, and an atom read, of the program and of the reference.
-/
import Derived.Test.YtfjdbchffhbidaaDoorAtom
import Derived.Test.YtfjdbchffhbidaaDoorPlainParts
import Derived.Shelf.Strings.SlTrimAscii
namespace Go.Proofs.YtfjdbchffhbidaaDoor
open Go.RowKit

theorem keepcT {w w' : World} (hb : Below w.heap.size w w') {b o : Nat} {u : Value} (h : w.cell? ⟨b, o, none⟩ = some u) : w'.cell? ⟨b, o, none⟩ = some u := by
  rw [hb.cell (World.block_lt_of_cell? _ _ h)]; exact h
theorem Pl.fmtE {a : Int} {x : ByteArray} (n1 : ¬ a = 1) (n2 : ¬ a = 2) (n3 : ¬ a = 3) (n4 : ¬ a = 4) (n5 : ¬ a = 5) (n8 : ¬ a = 8) (n9 : ¬ a = 9) (n10 : ¬ a = 10) : Pl.fmtA a x = ⟨#[123]⟩ ++ x ++ ⟨#[125]⟩ := by
  unfold Pl.fmtA; rw [if_neg n1, if_neg n2, if_neg n3, if_neg n4, if_neg n5, if_neg n8, if_neg n9, if_neg n10]

set_option maxHeartbeats 800000 in
theorem notation_any (a : Int) (x : ByteArray) (w : World) (hs : x.size ≤ 1048576) :
    Calls Tryd.prog 164 #[.agg #[.int .i64 a, .string x]] w fun e w' => e = .returned (.string (Pl.fmtA a x)) ∧ Below w.heap.size w w' := by
  have HB := Lib.hid (Joins.below_alloc1 w (.cells #[.int .i64 a, .string x] 143))
  by_cases h : a = 1 ∨ a = 2 ∨ a = 3 ∨ a = 4 ∨ a = 5 ∨ a = 8 ∨ a = 9 ∨ a = 10
  · rcases h with rfl | rfl | rfl | rfl | rfl | rfl | rfl | rfl
    all_goals
      go_enter Tryd.func164, Tryd.ntmps164
      go_wp2
      go_ret
      exact ⟨rfl, HB.out⟩
  · have n1 : ¬ a = 1 := by omega
    have n2 : ¬ a = 2 := by omega
    have n3 : ¬ a = 3 := by omega
    have n4 : ¬ a = 4 := by omega
    have n5 : ¬ a = 5 := by omega
    have n8 : ¬ a = 8 := by omega
    have n9 : ¬ a = 9 := by omega
    have n10 : ¬ a = 10 := by omega
    have E := Lib.hid (Pl.fmtE (x := x) n1 n2 n3 n4 n5 n8 n9 n10)
    clear h
    go_enter Tryd.func164, Tryd.ntmps164
    go_wp2
    go_ret
    exact ⟨ret_str E.out.symm, HB.out⟩

set_option maxHeartbeats 800000 in
theorem l5Format_any (a : Int) (x : ByteArray) (w : World) (hs : x.size ≤ 1048576) :
    Calls Tryd.prog 135 #[.agg #[.int .i64 a, .string x]] w fun e w' => e = .returned (.string (Pl.fmtA a x)) ∧ Below w.heap.size w w' := by
  have HB := Lib.hid (Joins.below_alloc1 w (.cells #[.int .i64 a, .string x] 143))
  by_cases h : a = 1 ∨ a = 2 ∨ a = 3 ∨ a = 4 ∨ a = 5 ∨ a = 8 ∨ a = 9 ∨ a = 10
  · rcases h with rfl | rfl | rfl | rfl | rfl | rfl | rfl | rfl
    all_goals
      go_enter Tryd.func135, Tryd.ntmps135
      go_wp2
      go_ret
      exact ⟨rfl, HB.out⟩
  · have n1 : ¬ a = 1 := by omega
    have n2 : ¬ a = 2 := by omega
    have n3 : ¬ a = 3 := by omega
    have n4 : ¬ a = 4 := by omega
    have n5 : ¬ a = 5 := by omega
    have n8 : ¬ a = 8 := by omega
    have n9 : ¬ a = 9 := by omega
    have n10 : ¬ a = 10 := by omega
    have E := Lib.hid (Pl.fmtE (x := x) n1 n2 n3 n4 n5 n8 n9 n10)
    clear h
    go_enter Tryd.func135, Tryd.ntmps135
    go_wp2
    go_ret
    exact ⟨ret_str E.out.symm, HB.out⟩

set_option maxHeartbeats 400000 in
theorem FormatAtom_yes (a : Int) (x : ByteArray) (w : World) (hs : x.size ≤ 1048576) (h : Pl.atomOk a x = true) :
    Calls Tryd.prog 138 #[.agg #[.int .i64 a, .string x]] w fun e w' => e = .returned (.tuple #[.string (Pl.fmtA a x), .bool true]) ∧ Below w.heap.size w w' := by
  have hs' : x.size ≤ maxLen := by unfold maxLen; omega
  have ca : (w.alloc (.cells #[.int .i64 a, .string x] 143)).cell? ⟨w.heap.size, 0, none⟩ = some (.int .i64 a) := by simp [go_sem]
  have cb : (w.alloc (.cells #[.int .i64 a, .string x] 143)).cell? ⟨w.heap.size, 1, none⟩ = some (.string x) := by simp [go_sem]
  have CA := Lib.hid ca; have CB := Lib.hid cb; clear ca cb
  have HB := Lib.hid (Joins.below_alloc1 w (.cells #[.int .i64 a, .string x] 143))
  go_enter Tryd.func138, Tryd.ntmps138
  go_wp2_with (first
    | (go_at_call 163; (with_reducible refine (IsValidAtom_any _ _ _ hs').mono ?_); rintro e w1 ⟨he, hb1⟩; rw [h] at he; subst he; have c1 := keepcT hb1 CA.out; have c2 := keepcT hb1 CB.out; have B1 := Lib.hid (HB.out.trans (hb1.mono HB.out.size)); clear hb1)
    | (go_at_call 164; (with_reducible refine (notation_any _ _ _ hs).mono ?_); rintro e w2 ⟨rfl, hb2⟩; have B2 := Lib.hid (B1.out.trans (hb2.mono B1.out.size)); clear hb2))
  go_ret2
  exact ⟨rfl, B2.out⟩
set_option maxHeartbeats 400000 in
theorem FormatAtom_no (a : Int) (x : ByteArray) (w : World) (hs : x.size ≤ 1048576) (h : Pl.atomOk a x = false) :
    Calls Tryd.prog 138 #[.agg #[.int .i64 a, .string x]] w fun e w' => e = .returned (.tuple #[.string ⟨#[]⟩, .bool false]) ∧ Below w.heap.size w w' := by
  have hs' : x.size ≤ maxLen := by unfold maxLen; omega
  have HB := Lib.hid (Joins.below_alloc1 w (.cells #[.int .i64 a, .string x] 143))
  go_enter Tryd.func138, Tryd.ntmps138
  go_wp2_with (go_at_call 163; (with_reducible refine (IsValidAtom_any _ _ _ hs').mono ?_); rintro e w1 ⟨he, hb1⟩; rw [h] at he; subst he; have B1 := Lib.hid (HB.out.trans (hb1.mono HB.out.size)); clear hb1)
  go_ret2
  exact ⟨rfl, B1.out⟩

theorem Pl.kindA_no {s : ByteArray} (h : Pl.braced s = false) : Pl.kindA s = (1, s) := by unfold Pl.kindA; rw [if_neg (by rw [h]; decide)]
theorem Pl.kindA_yes {s : ByteArray} (h : Pl.braced s = true) : Pl.kindA s = Pl.kindM (s.extract 1 (s.size - 1)) := by unfold Pl.kindA; rw [if_pos h]
theorem ret_atom {a b : Int} {x y : ByteArray} {p : Int × ByteArray} (h : p = (b, y)) (h1 : a = b) (h2 : x = y) : Ending.returned (.agg #[.int .i64 a, .string x]) = .returned (.agg #[.int .i64 p.1, .string p.2]) := by subst h; subst h1; subst h2; rfl

theorem Pl.kindM_open {m : ByteArray} (a1 : (m.toList == [45, 124]) = false) (a2 : (m.toList == [62]) = false) (a3 : (m.toList == [42, 45, 124]) = false) (s : Pl.isStop m = false) (p : Pl.isPause m = false) :
    Pl.kindM m = (if Pl.byteAt m 0 = 38 then (5, m.extract 1 m.size)
      else if Pl.byteAt m 0 = 94 ∧ Pl.byteAt m (m.size - 1) = 94 ∧ 2 < m.size then (4, m.extract 1 (m.size - 1))
      else if Pl.byteAt m 0 = 94 then (2, m.extract 1 m.size)
      else if Pl.byteAt m (m.size - 1) = 94 then (3, m.extract 0 (m.size - 1))
      else (0, ⟨#[]⟩)) := by
  unfold Pl.kindM
  rw [a1, a2, a3, s, p, if_neg (by decide), if_neg (by decide), if_neg (by decide), if_neg (by decide), if_neg (by decide)]

set_option maxRecDepth 20000 in
set_option maxHeartbeats 3200000 in
theorem l5Kind_any (s : ByteArray) (w : World) (hs : s.size ≤ 1048576) :
    Calls Tryd.prog 133 #[.string s] w fun e w' => e = .returned (.agg #[.int .i64 (Pl.kindA s).1, .string (Pl.kindA s).2]) ∧ Below w.heap.size w w' := by
  by_cases hz : s.size < 3
  · have E := Lib.hid (Pl.kindA_no (s := s) (by unfold Pl.braced; rw [decide_eq_false (by omega)]; rfl))
    have hz' : (s.size : Int) < 3 := by omega
    go_enter Tryd.func133, Tryd.ntmps133
    go_wp2
    exact bodyPost_ret (v := .agg #[.int .i64 1, .string s]) (by simp [results, Tryd.results133, go_sem, *]) rfl ⟨ret_atom E.out rfl rfl, (by repeat (first | with_reducible exact Below.refl _ _ | with_reducible assumption | with_reducible refine Below.alloc ?_ ?_ _ | with_reducible refine Below.setCell ?_ ?_ _ | with_reducible refine Below.drew ?_ | with_reducible refine below_drewN ?_ _ | with_reducible refine Below.trans ?_ (Below.mono (by assumption) ?_) | omega | ((repeat (first | rw [World.size_alloc] | rw [size_setCell] | rw [size_drewN] | rw [size_drew])); omega) | exact Nat.le_refl _ | (dsimp only; omega) | (simp [World.setCell]; omega)))⟩
  have hz' : ¬ (s.size : Int) < 3 := by omega
  have hp : 0 < s.size := by omega
  have hl : s.size - 1 < s.size := by omega
  have e0 := Pl.byteAt_eq s 0 hp
  have e1 := Pl.byteAt_eq s (s.size - 1) hl
  have r0 : (s[0].toNat : Int) < 256 := by have := s[0].toNat_lt; omega
  have r1 : (s[s.size - 1].toNat : Int) < 256 := by have := s[s.size - 1].toNat_lt; omega
  by_cases h0 : (s[0].toNat : Int) = 123
  · by_cases h1 : (s[s.size - 1].toNat : Int) = 125
    · have E := Lib.hid (Pl.kindA_yes (s := s) (by unfold Pl.braced; rw [← e0, ← e1, h0, h1, decide_eq_true (by omega)]; rfl))
      have t0 : ((s[0].toNat : Int) != 123) = false := by rw [h0]; rfl
      have t1 : ((s[s.size - 1].toNat : Int) != 125) = false := by rw [h1]; rfl
      have hm1 : (s.extract 1 (s.size - 1)).size = s.size - 2 := by rw [ByteArray.size_extract]; omega
      have i0 : (0 : Int) ≤ (s.size : Int) - 1 := by omega
      have i1 : (1 : Int) ≤ (s.size : Int) - 1 := by omega
      have i2 : (s.size : Int) - 1 ≤ (s.size : Int) := by omega
      have i3 : ((s.size : Int) - 1).toNat = s.size - 1 := by omega
      clear e0 e1
      obtain ⟨m, hm⟩ : ∃ m, m = s.extract 1 (s.size - 1) := ⟨_, rfl⟩
      rw [← hm] at E hm1
      have HM := Lib.hid hm
      clear hm
      go_enter Tryd.func133, Tryd.ntmps133
      go_upto_region 5 with fail
      rw [← HM.out]
      have mp : 0 < m.size := by omega
      have ml : m.size - 1 < m.size := by omega
      have j0 : (0 : Int) ≤ (m.size : Int) - 1 := by omega
      have j2 : (m.size : Int) - 1 ≤ (m.size : Int) := by omega
      have j3 : ((m.size : Int) - 1).toNat = m.size - 1 := by omega
      have j4 : (1 : Int) ≤ (m.size : Int) := by omega
      have b0 := Pl.byteAt_eq m 0 mp
      have b1 := Pl.byteAt_eq m (m.size - 1) ml
      have q0 : (m[0].toNat : Int) < 256 := by have := m[0].toNat_lt; omega
      have q1 : (m[m.size - 1].toNat : Int) < 256 := by have := m[m.size - 1].toNat_lt; omega
      have mz : m.size ≤ 1048576 := by omega
      clear hm1 HM hp hl r0 r1 h0 h1 t0 t1 hz hz' i0 i1 i2 i3
      by_cases a1y : (m.toList == [45, 124]) = true
      · have a1 := a1y
        clear a1y
        go_wp2
        exact bodyPost_ret (v := .agg #[.int .i64 8, .string ⟨#[]⟩]) (by simp [results, Tryd.results133, go_sem, *]) rfl ⟨ret_atom (E.out.trans (by simp [Pl.kindM, a1])) rfl rfl, (by repeat (first | with_reducible exact Below.refl _ _ | with_reducible assumption | with_reducible refine Below.alloc ?_ ?_ _ | with_reducible refine Below.setCell ?_ ?_ _ | with_reducible refine Below.drew ?_ | with_reducible refine below_drewN ?_ _ | with_reducible refine Below.trans ?_ (Below.mono (by assumption) ?_) | omega | ((repeat (first | rw [World.size_alloc] | rw [size_setCell] | rw [size_drewN] | rw [size_drew])); omega) | exact Nat.le_refl _ | (dsimp only; omega) | (simp [World.setCell]; omega)))⟩
      have a1 := eq_false_of_ne_true a1y
      clear a1y
      by_cases a2y : (m.toList == [62]) = true
      · have a2 := a2y
        clear a2y
        go_wp2
        exact bodyPost_ret (v := .agg #[.int .i64 9, .string ⟨#[]⟩]) (by simp [results, Tryd.results133, go_sem, *]) rfl ⟨ret_atom (E.out.trans (by simp [Pl.kindM, a1, a2])) rfl rfl, (by repeat (first | with_reducible exact Below.refl _ _ | with_reducible assumption | with_reducible refine Below.alloc ?_ ?_ _ | with_reducible refine Below.setCell ?_ ?_ _ | with_reducible refine Below.drew ?_ | with_reducible refine below_drewN ?_ _ | with_reducible refine Below.trans ?_ (Below.mono (by assumption) ?_) | omega | ((repeat (first | rw [World.size_alloc] | rw [size_setCell] | rw [size_drewN] | rw [size_drew])); omega) | exact Nat.le_refl _ | (dsimp only; omega) | (simp [World.setCell]; omega)))⟩
      have a2 := eq_false_of_ne_true a2y
      clear a2y
      by_cases a3y : (m.toList == [42, 45, 124]) = true
      · have a3 := a3y
        clear a3y
        go_wp2
        exact bodyPost_ret (v := .agg #[.int .i64 10, .string ⟨#[]⟩]) (by simp [results, Tryd.results133, go_sem, *]) rfl ⟨ret_atom (E.out.trans (by simp [Pl.kindM, a1, a2, a3])) rfl rfl, (by repeat (first | with_reducible exact Below.refl _ _ | with_reducible assumption | with_reducible refine Below.alloc ?_ ?_ _ | with_reducible refine Below.setCell ?_ ?_ _ | with_reducible refine Below.drew ?_ | with_reducible refine below_drewN ?_ _ | with_reducible refine Below.trans ?_ (Below.mono (by assumption) ?_) | omega | ((repeat (first | rw [World.size_alloc] | rw [size_setCell] | rw [size_drewN] | rw [size_drew])); omega) | exact Nat.le_refl _ | (dsimp only; omega) | (simp [World.setCell]; omega)))⟩
      have a3 := eq_false_of_ne_true a3y
      clear a3y
      by_cases s1y : (m.toList == [46]) = true
      · have s1 := s1y
        clear s1y
        go_wp2
        exact bodyPost_ret (v := .agg #[.int .i64 6, .string m]) (by simp [results, Tryd.results133, go_sem, *]) rfl ⟨ret_atom (E.out.trans (by simp [Pl.kindM, a1, a2, a3, Pl.isStop, s1])) rfl rfl, (by repeat (first | with_reducible exact Below.refl _ _ | with_reducible assumption | with_reducible refine Below.alloc ?_ ?_ _ | with_reducible refine Below.setCell ?_ ?_ _ | with_reducible refine Below.drew ?_ | with_reducible refine below_drewN ?_ _ | with_reducible refine Below.trans ?_ (Below.mono (by assumption) ?_) | omega | ((repeat (first | rw [World.size_alloc] | rw [size_setCell] | rw [size_drewN] | rw [size_drew])); omega) | exact Nat.le_refl _ | (dsimp only; omega) | (simp [World.setCell]; omega)))⟩
      have s1 := eq_false_of_ne_true s1y
      clear s1y
      by_cases s2y : (m.toList == [33]) = true
      · have s2 := s2y
        clear s2y
        go_wp2
        exact bodyPost_ret (v := .agg #[.int .i64 6, .string m]) (by simp [results, Tryd.results133, go_sem, *]) rfl ⟨ret_atom (E.out.trans (by simp [Pl.kindM, a1, a2, a3, Pl.isStop, s1, s2])) rfl rfl, (by repeat (first | with_reducible exact Below.refl _ _ | with_reducible assumption | with_reducible refine Below.alloc ?_ ?_ _ | with_reducible refine Below.setCell ?_ ?_ _ | with_reducible refine Below.drew ?_ | with_reducible refine below_drewN ?_ _ | with_reducible refine Below.trans ?_ (Below.mono (by assumption) ?_) | omega | ((repeat (first | rw [World.size_alloc] | rw [size_setCell] | rw [size_drewN] | rw [size_drew])); omega) | exact Nat.le_refl _ | (dsimp only; omega) | (simp [World.setCell]; omega)))⟩
      have s2 := eq_false_of_ne_true s2y
      clear s2y
      by_cases s3y : (m.toList == [63]) = true
      · have s3 := s3y
        clear s3y
        go_wp2
        exact bodyPost_ret (v := .agg #[.int .i64 6, .string m]) (by simp [results, Tryd.results133, go_sem, *]) rfl ⟨ret_atom (E.out.trans (by simp [Pl.kindM, a1, a2, a3, Pl.isStop, s1, s2, s3])) rfl rfl, (by repeat (first | with_reducible exact Below.refl _ _ | with_reducible assumption | with_reducible refine Below.alloc ?_ ?_ _ | with_reducible refine Below.setCell ?_ ?_ _ | with_reducible refine Below.drew ?_ | with_reducible refine below_drewN ?_ _ | with_reducible refine Below.trans ?_ (Below.mono (by assumption) ?_) | omega | ((repeat (first | rw [World.size_alloc] | rw [size_setCell] | rw [size_drewN] | rw [size_drew])); omega) | exact Nat.le_refl _ | (dsimp only; omega) | (simp [World.setCell]; omega)))⟩
      have s3 := eq_false_of_ne_true s3y
      clear s3y
      by_cases p1y : (m.toList == [44]) = true
      · have p1 := p1y
        clear p1y
        go_wp2
        exact bodyPost_ret (v := .agg #[.int .i64 7, .string m]) (by simp [results, Tryd.results133, go_sem, *]) rfl ⟨ret_atom (E.out.trans (by simp [Pl.kindM, a1, a2, a3, Pl.isStop, s1, s2, s3, Pl.isPause, p1])) rfl rfl, (by repeat (first | with_reducible exact Below.refl _ _ | with_reducible assumption | with_reducible refine Below.alloc ?_ ?_ _ | with_reducible refine Below.setCell ?_ ?_ _ | with_reducible refine Below.drew ?_ | with_reducible refine below_drewN ?_ _ | with_reducible refine Below.trans ?_ (Below.mono (by assumption) ?_) | omega | ((repeat (first | rw [World.size_alloc] | rw [size_setCell] | rw [size_drewN] | rw [size_drew])); omega) | exact Nat.le_refl _ | (dsimp only; omega) | (simp [World.setCell]; omega)))⟩
      have p1 := eq_false_of_ne_true p1y
      clear p1y
      by_cases p2y : (m.toList == [59]) = true
      · have p2 := p2y
        clear p2y
        go_wp2
        exact bodyPost_ret (v := .agg #[.int .i64 7, .string m]) (by simp [results, Tryd.results133, go_sem, *]) rfl ⟨ret_atom (E.out.trans (by simp [Pl.kindM, a1, a2, a3, Pl.isStop, s1, s2, s3, Pl.isPause, p1, p2])) rfl rfl, (by repeat (first | with_reducible exact Below.refl _ _ | with_reducible assumption | with_reducible refine Below.alloc ?_ ?_ _ | with_reducible refine Below.setCell ?_ ?_ _ | with_reducible refine Below.drew ?_ | with_reducible refine below_drewN ?_ _ | with_reducible refine Below.trans ?_ (Below.mono (by assumption) ?_) | omega | ((repeat (first | rw [World.size_alloc] | rw [size_setCell] | rw [size_drewN] | rw [size_drew])); omega) | exact Nat.le_refl _ | (dsimp only; omega) | (simp [World.setCell]; omega)))⟩
      have p2 := eq_false_of_ne_true p2y
      clear p2y
      by_cases p3y : (m.toList == [58]) = true
      · have p3 := p3y
        clear p3y
        go_wp2
        exact bodyPost_ret (v := .agg #[.int .i64 7, .string m]) (by simp [results, Tryd.results133, go_sem, *]) rfl ⟨ret_atom (E.out.trans (by simp [Pl.kindM, a1, a2, a3, Pl.isStop, s1, s2, s3, Pl.isPause, p1, p2, p3])) rfl rfl, (by repeat (first | with_reducible exact Below.refl _ _ | with_reducible assumption | with_reducible refine Below.alloc ?_ ?_ _ | with_reducible refine Below.setCell ?_ ?_ _ | with_reducible refine Below.drew ?_ | with_reducible refine below_drewN ?_ _ | with_reducible refine Below.trans ?_ (Below.mono (by assumption) ?_) | omega | ((repeat (first | rw [World.size_alloc] | rw [size_setCell] | rw [size_drewN] | rw [size_drew])); omega) | exact Nat.le_refl _ | (dsimp only; omega) | (simp [World.setCell]; omega)))⟩
      have p3 := eq_false_of_ne_true p3y
      clear p3y
      have EM := Lib.hid (show Pl.kindM m = _ from Pl.kindM_open a1 a2 a3 (by simp [Pl.isStop, s1, s2, s3]) (by simp [Pl.isPause, p1, p2, p3]))
      by_cases c38 : (m[0].toNat : Int) = 38
      · have u1 : ((m[0].toNat : Int) == 38) = true := by rw [c38]; rfl
        have EK := Lib.hid (E.out.trans (EM.out.trans (by rw [if_pos (b0 ▸ c38)])))
        clear b0 b1 c38 E EM
        go_wp2
        exact bodyPost_ret (v := .agg #[.int .i64 5, .string (m.extract 1 m.size)]) (by simp [results, Tryd.results133, go_sem, *]) rfl ⟨ret_atom EK.out rfl rfl, (by repeat (first | with_reducible exact Below.refl _ _ | with_reducible assumption | with_reducible refine Below.alloc ?_ ?_ _ | with_reducible refine Below.setCell ?_ ?_ _ | with_reducible refine Below.drew ?_ | with_reducible refine below_drewN ?_ _ | with_reducible refine Below.trans ?_ (Below.mono (by assumption) ?_) | omega | ((repeat (first | rw [World.size_alloc] | rw [size_setCell] | rw [size_drewN] | rw [size_drew])); omega) | exact Nat.le_refl _ | (dsimp only; omega) | (simp [World.setCell]; omega)))⟩
      have u1 : ((m[0].toNat : Int) == 38) = false := beq_eq_false_iff_ne.2 c38
      by_cases c94 : (m[0].toNat : Int) = 94
      · have u2 : ((m[0].toNat : Int) == 94) = true := by rw [c94]; rfl
        by_cases l94 : (m[m.size - 1].toNat : Int) = 94 ∧ 2 < m.size
        · have u3 : ((m[m.size - 1].toNat : Int) == 94) = true := by rw [l94.1]; rfl
          have u4 : (2 : Int) < (m.size : Int) := by omega
          have u5 : decide ((2 : Int) < (m.size : Int)) = true := decide_eq_true u4
          have EK := Lib.hid (E.out.trans (EM.out.trans (by rw [if_neg (b0 ▸ c38), if_pos ⟨b0 ▸ c94, b1 ▸ l94.1, l94.2⟩])))
          have j5 : (1 : Int) ≤ (m.size : Int) - 1 := by omega
          clear b0 b1 c38 c94 E EM l94
          go_wp2
          exact bodyPost_ret (v := .agg #[.int .i64 4, .string (m.extract 1 (m.size - 1))]) (by simp [results, Tryd.results133, go_sem, *]) rfl ⟨ret_atom EK.out rfl rfl, (by repeat (first | with_reducible exact Below.refl _ _ | with_reducible assumption | with_reducible refine Below.alloc ?_ ?_ _ | with_reducible refine Below.setCell ?_ ?_ _ | with_reducible refine Below.drew ?_ | with_reducible refine below_drewN ?_ _ | with_reducible refine Below.trans ?_ (Below.mono (by assumption) ?_) | omega | ((repeat (first | rw [World.size_alloc] | rw [size_setCell] | rw [size_drewN] | rw [size_drew])); omega) | exact Nat.le_refl _ | (dsimp only; omega) | (simp [World.setCell]; omega)))⟩
        · have EK := Lib.hid (E.out.trans (EM.out.trans (by rw [if_neg (b0 ▸ c38), if_neg (fun h => l94 ⟨b1 ▸ h.2.1, h.2.2⟩), if_pos (b0 ▸ c94)])))
          by_cases x94 : (m[m.size - 1].toNat : Int) = 94
          · have u3 : ((m[m.size - 1].toNat : Int) == 94) = true := by rw [x94]; rfl
            have u4 : ¬ (2 : Int) < (m.size : Int) := fun h => l94 ⟨x94, by omega⟩
            have u5 : decide ((2 : Int) < (m.size : Int)) = false := decide_eq_false u4
            clear b0 b1 c38 c94 E EM l94
            go_wp2
            exact bodyPost_ret (v := .agg #[.int .i64 2, .string (m.extract 1 m.size)]) (by simp [results, Tryd.results133, go_sem, *]) rfl ⟨ret_atom EK.out rfl rfl, (by repeat (first | with_reducible exact Below.refl _ _ | with_reducible assumption | with_reducible refine Below.alloc ?_ ?_ _ | with_reducible refine Below.setCell ?_ ?_ _ | with_reducible refine Below.drew ?_ | with_reducible refine below_drewN ?_ _ | with_reducible refine Below.trans ?_ (Below.mono (by assumption) ?_) | omega | ((repeat (first | rw [World.size_alloc] | rw [size_setCell] | rw [size_drewN] | rw [size_drew])); omega) | exact Nat.le_refl _ | (dsimp only; omega) | (simp [World.setCell]; omega)))⟩
          · have u3 : ((m[m.size - 1].toNat : Int) == 94) = false := beq_eq_false_iff_ne.2 x94
            clear b0 b1 c38 c94 E EM l94
            go_wp2
            exact bodyPost_ret (v := .agg #[.int .i64 2, .string (m.extract 1 m.size)]) (by simp [results, Tryd.results133, go_sem, *]) rfl ⟨ret_atom EK.out rfl rfl, (by repeat (first | with_reducible exact Below.refl _ _ | with_reducible assumption | with_reducible refine Below.alloc ?_ ?_ _ | with_reducible refine Below.setCell ?_ ?_ _ | with_reducible refine Below.drew ?_ | with_reducible refine below_drewN ?_ _ | with_reducible refine Below.trans ?_ (Below.mono (by assumption) ?_) | omega | ((repeat (first | rw [World.size_alloc] | rw [size_setCell] | rw [size_drewN] | rw [size_drew])); omega) | exact Nat.le_refl _ | (dsimp only; omega) | (simp [World.setCell]; omega)))⟩
      have u2 : ((m[0].toNat : Int) == 94) = false := beq_eq_false_iff_ne.2 c94
      by_cases x94 : (m[m.size - 1].toNat : Int) = 94
      · have u3 : ((m[m.size - 1].toNat : Int) == 94) = true := by rw [x94]; rfl
        have EK := Lib.hid (E.out.trans (EM.out.trans (by rw [if_neg (b0 ▸ c38), if_neg (fun h => c94 (b0 ▸ h.1)), if_neg (b0 ▸ c94), if_pos (b1 ▸ x94)])))
        clear b0 b1 c38 c94 E EM
        go_wp2
        exact bodyPost_ret (v := .agg #[.int .i64 3, .string (m.extract 0 (m.size - 1))]) (by simp [results, Tryd.results133, go_sem, *]) rfl ⟨ret_atom EK.out rfl rfl, (by repeat (first | with_reducible exact Below.refl _ _ | with_reducible assumption | with_reducible refine Below.alloc ?_ ?_ _ | with_reducible refine Below.setCell ?_ ?_ _ | with_reducible refine Below.drew ?_ | with_reducible refine below_drewN ?_ _ | with_reducible refine Below.trans ?_ (Below.mono (by assumption) ?_) | omega | ((repeat (first | rw [World.size_alloc] | rw [size_setCell] | rw [size_drewN] | rw [size_drew])); omega) | exact Nat.le_refl _ | (dsimp only; omega) | (simp [World.setCell]; omega)))⟩
      · have u3 : ((m[m.size - 1].toNat : Int) == 94) = false := beq_eq_false_iff_ne.2 x94
        have EK := Lib.hid (E.out.trans (EM.out.trans (by rw [if_neg (b0 ▸ c38), if_neg (fun h => c94 (b0 ▸ h.1)), if_neg (b0 ▸ c94), if_neg (b1 ▸ x94)])))
        clear b0 b1 c38 c94 E EM
        go_wp2
        exact bodyPost_ret (v := .agg #[.int .i64 0, .string (⟨#[]⟩ : ByteArray)]) (by simp [results, Tryd.results133, go_sem, *]) rfl ⟨ret_atom EK.out rfl rfl, (by repeat (first | with_reducible exact Below.refl _ _ | with_reducible assumption | with_reducible refine Below.alloc ?_ ?_ _ | with_reducible refine Below.setCell ?_ ?_ _ | with_reducible refine Below.drew ?_ | with_reducible refine below_drewN ?_ _ | with_reducible refine Below.trans ?_ (Below.mono (by assumption) ?_) | omega | ((repeat (first | rw [World.size_alloc] | rw [size_setCell] | rw [size_drewN] | rw [size_drew])); omega) | exact Nat.le_refl _ | (dsimp only; omega) | (simp [World.setCell]; omega)))⟩
    · have E := Lib.hid (Pl.kindA_no (s := s) (by unfold Pl.braced; rw [← e1, beq_eq_false_iff_ne.2 h1, Bool.and_false]))
      have t0 : ((s[0].toNat : Int) != 123) = false := by rw [h0]; rfl
      have t1 : ((s[s.size - 1].toNat : Int) != 125) = true := by rw [bne_iff_ne]; exact h1
      clear e0 e1
      go_enter Tryd.func133, Tryd.ntmps133
      go_wp2
      exact bodyPost_ret (v := .agg #[.int .i64 1, .string s]) (by simp [results, Tryd.results133, go_sem, *]) rfl ⟨ret_atom E.out rfl rfl, (by repeat (first | with_reducible exact Below.refl _ _ | with_reducible assumption | with_reducible refine Below.alloc ?_ ?_ _ | with_reducible refine Below.setCell ?_ ?_ _ | with_reducible refine Below.drew ?_ | with_reducible refine below_drewN ?_ _ | with_reducible refine Below.trans ?_ (Below.mono (by assumption) ?_) | omega | ((repeat (first | rw [World.size_alloc] | rw [size_setCell] | rw [size_drewN] | rw [size_drew])); omega) | exact Nat.le_refl _ | (dsimp only; omega) | (simp [World.setCell]; omega)))⟩
  · have E := Lib.hid (Pl.kindA_no (s := s) (by unfold Pl.braced; rw [← e0, beq_eq_false_iff_ne.2 h0, Bool.and_false, Bool.false_and]))
    have t0 : ((s[0].toNat : Int) != 123) = true := by rw [bne_iff_ne]; exact h0
    clear e0 e1
    go_enter Tryd.func133, Tryd.ntmps133
    go_wp2
    exact bodyPost_ret (v := .agg #[.int .i64 1, .string s]) (by simp [results, Tryd.results133, go_sem, *]) rfl ⟨ret_atom E.out rfl rfl, (by repeat (first | with_reducible exact Below.refl _ _ | with_reducible assumption | with_reducible refine Below.alloc ?_ ?_ _ | with_reducible refine Below.setCell ?_ ?_ _ | with_reducible refine Below.drew ?_ | with_reducible refine below_drewN ?_ _ | with_reducible refine Below.trans ?_ (Below.mono (by assumption) ?_) | omega | ((repeat (first | rw [World.size_alloc] | rw [size_setCell] | rw [size_drewN] | rw [size_drew])); omega) | exact Nat.le_refl _ | (dsimp only; omega) | (simp [World.setCell]; omega)))⟩

end Go.Proofs.YtfjdbchffhbidaaDoor
